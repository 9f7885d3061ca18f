/- Lifted functions, each a constant: runes, rising and falling. -/
import Derived.Test.YtanpdopjgepbkaaSA
set_option linter.unusedVariables false
namespace Go.Proofs.Ytanpdopjgepbkaa.AM
open Go

def LF44 : LFunc :=
  .mk 1 [.tmp 2] (.seq (.region [.mk (some 1) (.e (.boxH 1 (.s 0))) none, .mk (some 2) (.p (.mv (.c .nilFunc))) none] [1] []) (.seq (.region [.mk (some 3) (.p (.mkfn (.func 75) []
  [.s 1])) none, .mk (some 2) (.p (.mv (.s 3))) none] [2] []) .ret))
theorem fn44 : (autoPrg Try.prog).fn 44 = some LF44 := by kernel_rfl

def LF75 : LFunc :=
  .mk 2 [] (.seq (.region [.mk (some 6) (.r (.load none (.s 1))) none, .mk (some 7) (.p (.nilck (.s 6))) none, .mk (some 8) (.p (.faddr 0 (.s 7))) none, .mk (some 9) (.r (.load none
  (.s 8))) none, .mk (some 10) (.p (.len (.s 9))) none, .mk (some 11) (.p (.mv (.c (.int .i64 0)))) none] [0, 9, 10, 11] []) (.block 0 (.loop (.seq (.region [.mk (some 12) (.p (.bin
  .lss (.s 11) (.s 10))) none] [0, 9, 10, 11, 12] []) (.seq (.cond (.s 12) .skip (.exit 0)) (.seq (.block 1 (.seq (.region [.mk (some 13) (.p (.iaddr 2 (.s 9) (.s 11))) none, .mk
  (some 14) (.r (.load (some 2) (.s 13))) none, .mk (some 4) (.e (.newL 4 [.int .i64 0, .int .i64 0])) none, .mk none (.e (.store 2 (.s 4) (.s 14))) none] [0, 4, 9, 10, 11] [])
  (.seq (.region [.mk (some 15) (.p (.faddr 0 (.s 4))) none, .mk (some 16) (.r (.load none (.s 15))) none, .mk (some 5) (.p (.mv (.s 16))) none] [0, 4, 5, 9, 10, 11] []) (.block 2
  (.loop (.seq (.seq (.region [.mk (some 17) (.p (.mv (.s 5))) none, .mk (some 18) (.p (.faddr 1 (.s 4))) none, .mk (some 19) (.r (.load none (.s 18))) none, .mk (some 20) (.p (.bin
  .lss (.s 17) (.s 19))) none] [0, 4, 5, 9, 10, 11, 20] []) (.cond (.s 20) .skip (.exit 2))) (.seq (.block 3 (.seq (.region [.mk (some 23) (.p (.mv (.s 0))) none, .mk (some 24) (.p
  (.mv (.s 5))) none, .mk (some 25) (.e (.call 60 [.s 24])) none, .mk (some 26) (.e (.callv (.s 23) [.s 25])) none, .mk (some 27) (.p (.un .not (.s 26))) none] [0, 4, 5, 9, 10, 11,
  27] []) (.cond (.s 27) .ret .skip))) (.region [.mk (some 21) (.p (.mv (.s 5))) none, .mk (some 22) (.p (.bin .add (.s 21) (.c (.int .i64 1)))) none, .mk (some 5) (.p (.mv (.s
  22))) none] [0, 4, 5, 9, 10, 11] [])))))))) (.region [.mk (some 28) (.p (.bin .add (.s 11) (.c (.int .i64 1)))) none, .mk (some 11) (.p (.mv (.s 28))) none] [0, 9, 10, 11]
  [])))))))
theorem fn75 : (autoPrg Try.prog).fn 75 = some LF75 := by kernel_rfl

def LF10 : LFunc :=
  .mk 2 [.cell 4 none] (.seq (.region [.mk (some 3) (.e (.boxH 1 (.s 1))) none, .mk (some 4) (.e (.newH [.bool false])) none] [0, 3, 4] []) (.seq (.seq (.region [.mk (some 15) (.e
  (.call 14 [])) none, .mk (some 16) (.p (.un .not (.s 15))) none] [0, 3, 4, 16] []) (.cond (.s 16) (.seq (.region [.mk none (.e (.store 1 (.s 4) (.c (.bool false)))) none] [4] [])
  .ret) .skip)) (.seq (.region [.mk (some 18) (.p (.mv (.s 0))) none, .mk (some 19) (.e (.call 15 [.s 18])) none, .mk (some 20) (.e (.call 17 [.s 19])) none, .mk (some 17) (.p (.mv
  (.s 20))) none, .mk (some 21) (.p (.ext 0 (.s 17))) none, .mk (some 22) (.p (.ext 1 (.s 17))) none, .mk (some 23) (.p (.ext 2 (.s 17))) none, .mk (some 6) (.e (.newH [.slice none
  0 0])) none, .mk (some 5) (.p (.mv (.s 21))) none, .mk none (.e (.store 1 (.s 6) (.s 22))) none, .mk (some 7) (.p (.mv (.s 23))) none] [3, 4, 5, 6, 7] []) (.seq (.seq (.region
  [.mk (some 24) (.p (.mv (.s 7))) none, .mk (some 25) (.p (.un .not (.s 24))) none, .mk (some 26) (.p (.mv (.s 25))) none, .mk (some 27) (.p (.mv (.s 5))) (some (26, false)), .mk
  (some 28) (.p (.eqk false .ptr (.s 27) (.c (.pointer none)))) (some (26, false)), .mk (some 29) (.p (.pick (.s 26) (.c (.bool true)) (.s 28))) none] [3, 4, 5, 6, 7, 29] []) (.cond
  (.s 29) (.seq (.region [.mk (some 30) (.p (.mv (.s 7))) none, .mk none (.e (.store 1 (.s 4) (.s 30))) none] [4] []) .ret) .skip)) (.seq (.region [.mk (some 31) (.r (.load none (.s
  6))) none, .mk (some 32) (.e (.call 21 [.s 31])) none, .mk (some 8) (.e (.newH [.int .i64 0])) none, .mk none (.e (.store 1 (.s 8) (.s 32))) none] [3, 4, 5, 6, 8] []) (.seq
  (.region [.mk (some 33) (.p (.mv (.s 5))) none, .mk (some 34) (.e (.call 44 [.s 33])) none, .mk (some 9) (.p (.mv (.s 34))) none] [3, 4, 5, 6, 8, 9] []) (.seq (.region [.mk (some
  35) (.p (.mv (.s 5))) none, .mk (some 36) (.e (.call 45 [.s 35])) none, .mk (some 10) (.p (.mv (.s 36))) none] [3, 4, 6, 8, 9, 10] []) (.seq (.seq (.region [.mk (some 37) (.p (.mv
  (.s 9))) none, .mk (some 38) (.p (.eqk false .func (.s 37) (.c .nilFunc))) none, .mk (some 39) (.p (.mv (.s 38))) none, .mk (some 40) (.p (.mv (.s 10))) (some (39, false)), .mk
  (some 41) (.p (.eqk false .func (.s 40) (.c .nilFunc))) (some (39, false)), .mk (some 42) (.p (.pick (.s 39) (.c (.bool true)) (.s 41))) none] [3, 4, 6, 8, 9, 10, 42] []) (.cond
  (.s 42) (.seq (.region [.mk none (.e (.store 1 (.s 4) (.c (.bool false)))) none] [4] []) .ret) .skip)) (.seq (.region [.mk (some 43) (.r (.load none (.s 3))) none, .mk (some 44)
  (.e (.call 46 [.s 43, .c (.int .i64 1), .c (.int .i64 3000)])) none, .mk none (.e (.store 1 (.s 3) (.s 44))) none] [3, 4, 6, 8, 9, 10] []) (.seq (.seq (.region [.mk (some 11) (.p
  (.mv (.c (.int .i64 0)))) none] [3, 4, 6, 8, 9, 10, 11] []) (.block 0 (.loop (.seq (.seq (.region [.mk (some 45) (.p (.mv (.s 11))) none, .mk (some 46) (.p (.bin .lss (.s 45) (.c
  (.int .i64 2)))) none] [3, 4, 6, 8, 9, 10, 11, 46] []) (.cond (.s 46) .skip (.exit 0))) (.seq (.block 1 (.seq (.region [.mk (some 12) (.e (.newH [.int .i64 0])) none, .mk none (.e
  (.store 1 (.s 12) (.c (.int .i64 0)))) none] [3, 4, 6, 8, 9, 10, 11, 12] []) (.seq (.seq (.region [.mk (some 49) (.p (.mv (.s 9))) none] [3, 4, 6, 8, 9, 10, 11, 12, 49] [])
  (.block 2 (.rangeF (.s 49) [50] (.region [.mk (some 13) (.p (.mv (.s 50))) none] [3, 4, 6, 8, 12, 13] []) (.block 3 (.seq (.seq (.region [.mk (some 51) (.r (.load none (.s 12)))
  none, .mk (some 52) (.r (.load none (.s 8))) none, .mk (some 53) (.p (.bin .geq (.s 51) (.s 52))) none, .mk (some 54) (.p (.mv (.s 53))) none, .mk (some 55) (.p (.mv (.s 13)))
  (some (54, false)), .mk (some 56) (.r (.load none (.s 6))) (some (54, false)), .mk (some 57) (.r (.load none (.s 12))) (some (54, false)), .mk (some 58) (.e (.call 38 [.s 56, .s
  57])) (some (54, false)), .mk (some 59) (.p (.bin .neq (.s 55) (.s 58))) (some (54, false)), .mk (some 60) (.p (.pick (.s 54) (.c (.bool true)) (.s 59))) none] [3, 4, 12, 60] [])
  (.cond (.s 60) (.seq (.region [.mk none (.e (.store 1 (.s 4) (.c (.bool false)))) none] [] []) .ret) .skip)) (.seq (.region [.mk (some 61) (.r (.load none (.s 12))) none, .mk
  (some 62) (.p (.bin .add (.s 61) (.c (.int .i64 1)))) none, .mk none (.e (.store 1 (.s 12) (.s 62))) none] [3, 12] []) (.seq (.region [.mk (some 63) (.r (.load none (.s 12)))
  none, .mk (some 64) (.r (.load none (.s 3))) none, .mk (some 65) (.p (.bin .eql (.s 63) (.s 64))) none] [65] []) (.cond (.s 65) (.exit 2) .skip)))))))) (.seq (.seq (.region [.mk
  (some 66) (.r (.load none (.s 12))) none, .mk (some 67) (.r (.load none (.s 3))) none, .mk (some 68) (.p (.bin .neq (.s 66) (.s 67))) none, .mk (some 69) (.p (.mv (.s 68))) none,
  .mk (some 70) (.r (.load none (.s 12))) (some (69, true)), .mk (some 71) (.r (.load none (.s 8))) (some (69, true)), .mk (some 72) (.p (.bin .neq (.s 70) (.s 71))) (some (69,
  true)), .mk (some 73) (.p (.pick (.s 69) (.s 72) (.c (.bool false)))) none] [3, 4, 6, 8, 9, 10, 11, 12, 73] []) (.cond (.s 73) (.seq (.region [.mk none (.e (.store 1 (.s 4) (.c
  (.bool false)))) none] [4] []) .ret) .skip)) (.seq (.region [.mk none (.e (.store 1 (.s 12) (.c (.int .i64 0)))) none] [3, 4, 6, 8, 9, 10, 11, 12] []) (.seq (.seq (.region [.mk
  (some 74) (.p (.mv (.s 10))) none] [3, 4, 6, 8, 9, 10, 11, 12, 74] []) (.block 4 (.rangeF (.s 74) [75] (.region [.mk (some 14) (.p (.mv (.s 75))) none] [3, 4, 6, 8, 12, 14] [])
  (.block 5 (.seq (.region [.mk (some 76) (.r (.load none (.s 12))) none, .mk (some 77) (.p (.bin .add (.s 76) (.c (.int .i64 1)))) none, .mk none (.e (.store 1 (.s 12) (.s 77)))
  none] [3, 4, 6, 8, 12, 14] []) (.seq (.seq (.region [.mk (some 78) (.r (.load none (.s 12))) none, .mk (some 79) (.r (.load none (.s 8))) none, .mk (some 80) (.p (.bin .gtr (.s
  78) (.s 79))) none, .mk (some 81) (.p (.mv (.s 80))) none, .mk (some 82) (.p (.mv (.s 14))) (some (81, false)), .mk (some 83) (.r (.load none (.s 6))) (some (81, false)), .mk
  (some 84) (.r (.load none (.s 8))) (some (81, false)), .mk (some 85) (.r (.load none (.s 12))) (some (81, false)), .mk (some 86) (.p (.bin .sub (.s 84) (.s 85))) (some (81,
  false)), .mk (some 87) (.e (.call 38 [.s 83, .s 86])) (some (81, false)), .mk (some 88) (.p (.bin .neq (.s 82) (.s 87))) (some (81, false)), .mk (some 89) (.p (.pick (.s 81) (.c
  (.bool true)) (.s 88))) none] [3, 4, 12, 89] []) (.cond (.s 89) (.seq (.region [.mk none (.e (.store 1 (.s 4) (.c (.bool false)))) none] [] []) .ret) .skip)) (.seq (.region [.mk
  (some 90) (.r (.load none (.s 12))) none, .mk (some 91) (.r (.load none (.s 3))) none, .mk (some 92) (.p (.bin .eql (.s 90) (.s 91))) none] [92] []) (.cond (.s 92) (.exit 4)
  .skip)))))))) (.seq (.region [.mk (some 93) (.r (.load none (.s 12))) none, .mk (some 94) (.r (.load none (.s 3))) none, .mk (some 95) (.p (.bin .neq (.s 93) (.s 94))) none, .mk
  (some 96) (.p (.mv (.s 95))) none, .mk (some 97) (.r (.load none (.s 12))) (some (96, true)), .mk (some 98) (.r (.load none (.s 8))) (some (96, true)), .mk (some 99) (.p (.bin
  .neq (.s 97) (.s 98))) (some (96, true)), .mk (some 100) (.p (.pick (.s 96) (.s 99) (.c (.bool false)))) none] [3, 4, 6, 8, 9, 10, 11, 100] []) (.cond (.s 100) (.seq (.region [.mk
  none (.e (.store 1 (.s 4) (.c (.bool false)))) none] [4] []) .ret) .skip)))))))) (.region [.mk (some 47) (.p (.mv (.s 11))) none, .mk (some 48) (.p (.bin .add (.s 47) (.c (.int
  .i64 1)))) none, .mk (some 11) (.p (.mv (.s 48))) none] [3, 4, 6, 8, 9, 10, 11] [])))))) (.seq (.region [.mk none (.e (.store 1 (.s 4) (.c (.bool true)))) none] [4] [])
  .ret)))))))))))
theorem fn10 : (autoPrg Try.prog).fn 10 = some LF10 := by kernel_rfl

def LF45 : LFunc :=
  .mk 1 [.tmp 2] (.seq (.region [.mk (some 1) (.e (.boxH 1 (.s 0))) none, .mk (some 2) (.p (.mv (.c .nilFunc))) none] [1] []) (.seq (.region [.mk (some 3) (.p (.mkfn (.func 76) []
  [.s 1])) none, .mk (some 2) (.p (.mv (.s 3))) none] [2] []) .ret))
theorem fn45 : (autoPrg Try.prog).fn 45 = some LF45 := by kernel_rfl

def LF76 : LFunc :=
  .mk 2 [] (.seq (.region [.mk (some 2) (.e (.boxH 1 (.s 0))) none] [1, 2] []) (.seq (.region [.mk (some 6) (.r (.load none (.s 1))) none, .mk (some 7) (.p (.nilck (.s 6))) none,
  .mk (some 8) (.p (.faddr 0 (.s 7))) none, .mk (some 9) (.r (.load none (.s 8))) none, .mk (some 10) (.e (.call 77 [.s 9])) none] [2, 10] []) (.block 0 (.rangeF (.s 10) [11, 12]
  (.region [.mk (some 4) (.e (.newL 4 [.int .i64 0, .int .i64 0])) none, .mk none (.e (.store 2 (.s 4) (.s 12))) none] [2, 4] []) (.block 1 (.seq (.region [.mk (some 13) (.p (.faddr
  1 (.s 4))) none, .mk (some 14) (.r (.load none (.s 13))) none, .mk (some 15) (.p (.bin .sub (.s 14) (.c (.int .i64 1)))) none, .mk (some 5) (.p (.mv (.s 15))) none] [2, 4, 5] [])
  (.block 2 (.loop (.seq (.seq (.region [.mk (some 16) (.p (.mv (.s 5))) none, .mk (some 17) (.p (.faddr 0 (.s 4))) none, .mk (some 18) (.r (.load none (.s 17))) none, .mk (some 19)
  (.p (.bin .geq (.s 16) (.s 18))) none] [2, 4, 5, 19] []) (.cond (.s 19) .skip (.exit 2))) (.seq (.block 3 (.seq (.region [.mk (some 22) (.r (.load none (.s 2))) none, .mk (some
  23) (.p (.mv (.s 5))) none, .mk (some 24) (.e (.call 60 [.s 23])) none, .mk (some 25) (.e (.callv (.s 22) [.s 24])) none, .mk (some 26) (.p (.un .not (.s 25))) none] [2, 4, 5, 26]
  [(0, 3)]) (.cond (.s 26) .ret .skip))) (.region [.mk (some 20) (.p (.mv (.s 5))) none, .mk (some 21) (.p (.bin .sub (.s 20) (.c (.int .i64 1)))) none, .mk (some 5) (.p (.mv (.s
  21))) none] [2, 4, 5] [])))))))))))
theorem fn76 : (autoPrg Try.prog).fn 76 = some LF76 := by kernel_rfl

def LF77 : LFunc :=
  .mk 1 [.tmp 2] (.seq (.region [.mk (some 1) (.e (.boxH 1 (.s 0))) none, .mk (some 2) (.p (.mv (.c .nilFunc))) none] [1] []) (.seq (.region [.mk (some 3) (.p (.mkfn (.func 90) []
  [.s 1])) none, .mk (some 2) (.p (.mv (.s 3))) none] [2] []) .ret))
theorem fn77 : (autoPrg Try.prog).fn 77 = some LF77 := by kernel_rfl

def LF90 : LFunc :=
  .mk 2 [] (.seq (.region [.mk (some 4) (.r (.load none (.s 1))) none, .mk (some 5) (.p (.len (.s 4))) none, .mk (some 6) (.p (.bin .sub (.s 5) (.c (.int .i64 1)))) none, .mk (some
  3) (.p (.mv (.s 6))) none] [0, 1, 3] []) (.block 0 (.loop (.seq (.seq (.region [.mk (some 7) (.p (.mv (.s 3))) none, .mk (some 8) (.p (.bin .geq (.s 7) (.c (.int .i64 0)))) none]
  [0, 1, 3, 8] []) (.cond (.s 8) .skip (.exit 0))) (.seq (.block 1 (.seq (.region [.mk (some 11) (.p (.mv (.s 0))) none, .mk (some 12) (.p (.mv (.s 3))) none, .mk (some 13) (.r
  (.load none (.s 1))) none, .mk (some 14) (.p (.mv (.s 3))) none, .mk (some 15) (.p (.iaddr 2 (.s 13) (.s 14))) none, .mk (some 16) (.r (.load (some 2) (.s 15))) none, .mk (some
  17) (.e (.callv (.s 11) [.s 12, .s 16])) none, .mk (some 18) (.p (.un .not (.s 17))) none] [0, 1, 3, 18] []) (.cond (.s 18) .ret .skip))) (.region [.mk (some 9) (.p (.mv (.s 3)))
  none, .mk (some 10) (.p (.bin .sub (.s 9) (.c (.int .i64 1)))) none, .mk (some 3) (.p (.mv (.s 10))) none] [0, 1, 3] []))))))
theorem fn90 : (autoPrg Try.prog).fn 90 = some LF90 := by kernel_rfl

def LF46 : LFunc :=
  .mk 3 [.tmp 6] (.seq (.region [.mk (some 6) (.p (.mv (.c (.int .i64 0)))) none] [0, 1, 2] []) (.seq (.region [.mk (some 7) (.p (.mv (.s 0))) none, .mk (some 8) (.p (.mv (.s 2)))
  none, .mk (some 9) (.p (.mv (.s 1))) none, .mk (some 10) (.p (.bin .sub (.s 8) (.s 9))) none, .mk (some 11) (.p (.bin .add (.s 10) (.c (.int .i64 1)))) none, .mk (some 12) (.p
  (.bin .rem (.s 7) (.s 11))) none, .mk (some 0) (.p (.mv (.s 12))) none] [0, 1, 2] []) (.seq (.seq (.region [.mk (some 13) (.p (.mv (.s 0))) none, .mk (some 14) (.p (.bin .lss (.s
  13) (.c (.int .i64 0)))) none] [0, 1, 2, 14] []) (.cond (.s 14) (.region [.mk (some 15) (.p (.mv (.s 0))) none, .mk (some 16) (.p (.mv (.s 2))) none, .mk (some 17) (.p (.bin .add
  (.s 15) (.s 16))) none, .mk (some 18) (.p (.mv (.s 1))) none, .mk (some 19) (.p (.bin .sub (.s 17) (.s 18))) none, .mk (some 20) (.p (.bin .add (.s 19) (.c (.int .i64 1)))) none,
  .mk (some 0) (.p (.mv (.s 20))) none] [0, 1] []) .skip)) (.seq (.region [.mk (some 21) (.p (.mv (.s 1))) none, .mk (some 22) (.p (.mv (.s 0))) none, .mk (some 23) (.p (.bin .add
  (.s 21) (.s 22))) none, .mk (some 6) (.p (.mv (.s 23))) none] [6] []) .ret))))
theorem fn46 : (autoPrg Try.prog).fn 46 = some LF46 := by kernel_rfl

end Go.Proofs.Ytanpdopjgepbkaa.AM
