/- Lifted functions, each a constant: membership; the law SetsRanks. -/
import Derived.Test.YtanpdopjgepbkaaSA
set_option linter.unusedVariables false
namespace Go.Proofs.Ytanpdopjgepbkaa.AM
open Go

def LF84 : LFunc :=
  .mk 3 [.tmp 6, .tmp 7] (.seq (.region [.mk (some 6) (.p (.mv (.c (.int .i64 0)))) none, .mk (some 7) (.p (.mv (.c (.bool false)))) none] [0, 1, 2] []) (.seq (.region [.mk (some
  12) (.p (.mv (.s 0))) none, .mk (some 13) (.p (.len (.s 12))) none, .mk (some 8) (.p (.mv (.s 13))) none] [0, 1, 2, 8] []) (.seq (.region [.mk (some 14) (.p (.mv (.s 8))) none,
  .mk (some 9) (.p (.mv (.c (.int .i64 0)))) none, .mk (some 10) (.p (.mv (.s 14))) none] [0, 1, 2, 8, 9, 10] []) (.seq (.block 0 (.loop (.seq (.seq (.region [.mk (some 15) (.p (.mv
  (.s 9))) none, .mk (some 16) (.p (.mv (.s 10))) none, .mk (some 17) (.p (.bin .lss (.s 15) (.s 16))) none] [0, 1, 2, 8, 9, 10, 17] []) (.cond (.s 17) .skip (.exit 0))) (.block 1
  (.seq (.region [.mk (some 18) (.p (.mv (.s 9))) none, .mk (some 19) (.p (.mv (.s 10))) none, .mk (some 20) (.p (.bin .add (.s 18) (.s 19))) none, .mk (some 21) (.p (.conv .u64 (.s
  20))) none, .mk (some 22) (.p (.bin .shr (.s 21) (.c (.int .u64 1)))) none, .mk (some 23) (.p (.conv .i64 (.s 22))) none, .mk (some 11) (.p (.mv (.s 23))) none] [0, 1, 2, 8, 9,
  10, 11] []) (.seq (.region [.mk (some 24) (.p (.mv (.s 2))) none, .mk (some 25) (.p (.mv (.s 0))) none, .mk (some 26) (.p (.mv (.s 11))) none, .mk (some 27) (.p (.iaddr 2 (.s 25)
  (.s 26))) none, .mk (some 28) (.r (.load (some 2) (.s 27))) none, .mk (some 29) (.p (.mv (.s 1))) none, .mk (some 30) (.e (.callv (.s 24) [.s 28, .s 29])) none, .mk (some 31) (.p
  (.bin .lss (.s 30) (.c (.int .i64 0)))) none] [0, 1, 2, 8, 9, 10, 11, 31] []) (.cond (.s 31) (.region [.mk (some 32) (.p (.mv (.s 11))) none, .mk (some 33) (.p (.bin .add (.s 32)
  (.c (.int .i64 1)))) none, .mk (some 9) (.p (.mv (.s 33))) none] [0, 1, 2, 8, 9, 10] []) (.region [.mk (some 34) (.p (.mv (.s 11))) none, .mk (some 10) (.p (.mv (.s 34))) none]
  [0, 1, 2, 8, 9, 10] [])))))))) (.seq (.region [.mk (some 35) (.p (.mv (.s 9))) none, .mk (some 36) (.p (.mv (.s 9))) none, .mk (some 37) (.p (.mv (.s 8))) none, .mk (some 38) (.p
  (.bin .lss (.s 36) (.s 37))) none, .mk (some 39) (.p (.mv (.s 38))) none, .mk (some 40) (.p (.mv (.s 2))) (some (39, true)), .mk (some 41) (.p (.mv (.s 0))) (some (39, true)), .mk
  (some 42) (.p (.mv (.s 9))) (some (39, true)), .mk (some 43) (.p (.iaddr 2 (.s 41) (.s 42))) (some (39, true)), .mk (some 44) (.r (.load (some 2) (.s 43))) (some (39, true)), .mk
  (some 45) (.p (.mv (.s 1))) (some (39, true)), .mk (some 46) (.e (.callv (.s 40) [.s 44, .s 45])) (some (39, true)), .mk (some 47) (.p (.bin .eql (.s 46) (.c (.int .i64 0))))
  (some (39, true)), .mk (some 48) (.p (.pick (.s 39) (.s 47) (.c (.bool false)))) none, .mk (some 6) (.p (.mv (.s 35))) none, .mk (some 7) (.p (.mv (.s 48))) none] [6, 7] [])
  .ret)))))
theorem fn84 : (autoPrg Try.prog).fn 84 = some LF84 := by kernel_rfl

def LF85 : LFunc :=
  .mk 2 [.tmp 4] (.seq (.region [.mk (some 2) (.e (.boxL 2 2 (.s 0))) none, .mk (some 4) (.p (.mv (.c (.int .i64 0)))) none] [1, 2] []) (.seq (.region [.mk (some 5) (.p (.faddr 0
  (.s 2))) none, .mk (some 6) (.r (.load none (.s 5))) none, .mk (some 7) (.p (.mv (.s 1))) none, .mk (some 8) (.e (.call 86 [.s 6, .s 7])) none, .mk (some 4) (.p (.mv (.s 8)))
  none] [4] []) .ret))
theorem fn85 : (autoPrg Try.prog).fn 85 = some LF85 := by kernel_rfl

def LF9 : LFunc :=
  .mk 2 [.tmp 4] (.seq (.region [.mk (some 4) (.p (.mv (.c (.bool false)))) none] [0, 1] []) (.seq (.region [.mk (some 12) (.p (.mv (.s 0))) none, .mk (some 13) (.e (.call 15 [.s
  12])) none, .mk (some 14) (.e (.call 43 [.s 13])) none, .mk (some 5) (.p (.mv (.s 14))) none] [1, 5] []) (.seq (.seq (.region [.mk (some 15) (.e (.call 14 [])) none, .mk (some 16)
  (.p (.un .not (.s 15))) none, .mk (some 17) (.p (.mv (.s 16))) none, .mk (some 18) (.p (.mv (.s 5))) (some (17, false)), .mk (some 19) (.p (.eqk false .ptr (.s 18) (.c (.pointer
  none)))) (some (17, false)), .mk (some 20) (.p (.pick (.s 17) (.c (.bool true)) (.s 19))) none] [1, 5, 20] []) (.cond (.s 20) (.seq (.region [.mk (some 4) (.p (.mv (.c (.bool
  false)))) none] [4] []) .ret) .skip)) (.seq (.region [.mk (some 22) (.p (.mv (.s 5))) none, .mk (some 23) (.p (.mv (.s 1))) none, .mk (some 24) (.e (.call 37 [.s 22, .s 23]))
  none, .mk (some 21) (.p (.mv (.s 24))) none, .mk (some 25) (.p (.ext 0 (.s 21))) none, .mk (some 26) (.p (.ext 1 (.s 21))) none, .mk (some 6) (.p (.mv (.s 25))) none, .mk (some 7)
  (.p (.mv (.s 26))) none] [1, 5, 6, 7] []) (.seq (.seq (.region [.mk (some 27) (.p (.mv (.s 7))) none, .mk (some 28) (.p (.mv (.s 1))) none, .mk (some 29) (.p (.bin .geq (.s 28)
  (.c (.int .i64 0)))) none, .mk (some 30) (.p (.mv (.s 29))) none, .mk (some 31) (.p (.mv (.s 1))) (some (30, true)), .mk (some 32) (.p (.mv (.s 5))) (some (30, true)), .mk (some
  33) (.e (.call 20 [.s 32])) (some (30, true)), .mk (some 34) (.p (.bin .lss (.s 31) (.s 33))) (some (30, true)), .mk (some 35) (.p (.pick (.s 30) (.s 34) (.c (.bool false))))
  none, .mk (some 36) (.p (.eqk true .bool (.s 27) (.s 35))) none] [1, 5, 6, 7, 36] []) (.cond (.s 36) (.seq (.region [.mk (some 4) (.p (.mv (.c (.bool false)))) none] [4] []) .ret)
  .skip)) (.seq (.seq (.region [.mk (some 37) (.p (.mv (.s 7))) none, .mk (some 38) (.p (.un .not (.s 37))) none] [1, 5, 6, 38] []) (.cond (.s 38) (.seq (.region [.mk (some 39) (.p
  (.mv (.s 6))) none, .mk (some 40) (.p (.bin .eql (.s 39) (.c (.int .i32 0)))) none, .mk (some 4) (.p (.mv (.s 40))) none] [4] []) .ret) .skip)) (.seq (.region [.mk (some 42) (.p
  (.mv (.s 5))) none, .mk (some 43) (.p (.mv (.s 6))) none, .mk (some 44) (.e (.call 39 [.s 42, .s 43])) none, .mk (some 41) (.p (.mv (.s 44))) none, .mk (some 45) (.p (.ext 0 (.s
  41))) none, .mk (some 46) (.p (.ext 1 (.s 41))) none, .mk (some 8) (.p (.mv (.s 45))) none, .mk (some 9) (.p (.mv (.s 46))) none] [1, 5, 6, 8, 9] []) (.seq (.region [.mk (some 48)
  (.p (.mv (.s 5))) none, .mk (some 49) (.p (.mv (.s 1))) none, .mk (some 50) (.p (.bin .add (.s 49) (.c (.int .i64 1)))) none, .mk (some 51) (.e (.call 37 [.s 48, .s 50])) none,
  .mk (some 47) (.p (.mv (.s 51))) none, .mk (some 52) (.p (.ext 0 (.s 47))) none, .mk (some 53) (.p (.ext 1 (.s 47))) none, .mk (some 10) (.p (.mv (.s 52))) none, .mk (some 11) (.p
  (.mv (.s 53))) none] [1, 5, 6, 8, 9, 10, 11] []) (.seq (.region [.mk (some 54) (.p (.mv (.s 5))) none, .mk (some 55) (.p (.mv (.s 6))) none, .mk (some 56) (.e (.call 22 [.s 54, .s
  55])) none, .mk (some 57) (.p (.mv (.s 56))) none, .mk (some 58) (.p (.mv (.s 5))) (some (57, true)), .mk (some 59) (.p (.mv (.s 6))) (some (57, true)), .mk (some 60) (.e (.call
  41 [.s 58, .s 59])) (some (57, true)), .mk (some 61) (.p (.mv (.s 1))) (some (57, true)), .mk (some 62) (.p (.bin .eql (.s 60) (.s 61))) (some (57, true)), .mk (some 63) (.p
  (.pick (.s 57) (.s 62) (.c (.bool false)))) none, .mk (some 64) (.p (.mv (.s 63))) none, .mk (some 65) (.p (.mv (.s 9))) (some (64, true)), .mk (some 66) (.p (.mv (.s 11))) (some
  (64, true)), .mk (some 67) (.p (.eqk false .bool (.s 65) (.s 66))) (some (64, true)), .mk (some 68) (.p (.pick (.s 64) (.s 67) (.c (.bool false)))) none, .mk (some 69) (.p (.mv
  (.s 68))) none, .mk (some 70) (.p (.mv (.s 8))) (some (69, true)), .mk (some 71) (.p (.mv (.s 10))) (some (69, true)), .mk (some 72) (.p (.bin .eql (.s 70) (.s 71))) (some (69,
  true)), .mk (some 73) (.p (.pick (.s 69) (.s 72) (.c (.bool false)))) none, .mk (some 74) (.p (.mv (.s 73))) none, .mk (some 75) (.p (.mv (.s 5))) (some (74, true)), .mk (some 76)
  (.p (.mv (.s 6))) (some (74, true)), .mk (some 77) (.p (.bin .add (.s 76) (.c (.int .i32 1)))) (some (74, true)), .mk (some 78) (.e (.call 41 [.s 75, .s 77])) (some (74, true)),
  .mk (some 79) (.p (.mv (.s 1))) (some (74, true)), .mk (some 80) (.p (.bin .add (.s 79) (.c (.int .i64 1)))) (some (74, true)), .mk (some 81) (.p (.bin .eql (.s 78) (.s 80)))
  (some (74, true)), .mk (some 82) (.p (.pick (.s 74) (.s 81) (.c (.bool false)))) none, .mk (some 4) (.p (.mv (.s 82))) none] [4] []) .ret)))))))))
theorem fn9 : (autoPrg Try.prog).fn 9 = some LF9 := by kernel_rfl

end Go.Proofs.Ytanpdopjgepbkaa.AM
