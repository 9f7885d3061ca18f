/- The lifted code of BootBack (printed by lits.py). -/
import Derived.Test.YtmfpkgcphlilmaaUtfL
set_option linter.unusedVariables false
namespace Go.Proofs.Ytmfpkgcphlilmaa.AM
open Go
def LF_guiselaw17_BootBack : LFunc :=
  .mk 2 [.tmp 4] (.seq (.region [.mk (some 2) (.e (.boxL 2 7 (.s 0))) none, .mk (some 4) (.p (.mv (.c (.bool false)))) none] [1, 2] []) (.seq (.region [.mk (some 15) (.p (.mv (.s
  1))) none, .mk (some 16) (.e (.call 19 [.s 15, .c (.int .i64 3000)])) none, .mk (some 1) (.p (.mv (.s 16))) none] [1, 2] []) (.seq (.region [.mk (some 18) (.r
  (.load (some 7) (.s 2))) none, .mk (some 19) (.p (.mv (.s 1))) none, .mk (some 20) (.e (.call 16 [.s 18, .s 19])) none, .mk (some 17) (.p (.mv (.s 20))) none, .mk
  (some 21) (.p (.ext 0 (.s 17))) none, .mk (some 22) (.p (.ext 1 (.s 17))) none, .mk (some 5) (.p (.mv (.s 21))) none, .mk (some 6) (.p (.mv (.s 22))) none] [1, 2, 5, 6] []) (.seq
  (.seq (.region [.mk (some 23) (.p (.mv (.s 6))) none, .mk (some 24) (.p (.bin .neq (.s 23) (.c (.int .i64 0)))) none] [1, 2, 5, 24] []) (.cond (.s 24) (.seq (.region [.mk (some
  25) (.p (.mv (.s 5))) none, .mk (some 26) (.p (.bin .eql (.s 25) (.c (.string ⟨#[]⟩)))) none, .mk (some 27) (.p (.mv (.s 26))) none, .mk (some 28) (.e (.call 11
  [])) (some (27, true)), .mk (some 29) (.p (.pick (.s 27) (.s 28) (.c (.bool false)))) none, .mk (some 4) (.p (.mv (.s 29))) none] [4] []) .ret) .skip)) (.seq (.region [.mk (some
  31) (.r (.load (some 7) (.s 2))) none, .mk (some 32) (.p (.mv (.s 5))) none, .mk (some 33) (.e (.call 17 [.s 31, .s 32])) none, .mk (some 30) (.p (.mv (.s 33))) none,
  .mk (some 34) (.p (.ext 0 (.s 30))) none, .mk (some 35) (.p (.ext 1 (.s 30))) none, .mk (some 36) (.p (.ext 2 (.s 30))) none, .mk (some 7) (.p (.mv (.s 34))) none, .mk (some 8)
  (.p (.mv (.s 35))) none, .mk (some 9) (.p (.mv (.s 36))) none] [1, 5, 7, 8, 9] []) (.seq (.seq (.region [.mk (some 37) (.p (.mv (.s 9))) none, .mk (some 38) (.p (.bin .neq (.s 37)
  (.c (.int .i64 0)))) none, .mk (some 39) (.p (.mv (.s 38))) none, .mk (some 40) (.p (.mv (.s 8))) (some (39, false)), .mk (some 41) (.p (.bin .neq (.s 40) (.c (.int .i64 0))))
  (some (39, false)), .mk (some 42) (.p (.pick (.s 39) (.c (.bool true)) (.s 41))) none, .mk (some 43) (.p (.mv (.s 42))) none, .mk (some 44) (.p (.mv (.s 7))) (some (43, false)),
  .mk (some 45) (.p (.mv (.s 1))) (some (43, false)), .mk (some 46) (.p (.bin .neq (.s 44) (.s 45))) (some (43, false)), .mk (some 47) (.p (.pick (.s 43) (.c (.bool true)) (.s 46)))
  none, .mk (some 48) (.p (.mv (.s 47))) none, .mk (some 49) (.p (.mv (.s 5))) (some (48, false)), .mk (some 50) (.e (.call 22 [.s 49])) (some (48, false)), .mk
  (some 51) (.p (.un .not (.s 50))) (some (48, false)), .mk (some 52) (.p (.pick (.s 48) (.c (.bool true)) (.s 51))) none, .mk (some 53) (.p (.mv (.s 52))) none, .mk (some 54) (.p
  (.mv (.s 5))) (some (53, false)), .mk (some 55) (.p (.bin .eql (.s 54) (.c (.string ⟨#[]⟩)))) (some (53, false)), .mk (some 56) (.p (.mv (.s 1))) (some (53, false)), .mk (some 57)
  (.p (.bin .eql (.s 56) (.c (.string ⟨#[]⟩)))) (some (53, false)), .mk (some 58) (.p (.eqk true .bool (.s 55) (.s 57))) (some (53, false)), .mk (some 59) (.p (.pick (.s 53) (.c
  (.bool true)) (.s 58))) none] [1, 5, 59] []) (.cond (.s 59) (.seq (.region [.mk (some 4) (.p (.mv (.c (.bool false)))) none] [4] []) .ret) .skip)) (.seq (.region [.mk (some 10)
  (.p (.mv (.c (.int .i64 0)))) none] [1, 5, 10] []) (.seq (.region [.mk (some 11) (.p (.mv (.c (.int .i64 0)))) none] [1, 5, 10, 11] []) (.seq (.seq (.region [.mk (some 60) (.p
  (.mv (.s 1))) none, .mk (some 61) (.e (.rngS 61 (.s 60))) none] [5, 10, 11, 61] []) (.block 0 (.loop (.seq (.region [.mk (some 62) (.e (.nxtS (.s 61))) none, .mk (some 63) (.p
  (.ext 0 (.s 62))) none] [5, 10, 11, 61, 62, 63] []) (.seq (.cond (.s 63) .skip (.exit 0)) (.block 1 (.seq (.region [.mk (some 64) (.p (.ext 2 (.s 62))) none, .mk (some 13) (.p
  (.mv (.s 64))) none] [5, 10, 11, 13, 61] []) (.seq (.region [.mk (some 65) (.p (.mv (.s 13))) none, .mk (some 66) (.p (.bin .lss (.s 65) (.c (.int .i32 128)))) none] [5, 10, 11,
  61, 66] []) (.cond (.s 66) (.region [.mk (some 67) (.p (.mv (.s 10))) none, .mk (some 68) (.p (.bin .add (.s 67) (.c (.int .i64 1)))) none, .mk (some 10) (.p (.mv (.s 68))) none]
  [5, 10, 11, 61] []) (.region [.mk (some 69) (.p (.mv (.s 11))) none, .mk (some 70) (.p (.bin .add (.s 69) (.c (.int .i64 1)))) none, .mk (some 11) (.p (.mv (.s 70))) none] [5, 10,
  11, 61] [])))))))))) (.seq (.region [.mk (some 71) (.p (.mv (.s 5))) none, .mk (some 72) (.p (.slen (.s 71))) none, .mk (some 73) (.p (.bin .gtr (.s 72) (.c (.int .i64 0)))) none,
  .mk (some 74) (.p (.mv (.s 73))) none, .mk (some 75) (.p (.mv (.s 5))) (some (74, true)), .mk (some 76) (.p (.mv (.s 5))) (some (74, true)), .mk (some 77) (.p (.slen (.s 76)))
  (some (74, true)), .mk (some 78) (.p (.bin .sub (.s 77) (.c (.int .i64 1)))) (some (74, true)), .mk (some 79) (.p (.idxS (.s 75) (.s 78))) (some (74, true)), .mk (some 80) (.p
  (.bin .eql (.s 79) (.c (.int .u8 45)))) (some (74, true)), .mk (some 81) (.p (.pick (.s 74) (.s 80) (.c (.bool false)))) none, .mk (some 14) (.p (.mv (.s 81))) none] [10, 11, 14]
  []) (.seq (.region [.mk (some 82) (.p (.mv (.s 14))) none, .mk (some 83) (.p (.mv (.s 10))) none, .mk (some 84) (.p (.bin .gtr (.s 83) (.c (.int .i64 0)))) none, .mk (some 85) (.p
  (.mv (.s 84))) none, .mk (some 86) (.p (.mv (.s 11))) (some (85, true)), .mk (some 87) (.p (.bin .eql (.s 86) (.c (.int .i64 0)))) (some (85, true)), .mk (some 88) (.p (.pick (.s
  85) (.s 87) (.c (.bool false)))) none, .mk (some 89) (.p (.eqk false .bool (.s 82) (.s 88))) none, .mk (some 90) (.p (.mv (.s 89))) none, .mk (some 91) (.e (.call
  11 [])) (some (90, true)), .mk (some 92) (.p (.pick (.s 90) (.s 91) (.c (.bool false)))) none, .mk (some 4) (.p (.mv (.s 92))) none] [4] []) .ret)))))))))))
theorem fn_guiselaw17_BootBack : (autoPrg Try.prog).fn 7 = some LF_guiselaw17_BootBack := by kernel_rfl

end Go.Proofs.Ytmfpkgcphlilmaa.AM
