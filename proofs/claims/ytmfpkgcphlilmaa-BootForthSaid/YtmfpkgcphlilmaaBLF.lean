/- The lifted code of BootForth (printed by lits.py). -/
import Derived.Test.YtmfpkgcphlilmaaUtfL
set_option linter.unusedVariables false
namespace Go.Proofs.Ytmfpkgcphlilmaa.AM
open Go
def LF_guiselaw17_BootForth : LFunc :=
  .mk 2 [.tmp 4] (.seq (.region [.mk (some 2) (.e (.boxL 2 7 (.s 0))) none, .mk (some 4) (.p (.mv (.c (.bool false)))) none] [1, 2] []) (.seq (.region [.mk (some 12) (.p (.mv (.s
  1))) none, .mk (some 13) (.e (.call 19 [.s 12, .c (.int .i64 3000)])) none, .mk (some 1) (.p (.mv (.s 13))) none] [1, 2] []) (.seq (.region [.mk (some 15) (.r
  (.load (some 7) (.s 2))) none, .mk (some 16) (.p (.mv (.s 1))) none, .mk (some 17) (.e (.call 17 [.s 15, .s 16])) none, .mk (some 14) (.p (.mv (.s 17))) none, .mk
  (some 18) (.p (.ext 0 (.s 14))) none, .mk (some 19) (.p (.ext 1 (.s 14))) none, .mk (some 20) (.p (.ext 2 (.s 14))) none, .mk (some 5) (.p (.mv (.s 18))) none, .mk (some 6) (.p
  (.mv (.s 19))) none, .mk (some 7) (.p (.mv (.s 20))) none] [1, 2, 5, 6, 7] []) (.seq (.seq (.region [.mk (some 21) (.p (.mv (.s 7))) none, .mk (some 22) (.p (.bin .neq (.s 21) (.c
  (.int .i64 0)))) none] [1, 2, 5, 6, 22] []) (.cond (.s 22) (.seq (.region [.mk (some 23) (.p (.mv (.s 5))) none, .mk (some 24) (.p (.bin .eql (.s 23) (.c (.string ⟨#[]⟩)))) none,
  .mk (some 25) (.p (.mv (.s 24))) none, .mk (some 26) (.p (.mv (.s 6))) (some (25, true)), .mk (some 27) (.p (.bin .geq (.s 26) (.c (.int .i64 0)))) (some (25, true)), .mk (some
  28) (.p (.pick (.s 25) (.s 27) (.c (.bool false)))) none, .mk (some 29) (.p (.mv (.s 28))) none, .mk (some 30) (.p (.mv (.s 6))) (some (29, true)), .mk (some 31) (.p (.mv (.s 1)))
  (some (29, true)), .mk (some 32) (.p (.slen (.s 31))) (some (29, true)), .mk (some 33) (.p (.bin .leq (.s 30) (.s 32))) (some (29, true)), .mk (some 34) (.p (.pick (.s 29) (.s 33)
  (.c (.bool false)))) none, .mk (some 35) (.p (.mv (.s 34))) none, .mk (some 36) (.e (.call 11 [])) (some (35, true)), .mk (some 37) (.p (.pick (.s 35) (.s 36)
  (.c (.bool false)))) none, .mk (some 4) (.p (.mv (.s 37))) none] [4] []) .ret) .skip)) (.seq (.region [.mk (some 39) (.r (.load (some 7) (.s 2))) none, .mk (some 40) (.p (.mv (.s
  5))) none, .mk (some 41) (.e (.call 16 [.s 39, .s 40])) none, .mk (some 38) (.p (.mv (.s 41))) none, .mk (some 42) (.p (.ext 0 (.s 38))) none, .mk (some 43) (.p (.ext
  1 (.s 38))) none, .mk (some 8) (.p (.mv (.s 42))) none, .mk (some 9) (.p (.mv (.s 43))) none] [1, 5, 6, 8, 9] []) (.seq (.region [.mk (some 45) (.p (.mv (.s 5))) none, .mk (some
  46) (.e (.call 25 [.s 45])) none, .mk (some 44) (.p (.mv (.s 46))) none, .mk (some 47) (.p (.ext 0 (.s 44))) none, .mk (some 48) (.p (.ext 1 (.s 44))) none, .mk (some
  10) (.e (.newL 10 [.int .i64 0, .int .i64 0])) none, .mk none (.e (.store 2 (.s 10) (.s 47))) none, .mk (some 11) (.p (.mv (.s 48))) none] [1, 6, 8, 9, 11] []) (.seq (.region [.mk
  (some 49) (.p (.mv (.s 6))) none, .mk (some 50) (.p (.bin .eql (.s 49) (.c (.int .i64 0)))) none, .mk (some 51) (.p (.mv (.s 50))) none, .mk (some 52) (.p (.mv (.s 11))) (some
  (51, true)), .mk (some 53) (.p (.pick (.s 51) (.s 52) (.c (.bool false)))) none, .mk (some 54) (.p (.mv (.s 53))) none, .mk (some 55) (.p (.mv (.s 9))) (some (54, true)), .mk
  (some 56) (.p (.bin .eql (.s 55) (.c (.int .i64 0)))) (some (54, true)), .mk (some 57) (.p (.pick (.s 54) (.s 56) (.c (.bool false)))) none, .mk (some 58) (.p (.mv (.s 57))) none,
  .mk (some 59) (.p (.mv (.s 8))) (some (58, true)), .mk (some 60) (.p (.mv (.s 1))) (some (58, true)), .mk (some 61) (.p (.bin .eql (.s 59) (.s 60))) (some (58, true)), .mk (some
  62) (.p (.pick (.s 58) (.s 61) (.c (.bool false)))) none, .mk (some 63) (.p (.mv (.s 62))) none, .mk (some 64) (.e (.call 11 [])) (some (63, true)), .mk (some
  65) (.p (.pick (.s 63) (.s 64) (.c (.bool false)))) none, .mk (some 4) (.p (.mv (.s 65))) none] [4] []) .ret)))))))
theorem fn_guiselaw17_BootForth : (autoPrg Try.prog).fn 10 = some LF_guiselaw17_BootForth := by kernel_rfl

end Go.Proofs.Ytmfpkgcphlilmaa.AM
