/- The lifted code of BootDecodes (printed by lits.py). -/
import Derived.Test.YtmfpkgcphlilmaaUtfL
set_option linter.unusedVariables false
namespace Go.Proofs.Ytmfpkgcphlilmaa.AM
open Go
def LF_guiselaw17_BootDecodes : LFunc :=
  .mk 2 [.tmp 4] (.seq (.region [.mk (some 2) (.e (.boxL 2 7 (.s 0))) none, .mk (some 4) (.p (.mv (.c (.bool false)))) none] [1, 2] []) (.seq (.region [.mk (some 11) (.p (.mv (.s
  1))) none, .mk (some 12) (.e (.call 19 [.s 11, .c (.int .i64 2000)])) none, .mk (some 1) (.p (.mv (.s 12))) none] [1, 2] []) (.seq (.region [.mk (some 14) (.r
  (.load (some 7) (.s 2))) none, .mk (some 15) (.p (.mv (.s 1))) none, .mk (some 16) (.e (.call 17 [.s 14, .s 15])) none, .mk (some 13) (.p (.mv (.s 16))) none, .mk
  (some 17) (.p (.ext 0 (.s 13))) none, .mk (some 18) (.p (.ext 1 (.s 13))) none, .mk (some 19) (.p (.ext 2 (.s 13))) none, .mk (some 5) (.p (.mv (.s 17))) none, .mk (some 6) (.p
  (.mv (.s 18))) none, .mk (some 7) (.p (.mv (.s 19))) none] [1, 2, 5, 6, 7] []) (.seq (.region [.mk (some 21) (.r (.load (some 7) (.s 2))) none, .mk (some 22) (.e (.call
  12 [.s 21])) none, .mk (some 23) (.p (.mv (.s 1))) none, .mk (some 24) (.e (.call 21 [.s 22, .s 23])) none, .mk (some 20) (.p (.mv (.s 24)))
  none, .mk (some 25) (.p (.ext 0 (.s 20))) none, .mk (some 26) (.p (.ext 1 (.s 20))) none, .mk (some 27) (.p (.ext 2 (.s 20))) none, .mk (some 8) (.p (.mv (.s 25))) none, .mk (some
  9) (.p (.mv (.s 26))) none, .mk (some 10) (.p (.mv (.s 27))) none] [5, 6, 7, 8, 9, 10] []) (.seq (.region [.mk (some 28) (.p (.mv (.s 5))) none, .mk (some 29) (.p (.mv (.s 8)))
  none, .mk (some 30) (.p (.bin .eql (.s 28) (.s 29))) none, .mk (some 31) (.p (.mv (.s 30))) none, .mk (some 32) (.p (.mv (.s 6))) (some (31, true)), .mk (some 33) (.p (.mv (.s
  9))) (some (31, true)), .mk (some 34) (.p (.bin .eql (.s 32) (.s 33))) (some (31, true)), .mk (some 35) (.p (.pick (.s 31) (.s 34) (.c (.bool false)))) none, .mk (some 36) (.p
  (.mv (.s 35))) none, .mk (some 37) (.p (.mv (.s 7))) (some (36, true)), .mk (some 38) (.p (.mv (.s 10))) (some (36, true)), .mk (some 39) (.p (.bin .eql (.s 37) (.s 38))) (some
  (36, true)), .mk (some 40) (.p (.pick (.s 36) (.s 39) (.c (.bool false)))) none, .mk (some 41) (.p (.mv (.s 40))) none, .mk (some 42) (.e (.call 11 [])) (some
  (41, true)), .mk (some 43) (.p (.pick (.s 41) (.s 42) (.c (.bool false)))) none, .mk (some 4) (.p (.mv (.s 43))) none] [4] []) .ret)))))
theorem fn_guiselaw17_BootDecodes : (autoPrg Try.prog).fn 6 = some LF_guiselaw17_BootDecodes := by kernel_rfl

end Go.Proofs.Ytmfpkgcphlilmaa.AM
