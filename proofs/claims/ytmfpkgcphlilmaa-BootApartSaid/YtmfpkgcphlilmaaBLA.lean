/- The lifted code of BootApart (printed by lits.py). -/
import Derived.Test.YtmfpkgcphlilmaaUtfL
set_option linter.unusedVariables false
namespace Go.Proofs.Ytmfpkgcphlilmaa.AM
open Go
def LF_guiselaw17_BootApart : LFunc :=
  .mk 3 [.tmp 6] (.seq (.region [.mk (some 3) (.e (.boxL 3 7 (.s 0))) none, .mk (some 6) (.p (.mv (.c (.bool false)))) none] [1, 2, 3] []) (.seq (.region [.mk (some 11) (.p (.mv (.s
  1))) none, .mk (some 12) (.e (.call 19 [.s 11, .c (.int .i64 1000)])) none, .mk (some 1) (.p (.mv (.s 12))) none] [1, 2, 3] []) (.seq (.region [.mk (some 13) (.p
  (.mv (.s 2))) none, .mk (some 14) (.e (.call 19 [.s 13, .c (.int .i64 1000)])) none, .mk (some 2) (.p (.mv (.s 14))) none] [1, 2, 3] []) (.seq (.region [.mk (some
  16) (.r (.load (some 7) (.s 3))) none, .mk (some 17) (.p (.mv (.s 1))) none, .mk (some 18) (.e (.call 16 [.s 16, .s 17])) none, .mk (some 15) (.p (.mv (.s 18))) none,
  .mk (some 19) (.p (.ext 0 (.s 15))) none, .mk (some 20) (.p (.ext 1 (.s 15))) none, .mk (some 7) (.p (.mv (.s 19))) none, .mk (some 8) (.p (.mv (.s 20))) none] [1, 2, 3, 7, 8] [])
  (.seq (.region [.mk (some 22) (.r (.load (some 7) (.s 3))) none, .mk (some 23) (.p (.mv (.s 2))) none, .mk (some 24) (.e (.call 16 [.s 22, .s 23])) none, .mk (some
  21) (.p (.mv (.s 24))) none, .mk (some 25) (.p (.ext 0 (.s 21))) none, .mk (some 26) (.p (.ext 1 (.s 21))) none, .mk (some 9) (.p (.mv (.s 25))) none, .mk (some 10) (.p (.mv (.s
  26))) none] [1, 2, 7, 8, 9, 10] []) (.seq (.region [.mk (some 27) (.p (.mv (.s 8))) none, .mk (some 28) (.p (.bin .neq (.s 27) (.c (.int .i64 0)))) none, .mk (some 29) (.p (.mv
  (.s 28))) none, .mk (some 30) (.p (.mv (.s 10))) (some (29, false)), .mk (some 31) (.p (.bin .neq (.s 30) (.c (.int .i64 0)))) (some (29, false)), .mk (some 32) (.p (.pick (.s 29)
  (.c (.bool true)) (.s 31))) none, .mk (some 33) (.p (.mv (.s 32))) none, .mk (some 34) (.p (.mv (.s 7))) (some (33, false)), .mk (some 35) (.p (.mv (.s 9))) (some (33, false)),
  .mk (some 36) (.p (.bin .eql (.s 34) (.s 35))) (some (33, false)), .mk (some 37) (.p (.mv (.s 1))) (some (33, false)), .mk (some 38) (.p (.mv (.s 2))) (some (33, false)), .mk
  (some 39) (.p (.bin .eql (.s 37) (.s 38))) (some (33, false)), .mk (some 40) (.p (.eqk false .bool (.s 36) (.s 39))) (some (33, false)), .mk (some 41) (.p (.pick (.s 33) (.c
  (.bool true)) (.s 40))) none, .mk (some 42) (.p (.mv (.s 41))) none, .mk (some 43) (.e (.call 11 [])) (some (42, true)), .mk (some 44) (.p (.pick (.s 42) (.s 43)
  (.c (.bool false)))) none, .mk (some 6) (.p (.mv (.s 44))) none] [6] []) .ret))))))
theorem fn_guiselaw17_BootApart : (autoPrg Try.prog).fn 8 = some LF_guiselaw17_BootApart := by kernel_rfl

end Go.Proofs.Ytmfpkgcphlilmaa.AM
