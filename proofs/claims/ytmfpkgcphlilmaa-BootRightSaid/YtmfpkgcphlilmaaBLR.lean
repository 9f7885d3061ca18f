/- The lifted code of BootRight (printed by lits.py). -/
import Derived.Test.YtmfpkgcphlilmaaUtfL
set_option linter.unusedVariables false
namespace Go.Proofs.Ytmfpkgcphlilmaa.AM
open Go
def LF_guiselaw17_BootRight : LFunc :=
  .mk 1 [.tmp 2] (.seq (.region [.mk (some 1) (.e (.boxL 1 7 (.s 0))) none, .mk (some 2) (.p (.mv (.c (.bool false)))) none] [1] []) (.seq (.region [.mk (some 10) (.r (.load (some
  7) (.s 1))) none, .mk (some 11) (.e (.call 16 [.s 10, .c (.string ⟨#[97]⟩)])) none, .mk (some 9) (.p (.mv (.s 11))) none, .mk (some 12) (.p (.ext 0 (.s 9))) none, .mk
  (some 13) (.p (.ext 1 (.s 9))) none, .mk (some 3) (.p (.mv (.s 12))) none, .mk (some 4) (.p (.mv (.s 13))) none] [1, 4] []) (.seq (.region [.mk (some 15) (.r (.load (some 7) (.s
  1))) none, .mk (some 16) (.e (.call 17 [.s 15, .c (.string ⟨#[97, 45]⟩)])) none, .mk (some 14) (.p (.mv (.s 16))) none, .mk (some 17) (.p (.ext 0 (.s 14))) none, .mk
  (some 18) (.p (.ext 1 (.s 14))) none, .mk (some 19) (.p (.ext 2 (.s 14))) none, .mk (some 5) (.p (.mv (.s 17))) none, .mk (some 6) (.p (.mv (.s 18))) none, .mk (some 7) (.p (.mv
  (.s 19))) none] [1, 4, 6, 7] []) (.seq (.region [.mk (some 20) (.r (.load (some 7) (.s 1))) none, .mk (some 21) (.e (.call 12 [.s 20])) none, .mk (some 22) (.e
  (.call 18 [.s 21])) none, .mk (some 8) (.p (.mv (.s 22))) none] [1, 4, 6, 7, 8] []) (.seq (.region [.mk (some 23) (.r (.load (some 7) (.s 1))) none, .mk (some
  24) (.e (.call 15 [.s 23])) none, .mk (some 25) (.p (.mv (.s 8))) none, .mk (some 26) (.p (.eqk false .bool (.s 24) (.s 25))) none, .mk (some 27) (.p (.mv (.s 26)))
  none, .mk (some 28) (.p (.mv (.s 4))) (some (27, true)), .mk (some 29) (.p (.bin .eql (.s 28) (.c (.int .i64 1)))) (some (27, true)), .mk (some 30) (.p (.mv (.s 8))) (some (27,
  true)), .mk (some 31) (.p (.un .not (.s 30))) (some (27, true)), .mk (some 32) (.p (.eqk false .bool (.s 29) (.s 31))) (some (27, true)), .mk (some 33) (.p (.pick (.s 27) (.s 32)
  (.c (.bool false)))) none, .mk (some 34) (.p (.mv (.s 33))) none, .mk (some 35) (.p (.mv (.s 7))) (some (34, true)), .mk (some 36) (.p (.bin .eql (.s 35) (.c (.int .i64 1))))
  (some (34, true)), .mk (some 37) (.p (.mv (.s 8))) (some (34, true)), .mk (some 38) (.p (.un .not (.s 37))) (some (34, true)), .mk (some 39) (.p (.eqk false .bool (.s 36) (.s
  38))) (some (34, true)), .mk (some 40) (.p (.pick (.s 34) (.s 39) (.c (.bool false)))) none, .mk (some 41) (.p (.mv (.s 40))) none, .mk (some 42) (.p (.mv (.s 6))) (some (41,
  true)), .mk (some 43) (.p (.bin .eql (.s 42) (.c (.int .i64 0)))) (some (41, true)), .mk (some 44) (.p (.pick (.s 41) (.s 43) (.c (.bool false)))) none, .mk (some 45) (.p (.mv (.s
  44))) none, .mk (some 46) (.e (.call 11 [])) (some (45, true)), .mk (some 47) (.p (.pick (.s 45) (.s 46) (.c (.bool false)))) none, .mk (some 2) (.p (.mv (.s
  47))) none] [2] []) .ret)))))
theorem fn_guiselaw17_BootRight : (autoPrg Try.prog).fn 4 = some LF_guiselaw17_BootRight := by kernel_rfl

end Go.Proofs.Ytmfpkgcphlilmaa.AM
