/- The lifted code of small functions (printed by lits.py). -/
import Derived.Test.YtmfpkgcphlilmaaUtfL
set_option linter.unusedVariables false
namespace Go.Proofs.Ytmfpkgcphlilmaa.AM
open Go
def LF_guiselaw17_plain : LFunc :=
  .mk 1 [.cell 2 (some 7)] (.seq (.region [.mk (some 1) (.e (.boxL 1 7 (.s 0))) none, .mk (some 2) (.e (.newL 2 [.int .i64 0, .int .i64 0, .int .i64 0, .int .i64 0, .int .i64 0,
  .int .i64 0, .int .i32 0])) none] [1, 2] []) (.seq (.region [.mk (some 3) (.p (.faddr 0 (.s 1))) none, .mk (some 4) (.r (.load none (.s 3))) none, .mk (some 5) (.p (.faddr 1 (.s
  1))) none, .mk (some 6) (.r (.load none (.s 5))) none, .mk (some 7) (.p (.faddr 2 (.s 1))) none, .mk (some 8) (.r (.load none (.s 7))) none, .mk (some 9) (.p (.faddr 3 (.s 1)))
  none, .mk (some 10) (.r (.load none (.s 9))) none, .mk (some 11) (.p (.faddr 4 (.s 1))) none, .mk (some 12) (.r (.load none (.s 11))) none, .mk (some 13) (.p (.faddr 5 (.s 1)))
  none, .mk (some 14) (.r (.load none (.s 13))) none, .mk (some 15) (.p (.faddr 6 (.s 1))) none, .mk (some 16) (.r (.load none (.s 15))) none, .mk (some 17) (.p (.build [.int .i64
  0, .int .i64 0, .int .i64 0, .int .i64 0, .int .i64 0, .int .i64 0, .int .i32 0] [(0, 1, .s 4), (1, 1, .s 6), (2, 1, .s 8), (3, 1, .s 10), (4, 1, .s 12), (5, 1, .s 14), (6, 1, .s
  16)])) none, .mk none (.e (.store 7 (.s 2) (.s 17))) none] [2] []) .ret))
theorem fn_guiselaw17_plain : (autoPrg Try.prog).fn 12 = some LF_guiselaw17_plain := by kernel_rfl

def LF_guiselaw17_few : LFunc :=
  .mk 2 [.tmp 4] (.seq (.region [.mk (some 4) (.p (.mv (.c (.string ⟨#[]⟩)))) none] [0, 1] []) (.seq (.seq (.region [.mk (some 5) (.p (.mv (.s 0))) none, .mk (some 6) (.p (.slen (.s
  5))) none, .mk (some 7) (.p (.mv (.s 1))) none, .mk (some 8) (.p (.bin .gtr (.s 6) (.s 7))) none] [0, 1, 8] []) (.cond (.s 8) (.seq (.region [.mk (some 9) (.p (.mv (.s 0))) none,
  .mk (some 10) (.p (.mv (.s 1))) none, .mk (some 11) (.p (.slS (.s 9) none (some (.s 10)))) none, .mk (some 4) (.p (.mv (.s 11))) none] [4] []) .ret) .skip)) (.seq (.region [.mk
  (some 12) (.p (.mv (.s 0))) none, .mk (some 4) (.p (.mv (.s 12))) none] [4] []) .ret)))
theorem fn_guiselaw17_few : (autoPrg Try.prog).fn 19 = some LF_guiselaw17_few := by kernel_rfl

def LF_guiseref17_Right : LFunc :=
  .mk 1 [.tmp 2] (.seq (.region [.mk (some 1) (.e (.boxL 1 7 (.s 0))) none, .mk (some 2) (.p (.mv (.c (.bool false)))) none] [1] []) (.seq (.seq (.region [.mk (some 3) (.p (.faddr 0
  (.s 1))) none, .mk (some 4) (.r (.load none (.s 3))) none, .mk (some 5) (.p (.bin .lss (.s 4) (.c (.int .i64 3)))) none, .mk (some 6) (.p (.mv (.s 5))) none, .mk (some 7) (.p
  (.faddr 0 (.s 1))) (some (6, false)), .mk (some 8) (.r (.load none (.s 7))) (some (6, false)), .mk (some 9) (.p (.bin .gtr (.s 8) (.c (.int .i64 36)))) (some (6, false)), .mk
  (some 10) (.p (.pick (.s 6) (.c (.bool true)) (.s 9))) none, .mk (some 11) (.p (.mv (.s 10))) none, .mk (some 12) (.p (.faddr 1 (.s 1))) (some (11, false)), .mk (some 13) (.r
  (.load none (.s 12))) (some (11, false)), .mk (some 14) (.p (.bin .lss (.s 13) (.c (.int .i64 1)))) (some (11, false)), .mk (some 15) (.p (.pick (.s 11) (.c (.bool true)) (.s
  14))) none, .mk (some 16) (.p (.mv (.s 15))) none, .mk (some 17) (.p (.faddr 2 (.s 1))) (some (16, false)), .mk (some 18) (.r (.load none (.s 17))) (some (16, false)), .mk (some
  19) (.p (.faddr 1 (.s 1))) (some (16, false)), .mk (some 20) (.r (.load none (.s 19))) (some (16, false)), .mk (some 21) (.p (.bin .lss (.s 18) (.s 20))) (some (16, false)), .mk
  (some 22) (.p (.pick (.s 16) (.c (.bool true)) (.s 21))) none, .mk (some 23) (.p (.mv (.s 22))) none, .mk (some 24) (.p (.faddr 2 (.s 1))) (some (23, false)), .mk (some 25) (.r
  (.load none (.s 24))) (some (23, false)), .mk (some 26) (.p (.faddr 0 (.s 1))) (some (23, false)), .mk (some 27) (.r (.load none (.s 26))) (some (23, false)), .mk (some 28) (.p
  (.bin .sub (.s 27) (.c (.int .i64 2)))) (some (23, false)), .mk (some 29) (.p (.bin .gtr (.s 25) (.s 28))) (some (23, false)), .mk (some 30) (.p (.pick (.s 23) (.c (.bool true))
  (.s 29))) none] [1, 30] []) (.cond (.s 30) (.seq (.region [.mk (some 2) (.p (.mv (.c (.bool false)))) none] [2] []) .ret) .skip)) (.seq (.seq (.region [.mk (some 31) (.p (.faddr 3
  (.s 1))) none, .mk (some 32) (.r (.load none (.s 31))) none, .mk (some 33) (.p (.bin .lss (.s 32) (.c (.int .i64 1)))) none, .mk (some 34) (.p (.mv (.s 33))) none, .mk (some 35)
  (.p (.faddr 3 (.s 1))) (some (34, false)), .mk (some 36) (.r (.load none (.s 35))) (some (34, false)), .mk (some 37) (.p (.bin .gtr (.s 36) (.c (.int .i64 1000)))) (some (34,
  false)), .mk (some 38) (.p (.pick (.s 34) (.c (.bool true)) (.s 37))) none, .mk (some 39) (.p (.mv (.s 38))) none, .mk (some 40) (.p (.faddr 4 (.s 1))) (some (39, false)), .mk
  (some 41) (.r (.load none (.s 40))) (some (39, false)), .mk (some 42) (.p (.bin .lss (.s 41) (.c (.int .i64 2)))) (some (39, false)), .mk (some 43) (.p (.pick (.s 39) (.c (.bool
  true)) (.s 42))) none, .mk (some 44) (.p (.mv (.s 43))) none, .mk (some 45) (.p (.faddr 4 (.s 1))) (some (44, false)), .mk (some 46) (.r (.load none (.s 45))) (some (44, false)),
  .mk (some 47) (.p (.bin .gtr (.s 46) (.c (.int .i64 10000)))) (some (44, false)), .mk (some 48) (.p (.pick (.s 44) (.c (.bool true)) (.s 47))) none, .mk (some 49) (.p (.mv (.s
  48))) none, .mk (some 50) (.p (.faddr 5 (.s 1))) (some (49, false)), .mk (some 51) (.r (.load none (.s 50))) (some (49, false)), .mk (some 52) (.p (.bin .lss (.s 51) (.c (.int
  .i64 0)))) (some (49, false)), .mk (some 53) (.p (.pick (.s 49) (.c (.bool true)) (.s 52))) none, .mk (some 54) (.p (.mv (.s 53))) none, .mk (some 55) (.p (.faddr 5 (.s 1))) (some
  (54, false)), .mk (some 56) (.r (.load none (.s 55))) (some (54, false)), .mk (some 57) (.p (.bin .gtr (.s 56) (.c (.int .i64 1000)))) (some (54, false)), .mk (some 58) (.p (.pick
  (.s 54) (.c (.bool true)) (.s 57))) none] [1, 58] []) (.cond (.s 58) (.seq (.region [.mk (some 2) (.p (.mv (.c (.bool false)))) none] [2] []) .ret) .skip)) (.seq (.region [.mk
  (some 59) (.p (.faddr 6 (.s 1))) none, .mk (some 60) (.r (.load none (.s 59))) none, .mk (some 61) (.p (.bin .geq (.s 60) (.c (.int .i32 128)))) none, .mk (some 62) (.p (.mv (.s
  61))) none, .mk (some 63) (.p (.faddr 6 (.s 1))) (some (62, true)), .mk (some 64) (.r (.load none (.s 63))) (some (62, true)), .mk (some 65) (.e (.call 42 [.s
  64])) (some (62, true)), .mk (some 66) (.p (.bin .gtr (.s 65) (.c (.int .i64 0)))) (some (62, true)), .mk (some 67) (.p (.pick (.s 62) (.s 66) (.c (.bool false)))) none, .mk (some
  2) (.p (.mv (.s 67))) none] [2] []) .ret))))
theorem fn_guiseref17_Right : (autoPrg Try.prog).fn 18 = some LF_guiseref17_Right := by kernel_rfl

def LF_guiseref1_Width : LFunc :=
  .mk 1 [.tmp 2] (.seq (.region [.mk (some 2) (.p (.mv (.c (.int .i64 0)))) none] [0] []) (.seq (.block 0 (.seq (.region [.mk (some 4) (.p (.mv (.s 0))) none, .mk (some 5) (.p (.bin
  .lss (.s 4) (.c (.int .i32 0)))) none, .mk (some 6) (.p (.mv (.s 5))) none, .mk (some 7) (.p (.mv (.s 0))) (some (6, false)), .mk (some 8) (.p (.bin .gtr (.s 7) (.c (.int .i32
  1114111)))) (some (6, false)), .mk (some 9) (.p (.pick (.s 6) (.c (.bool true)) (.s 8))) none, .mk (some 10) (.p (.mv (.s 9))) none, .mk (some 11) (.p (.mv (.s 0))) (some (10,
  false)), .mk (some 12) (.p (.bin .geq (.s 11) (.c (.int .i32 55296)))) (some (10, false)), .mk (some 13) (.p (.mv (.s 12))) (some (10, false)), .mk (some 14) (.p (.mv (.s 0)))
  (some (13, true)), .mk (some 15) (.p (.bin .leq (.s 14) (.c (.int .i32 57343)))) (some (13, true)), .mk (some 16) (.p (.pick (.s 13) (.s 15) (.c (.bool false)))) (some (10,
  false)), .mk (some 17) (.p (.pick (.s 10) (.c (.bool true)) (.s 16))) none, .mk (some 3) (.p (.mv (.s 17))) none] [0, 3] []) (.cond (.s 3) (.seq (.region [.mk (some 2) (.p (.mv
  (.c (.int .i64 0)))) none] [2] []) .ret) (.seq (.region [.mk (some 19) (.p (.mv (.s 0))) none, .mk (some 20) (.p (.bin .lss (.s 19) (.c (.int .i32 128)))) none, .mk (some 18) (.p
  (.mv (.s 20))) none] [0, 18] []) (.cond (.s 18) (.seq (.region [.mk (some 2) (.p (.mv (.c (.int .i64 1)))) none] [2] []) .ret) (.seq (.region [.mk (some 22) (.p (.mv (.s 0)))
  none, .mk (some 23) (.p (.bin .lss (.s 22) (.c (.int .i32 2048)))) none, .mk (some 21) (.p (.mv (.s 23))) none] [0, 21] []) (.cond (.s 21) (.seq (.region [.mk (some 2) (.p (.mv
  (.c (.int .i64 2)))) none] [2] []) .ret) (.seq (.region [.mk (some 25) (.p (.mv (.s 0))) none, .mk (some 26) (.p (.bin .lss (.s 25) (.c (.int .i32 65536)))) none, .mk (some 24)
  (.p (.mv (.s 26))) none] [24] []) (.cond (.s 24) (.seq (.region [.mk (some 2) (.p (.mv (.c (.int .i64 3)))) none] [2] []) .ret) .skip))))))))) (.seq (.region [.mk (some 2) (.p
  (.mv (.c (.int .i64 4)))) none] [2] []) .ret)))
theorem fn_guiseref1_Width : (autoPrg Try.prog).fn 42 = some LF_guiseref1_Width := by kernel_rfl

end Go.Proofs.Ytmfpkgcphlilmaa.AM
