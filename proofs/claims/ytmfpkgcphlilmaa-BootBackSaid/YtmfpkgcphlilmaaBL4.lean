/- The lifted code of letters, abs, utf.Count, utf.Valid, the houses (printed by lits.py). -/
import Derived.Test.YtmfpkgcphlilmaaUtfL
set_option linter.unusedVariables false
namespace Go.Proofs.Ytmfpkgcphlilmaa.AM
open Go
def LF_boot_House : LFunc :=
  .mk 0 [.cell 0 (some 7)] (.seq (.region [.mk (some 0) (.e (.newL 0 [.int .i64 0, .int .i64 0, .int .i64 0, .int .i64 0, .int .i64 0, .int .i64 0, .int .i32 0])) none] [0] [])
  (.seq (.region [.mk (some 1) (.p (.build [.int .i64 0, .int .i64 0, .int .i64 0, .int .i64 0, .int .i64 0, .int .i64 0, .int .i32 0] [(0, 1, .c (.int .i64 36)), (1, 1, .c (.int
  .i64 2)), (2, 1, .c (.int .i64 24)), (3, 1, .c (.int .i64 40)), (4, 1, .c (.int .i64 600)), (5, 1, .c (.int .i64 64)), (6, 1, .c (.int .i32 128))])) none, .mk none (.e (.store 7
  (.s 0) (.s 1))) none] [0] []) .ret))
theorem fn_boot_House : (autoPrg Try.prog).fn 13 = some LF_boot_House := by kernel_rfl

def LF_guiseref17_House : LFunc :=
  .mk 0 [.cell 0 (some 7)] (.seq (.region [.mk (some 0) (.e (.newL 0 [.int .i64 0, .int .i64 0, .int .i64 0, .int .i64 0, .int .i64 0, .int .i64 0, .int .i32 0])) none] [0] [])
  (.seq (.region [.mk (some 1) (.p (.build [.int .i64 0, .int .i64 0, .int .i64 0, .int .i64 0, .int .i64 0, .int .i64 0, .int .i32 0] [(0, 1, .c (.int .i64 36)), (1, 1, .c (.int
  .i64 2)), (2, 1, .c (.int .i64 24)), (3, 1, .c (.int .i64 40)), (4, 1, .c (.int .i64 600)), (5, 1, .c (.int .i64 64)), (6, 1, .c (.int .i32 128))])) none, .mk none (.e (.store 7
  (.s 0) (.s 1))) none] [0] []) .ret))
theorem fn_guiseref17_House : (autoPrg Try.prog).fn 14 = some LF_guiseref17_House := by kernel_rfl

def LF_guiselaw17_letters : LFunc :=
  .mk 1 [.tmp 2] (.seq (.region [.mk (some 2) (.p (.mv (.c (.bool false)))) none] [0] []) (.seq (.seq (.region [.mk (some 3) (.p (.mv (.c (.int .i64 0)))) none] [0, 3] []) (.block 0
  (.loop (.seq (.seq (.region [.mk (some 4) (.p (.mv (.s 3))) none, .mk (some 5) (.p (.mv (.s 0))) none, .mk (some 6) (.p (.slen (.s 5))) none, .mk (some 7) (.p (.bin .lss (.s 4)
  (.s 6))) none] [0, 3, 7] []) (.cond (.s 7) .skip (.exit 0))) (.seq (.block 1 (.seq (.region [.mk (some 10) (.p (.mv (.s 0))) none, .mk (some 11) (.p (.mv (.s 3))) none, .mk (some
  12) (.p (.idxS (.s 10) (.s 11))) none, .mk (some 13) (.p (.bin .neq (.s 12) (.c (.int .u8 45)))) none, .mk (some 14) (.p (.mv (.s 13))) none, .mk (some 15) (.p (.mv (.s 0))) (some
  (14, true)), .mk (some 16) (.p (.mv (.s 3))) (some (14, true)), .mk (some 17) (.p (.idxS (.s 15) (.s 16))) (some (14, true)), .mk (some 18) (.p (.bin .lss (.s 17) (.c (.int .u8
  97)))) (some (14, true)), .mk (some 19) (.p (.mv (.s 18))) (some (14, true)), .mk (some 20) (.p (.mv (.s 0))) (some (19, false)), .mk (some 21) (.p (.mv (.s 3))) (some (19,
  false)), .mk (some 22) (.p (.idxS (.s 20) (.s 21))) (some (19, false)), .mk (some 23) (.p (.bin .gtr (.s 22) (.c (.int .u8 122)))) (some (19, false)), .mk (some 24) (.p (.pick (.s
  19) (.c (.bool true)) (.s 23))) (some (14, true)), .mk (some 25) (.p (.pick (.s 14) (.s 24) (.c (.bool false)))) none, .mk (some 26) (.p (.mv (.s 25))) none, .mk (some 27) (.p
  (.mv (.s 0))) (some (26, true)), .mk (some 28) (.p (.mv (.s 3))) (some (26, true)), .mk (some 29) (.p (.idxS (.s 27) (.s 28))) (some (26, true)), .mk (some 30) (.p (.bin .lss (.s
  29) (.c (.int .u8 48)))) (some (26, true)), .mk (some 31) (.p (.mv (.s 30))) (some (26, true)), .mk (some 32) (.p (.mv (.s 0))) (some (31, false)), .mk (some 33) (.p (.mv (.s 3)))
  (some (31, false)), .mk (some 34) (.p (.idxS (.s 32) (.s 33))) (some (31, false)), .mk (some 35) (.p (.bin .gtr (.s 34) (.c (.int .u8 57)))) (some (31, false)), .mk (some 36) (.p
  (.pick (.s 31) (.c (.bool true)) (.s 35))) (some (26, true)), .mk (some 37) (.p (.pick (.s 26) (.s 36) (.c (.bool false)))) none] [0, 3, 37] []) (.cond (.s 37) (.seq (.region [.mk
  (some 2) (.p (.mv (.c (.bool false)))) none] [2] []) .ret) .skip))) (.region [.mk (some 8) (.p (.mv (.s 3))) none, .mk (some 9) (.p (.bin .add (.s 8) (.c (.int .i64 1)))) none,
  .mk (some 3) (.p (.mv (.s 9))) none] [0, 3] [])))))) (.seq (.region [.mk (some 2) (.p (.mv (.c (.bool true)))) none] [2] []) .ret)))
theorem fn_guiselaw17_letters : (autoPrg Try.prog).fn 22 = some LF_guiselaw17_letters := by kernel_rfl

def LF_guiselaw17_abs : LFunc :=
  .mk 1 [.tmp 2] (.seq (.region [.mk (some 2) (.p (.mv (.c (.int .i64 0)))) none] [0] []) (.seq (.seq (.region [.mk (some 3) (.p (.mv (.s 0))) none, .mk (some 4) (.p (.bin .lss (.s
  3) (.c (.int .i64 0)))) none] [0, 4] []) (.cond (.s 4) (.seq (.region [.mk (some 5) (.p (.mv (.s 0))) none, .mk (some 6) (.p (.bin .add (.s 5) (.c (.int .i64 1)))) none, .mk (some
  7) (.p (.un .neg (.s 6))) none, .mk (some 2) (.p (.mv (.s 7))) none] [2] []) .ret) .skip)) (.seq (.region [.mk (some 8) (.p (.mv (.s 0))) none, .mk (some 2) (.p (.mv (.s 8)))
  none] [2] []) .ret)))
theorem fn_guiselaw17_abs : (autoPrg Try.prog).fn 23 = some LF_guiselaw17_abs := by kernel_rfl

def LF_utf_Count : LFunc :=
  .mk 1 [.tmp 2] (.seq (.region [.mk (some 2) (.p (.mv (.c (.int .i64 0)))) none] [0] []) (.seq (.region [.mk (some 3) (.p (.mv (.c (.int .i64 0)))) none] [0, 3] []) (.seq (.seq
  (.region [.mk (some 4) (.p (.mv (.s 0))) none, .mk (some 5) (.e (.rngS 5 (.s 4))) none] [3, 5] []) (.block 0 (.loop (.seq (.region [.mk (some 6) (.e (.nxtS (.s 5))) none, .mk
  (some 7) (.p (.ext 0 (.s 6))) none] [3, 5, 7] []) (.seq (.cond (.s 7) .skip (.exit 0)) (.block 1 (.region [.mk (some 8) (.p (.mv (.s 3))) none, .mk (some 9) (.p (.bin .add (.s 8)
  (.c (.int .i64 1)))) none, .mk (some 3) (.p (.mv (.s 9))) none] [3, 5] []))))))) (.seq (.region [.mk (some 10) (.p (.mv (.s 3))) none, .mk (some 2) (.p (.mv (.s 10))) none] [2]
  []) .ret))))
theorem fn_utf_Count : (autoPrg Try.prog).fn 24 = some LF_utf_Count := by kernel_rfl

def LF_utf_Valid : LFunc :=
  .mk 1 [.cell 2 (some 2), .cell 3 none] (.seq (.region [.mk (some 2) (.e (.newH [.int .i64 0, .int .i64 0])) none, .mk (some 3) (.e (.newH [.bool false])) none] [0, 2, 3] []) (.seq
  (.region [.mk (some 4) (.e (.newH [.int .i64 0])) none, .mk none (.e (.store 1 (.s 4) (.c (.int .i64 0)))) none] [0, 2, 3, 4] []) (.seq (.seq (.region [.mk (some 7) (.p (.mv (.s
  0))) none, .mk (some 8) (.e (.call 28 [.s 7])) none] [2, 3, 4, 8] []) (.block 0 (.rangeF (.s 8) [9, 10] (.seq (.region [.mk (some 5) (.p (.mv (.s 9))) none] [2, 3, 4,
  5, 10] []) (.region [.mk (some 6) (.e (.newL 6 [.int .i32 0, .int .i64 0, .bool false])) none, .mk none (.e (.store 3 (.s 6) (.s 10))) none] [2, 3, 4, 5, 6] [])) (.block 1 (.seq
  (.seq (.region [.mk (some 11) (.p (.faddr 2 (.s 6))) none, .mk (some 12) (.r (.load none (.s 11))) none] [2, 3, 4, 5, 12] []) (.cond (.s 12) (.seq (.region [.mk (some 13) (.p (.mv
  (.s 5))) none, .mk (some 14) (.r (.load none (.s 4))) none, .mk (some 15) (.p (.build [.int .i64 0, .int .i64 0] [(0, 1, .s 13), (1, 1, .s 14)])) none, .mk none (.e (.store 2 (.s
  2) (.s 15))) none, .mk none (.e (.store 1 (.s 3) (.c (.bool false)))) none] [] []) .ret) .skip)) (.region [.mk (some 16) (.r (.load none (.s 4))) none, .mk (some 17) (.p (.bin
  .add (.s 16) (.c (.int .i64 1)))) none, .mk none (.e (.store 1 (.s 4) (.s 17))) none] [] [])))))) (.seq (.region [.mk (some 18) (.p (.build [.int .i64 0, .int .i64 0] [])) none,
  .mk none (.e (.store 2 (.s 2) (.s 18))) none, .mk none (.e (.store 1 (.s 3) (.c (.bool true)))) none] [2, 3] []) .ret))))
theorem fn_utf_Valid : (autoPrg Try.prog).fn 25 = some LF_utf_Valid := by kernel_rfl

end Go.Proofs.Ytmfpkgcphlilmaa.AM
