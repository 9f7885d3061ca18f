/- Lifted functions, each a constant. -/
import Derived.Test.YtmfpkgcphlilmaaBA
set_option linter.unusedVariables false
namespace Go.Proofs.Ytmfpkgcphlilmaa.AM
open Go

def LF_utf8_ValidRune : LFunc :=
  .mk 1 [.tmp 2] (.seq (.region [.mk (some 2) (.p (.mv (.c (.bool false)))) none] [0] []) (.seq (.block 0 (.seq (.region [.mk (some 4) (.p (.mv (.s 0))) none, .mk (some 5) (.p (.bin
  .leq (.c (.int .i32 0)) (.s 4))) none, .mk (some 6) (.p (.mv (.s 5))) none, .mk (some 7) (.p (.mv (.s 0))) (some (6, true)), .mk (some 8) (.p (.bin .lss (.s 7) (.c (.int .i32
  55296)))) (some (6, true)), .mk (some 9) (.p (.pick (.s 6) (.s 8) (.c (.bool false)))) none, .mk (some 3) (.p (.mv (.s 9))) none] [0, 3] []) (.cond (.s 3) (.seq (.region [.mk
  (some 2) (.p (.mv (.c (.bool true)))) none] [2] []) .ret) (.seq (.region [.mk (some 11) (.p (.mv (.s 0))) none, .mk (some 12) (.p (.bin .lss (.c (.int .i32 57343)) (.s 11))) none,
  .mk (some 13) (.p (.mv (.s 12))) none, .mk (some 14) (.p (.mv (.s 0))) (some (13, true)), .mk (some 15) (.p (.bin .leq (.s 14) (.c (.int .i32 1114111)))) (some (13, true)), .mk
  (some 16) (.p (.pick (.s 13) (.s 15) (.c (.bool false)))) none, .mk (some 10) (.p (.mv (.s 16))) none] [10] []) (.cond (.s 10) (.seq (.region [.mk (some 2) (.p (.mv (.c (.bool
  true)))) none] [2] []) .ret) .skip))))) (.seq (.region [.mk (some 2) (.p (.mv (.c (.bool false)))) none] [2] []) .ret)))
theorem fn_utf8_ValidRune : (autoPrg Try.prog).fn 27 = some LF_utf8_ValidRune := by kernel_rfl

def LF_utf_Spots : LFunc :=
  .mk 1 [.tmp 2] (.seq (.region [.mk (some 1) (.e (.boxH 1 (.s 0))) none, .mk (some 2) (.p (.mv (.c .nilFunc))) none] [1] []) (.seq (.region [.mk (some 3) (.p (.mkfn (.func
  49) [] [.s 1])) none, .mk (some 2) (.p (.mv (.s 3))) none] [2] []) .ret))
theorem fn_utf_Spots : (autoPrg Try.prog).fn 28 = some LF_utf_Spots := by kernel_rfl

def LF_utf_Spots_1 : LFunc :=
  .mk 2 [] (.seq (.region [.mk (some 6) (.r (.load none (.s 1))) none, .mk (some 7) (.e (.rngS 7 (.s 6))) none] [0, 1, 7] []) (.block 0 (.loop (.seq (.region [.mk (some 8) (.e
  (.nxtS (.s 7))) none, .mk (some 9) (.p (.ext 0 (.s 8))) none] [0, 1, 7, 8, 9] []) (.seq (.cond (.s 9) .skip (.exit 0)) (.block 1 (.seq (.region [.mk (some 10) (.p (.ext 1 (.s 8)))
  none, .mk (some 11) (.p (.ext 2 (.s 8))) none, .mk (some 3) (.p (.mv (.s 10))) none, .mk (some 4) (.p (.mv (.s 11))) none] [0, 1, 3, 4, 7] []) (.seq (.region [.mk (some 12) (.p
  (.mv (.s 4))) none, .mk (some 13) (.e (.call 50 [.s 12])) none, .mk (some 5) (.p (.mv (.s 13))) none] [0, 1, 3, 4, 5, 7] []) (.seq (.seq (.region [.mk (some 14) (.p
  (.mv (.s 4))) none, .mk (some 15) (.p (.bin .eql (.s 14) (.c (.int .i32 65533)))) none, .mk (some 16) (.p (.mv (.s 15))) none, .mk (some 17) (.r (.load none (.s 1))) (some (16,
  true)), .mk (some 18) (.p (.mv (.s 3))) (some (16, true)), .mk (some 19) (.p (.slS (.s 17) (some (.s 18)) none)) (some (16, true)), .mk (some 20) (.p (.mv (.s 4))) (some (16,
  true)), .mk (some 21) (.p (.i2s (.s 20))) (some (16, true)), .mk (some 22) (.e (.call 51 [.s 19, .s 21])) (some (16, true)), .mk (some 23) (.p (.un .not (.s
  22))) (some (16, true)), .mk (some 24) (.p (.pick (.s 16) (.s 23) (.c (.bool false)))) none] [0, 1, 3, 4, 5, 7, 24] []) (.cond (.s 24) (.region [.mk (some 5) (.p (.mv (.c (.int
  .i64 1)))) none] [0, 1, 3, 4, 5, 7] []) .skip)) (.seq (.region [.mk (some 25) (.p (.mv (.s 0))) none, .mk (some 26) (.p (.mv (.s 3))) none, .mk (some 27) (.p (.mv (.s 4))) none,
  .mk (some 28) (.p (.mv (.s 5))) none, .mk (some 29) (.e (.call 52 [.s 27, .s 28])) none, .mk (some 30) (.e (.callv (.s 25) [.s 26, .s 29])) none, .mk (some 31) (.p (.un
  .not (.s 30))) none] [0, 1, 7, 31] []) (.cond (.s 31) .ret .skip)))))))))))
theorem fn_utf_Spots_1 : (autoPrg Try.prog).fn 49 = some LF_utf_Spots_1 := by kernel_rfl

def LF_utf8_RuneLen : LFunc :=
  .mk 1 [.tmp 2] (.seq (.region [.mk (some 2) (.p (.mv (.c (.int .i64 0)))) none] [0] []) (.seq (.block 0 (.seq (.region [.mk (some 4) (.p (.mv (.s 0))) none, .mk (some 5) (.p (.bin
  .lss (.s 4) (.c (.int .i32 0)))) none, .mk (some 3) (.p (.mv (.s 5))) none] [0, 3] []) (.cond (.s 3) (.seq (.region [.mk (some 2) (.p (.mv (.c (.int .i64 (-1))))) none] [2] [])
  .ret) (.seq (.region [.mk (some 7) (.p (.mv (.s 0))) none, .mk (some 8) (.p (.bin .leq (.s 7) (.c (.int .i32 127)))) none, .mk (some 6) (.p (.mv (.s 8))) none] [0, 6] []) (.cond
  (.s 6) (.seq (.region [.mk (some 2) (.p (.mv (.c (.int .i64 1)))) none] [2] []) .ret) (.seq (.region [.mk (some 10) (.p (.mv (.s 0))) none, .mk (some 11) (.p (.bin .leq (.s 10)
  (.c (.int .i32 2047)))) none, .mk (some 9) (.p (.mv (.s 11))) none] [0, 9] []) (.cond (.s 9) (.seq (.region [.mk (some 2) (.p (.mv (.c (.int .i64 2)))) none] [2] []) .ret) (.seq
  (.region [.mk (some 13) (.p (.mv (.s 0))) none, .mk (some 14) (.p (.bin .leq (.c (.int .i32 55296)) (.s 13))) none, .mk (some 15) (.p (.mv (.s 14))) none, .mk (some 16) (.p (.mv
  (.s 0))) (some (15, true)), .mk (some 17) (.p (.bin .leq (.s 16) (.c (.int .i32 57343)))) (some (15, true)), .mk (some 18) (.p (.pick (.s 15) (.s 17) (.c (.bool false)))) none,
  .mk (some 12) (.p (.mv (.s 18))) none] [0, 12] []) (.cond (.s 12) (.seq (.region [.mk (some 2) (.p (.mv (.c (.int .i64 (-1))))) none] [2] []) .ret) (.seq (.region [.mk (some 20)
  (.p (.mv (.s 0))) none, .mk (some 21) (.p (.bin .leq (.s 20) (.c (.int .i32 65535)))) none, .mk (some 19) (.p (.mv (.s 21))) none] [0, 19] []) (.cond (.s 19) (.seq (.region [.mk
  (some 2) (.p (.mv (.c (.int .i64 3)))) none] [2] []) .ret) (.seq (.region [.mk (some 23) (.p (.mv (.s 0))) none, .mk (some 24) (.p (.bin .leq (.s 23) (.c (.int .i32 1114111))))
  none, .mk (some 22) (.p (.mv (.s 24))) none] [22] []) (.cond (.s 22) (.seq (.region [.mk (some 2) (.p (.mv (.c (.int .i64 4)))) none] [2] []) .ret) .skip))))))))))))) (.seq
  (.region [.mk (some 2) (.p (.mv (.c (.int .i64 (-1))))) none] [2] []) .ret)))
theorem fn_utf8_RuneLen : (autoPrg Try.prog).fn 50 = some LF_utf8_RuneLen := by kernel_rfl

def LF_strings_HasPrefix : LFunc :=
  .mk 2 [.tmp 4] (.seq (.region [.mk (some 4) (.p (.mv (.c (.bool false)))) none] [0, 1] []) (.seq (.region [.mk (some 5) (.p (.mv (.s 0))) none, .mk (some 6) (.p (.mv (.s 1)))
  none, .mk (some 7) (.e (.call 70 [.s 5, .s 6])) none, .mk (some 4) (.p (.mv (.s 7))) none] [4] []) .ret))
theorem fn_strings_HasPrefix : (autoPrg Try.prog).fn 51 = some LF_strings_HasPrefix := by kernel_rfl

def LF_internal_stringslite_HasPrefix : LFunc :=
  .mk 2 [.tmp 4] (.seq (.region [.mk (some 4) (.p (.mv (.c (.bool false)))) none] [0, 1] []) (.seq (.region [.mk (some 5) (.p (.mv (.s 0))) none, .mk (some 6) (.p (.slen (.s 5)))
  none, .mk (some 7) (.p (.mv (.s 1))) none, .mk (some 8) (.p (.slen (.s 7))) none, .mk (some 9) (.p (.bin .geq (.s 6) (.s 8))) none, .mk (some 10) (.p (.mv (.s 9))) none, .mk (some
  11) (.p (.mv (.s 0))) (some (10, true)), .mk (some 12) (.p (.mv (.s 1))) (some (10, true)), .mk (some 13) (.p (.slen (.s 12))) (some (10, true)), .mk (some 14) (.p (.slS (.s 11)
  none (some (.s 13)))) (some (10, true)), .mk (some 15) (.p (.mv (.s 1))) (some (10, true)), .mk (some 16) (.p (.bin .eql (.s 14) (.s 15))) (some (10, true)), .mk (some 17) (.p
  (.pick (.s 10) (.s 16) (.c (.bool false)))) none, .mk (some 4) (.p (.mv (.s 17))) none] [4] []) .ret))
theorem fn_internal_stringslite_HasPrefix : (autoPrg Try.prog).fn 70 = some LF_internal_stringslite_HasPrefix := by kernel_rfl

def LF_utf_spot : LFunc :=
  .mk 2 [.cell 4 (some 3)] (.seq (.region [.mk (some 4) (.e (.newL 4 [.int .i32 0, .int .i64 0, .bool false])) none] [0, 1, 4] []) (.seq (.region [.mk (some 5) (.p (.mv (.s 0)))
  none, .mk (some 6) (.p (.mv (.s 1))) none, .mk (some 7) (.p (.mv (.s 0))) none, .mk (some 8) (.p (.bin .eql (.s 7) (.c (.int .i32 65533)))) none, .mk (some 9) (.p (.mv (.s 8)))
  none, .mk (some 10) (.p (.mv (.s 1))) (some (9, true)), .mk (some 11) (.p (.bin .eql (.s 10) (.c (.int .i64 1)))) (some (9, true)), .mk (some 12) (.p (.pick (.s 9) (.s 11) (.c
  (.bool false)))) none, .mk (some 13) (.p (.build [.int .i32 0, .int .i64 0, .bool false] [(0, 1, .s 5), (1, 1, .s 6), (2, 1, .s 12)])) none, .mk none (.e (.store 3 (.s 4) (.s
  13))) none] [4] []) .ret))
theorem fn_utf_spot : (autoPrg Try.prog).fn 52 = some LF_utf_spot := by kernel_rfl


end Go.Proofs.Ytmfpkgcphlilmaa.AM
