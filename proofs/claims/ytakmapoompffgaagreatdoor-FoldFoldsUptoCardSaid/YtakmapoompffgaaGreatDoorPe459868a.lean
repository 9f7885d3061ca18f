/- Parts of proofs: lemmas, joined. -/
import Derived.Test.YtakmapoompffgaaGreatDoorP2717dce8
set_option linter.unusedVariables false
set_option linter.unusedSimpArgs false
set_option linter.unusedSectionVars false
namespace Go.Proofs.YtakmapoompffgaaGreatDoor.AM
open Go
def LF_tables_wrong:LFunc :=
  .mk 3 [.cell 6 (some 3)] (.seq (R 6 [0,1,2,6] [.tmp 6 (xnl 6 [.int .i64 0,.int .i64 0,.int .i64 0])]) (.seq (R 7 [6] [.run (xst 3 (.sl 6) (.op (.p (.build [.int .i64 0,.int
  .i64 0,.int .i64 0] [(0,1,.s 0),(1,1,.s 1),(2,1,.s 2)])) (.cons (.va 0) (.cons (.va 1) (.va 2)))))]) .ret))
theorem fn_tables_wrong:(autoPrg Tryz.prog).fn 92 = some LF_tables_wrong:=by kernel_rfl
def LF_tables_name:LFunc :=
  .mk 1 [.tmp 2] (.seq (R 999 [0] [.set 2 (.cv (.bool false))]) (.seq (.seq (R 5 [0,6] [.tmp 6 (.op (.e (.rngS 6 (.s 0))) (.va 0))]) (.block 0 (.loop (.seq (R 7 [0,6,7,8] [.tmp
  7 (.op (.e (.nxtS (.s 0))) (.sl 6)),.tmp 8 (xex 0 (.sl 7))]) (.seq (.cond (.s 8) .skip (.exit 0)) (.block 1 (.seq (R 9 [0,3,4,6] [.tmp 9 (xex 1 (.sl 7)),.tmp 10 (xex 2 (.sl
  7)),.set 3 (.sl 9),.set 4 (.sl 10)]) (.seq (R 11 [0,6,32] [.tmp 32 (.and (.or (xb .lss (.va 4) (xr 97)) (xb .gtr (.va 4) (xr 122))) (.or (xb .eql (.va 3) (xi 0)) (.and (xb
  .neq (.va 4) (xr 45)) (.or (xb .lss (.va 4) (xr 48)) (xb .gtr (.va 4) (xr 57))))))]) (.cond (.s 32) (.seq (R 999 [2] [.set 2 (.cv (.bool false))]) .ret) .skip))))))))) (.seq (R 33
  [2] [.set 2 (.and (xb .neq (.va 0) (.cv (.string ⟨#[]⟩))) (xb .leq (xsl (.va 0)) (xi 32)))]) .ret)))
theorem fn_tables_name:(autoPrg Tryz.prog).fn 93 = some LF_tables_name:=by kernel_rfl
def LF_sets_Right:LFunc :=
  .mk 1 [.tmp 2,.tmp 3] (.seq (R 999 [0] [.set 2 (xi 0),.set 3 (xi 0)]) (.seq (.seq (R 7 [0,7,8,9] [.tmp 7 (.va 0),.tmp 8 (xlen (.sl 7)),.set 9 (xi 0)]) (.block 0 (.loop
  (.seq (R 10 [0,7,8,9,10] [.tmp 10 (xb .lss (.sl 9) (.sl 8))]) (.seq (.cond (.s 10) .skip (.exit 0)) (.seq (.block 1 (.seq (R 11 [0,4,5,7,8,9] [.tmp 11 (.va 9),.tmp 13
  (xln 2 (xia 2 (.sl 7) (.sl 9))),.at 5,.tmp 5 (xnl 5 [.int .i32 0,.int .i32 0]),.set 4 (.sl 11),.run (xst 2 (.sl 5) (.sl 13))]) (.seq (.seq (R 14 [0,4,5,6,7,8,9] [.set 6
  (xc1 133 (xln 2 (.sl 5)))]) (.seq (R 16 [0,4,5,6,7,8,9,17] [.tmp 17 (xb .neq (.va 6) (xi 0))]) (.cond (.s 17) (.seq (R 18 [2,3] [.tmp 18 (.va 4),.tmp 19 (.va
  6),.set 2 (.sl 18),.set 3 (.sl 19)]) .ret) .skip))) (.seq (R 20 [0,4,7,8,9,32] [.tmp 32 (.and (xb .gtr (.va 4) (xi 0)) (xb .leq (xld (xfa 0 (.sl 5))) (xld (xfa 1 (xia 2
  (.va 0) (xb .sub (.va 4) (xi 1)))))))]) (.cond (.s 32) (.seq (R 33 [2,3] [.set 2 (.va 4),.set 3 (xi 13)]) .ret) .skip))))) (R 34 [0,7,8,9] [.set 9 (xb .add (.sl 9) (xi
  1))]))))))) (.seq (R 999 [2,3] [.set 2 (xi 0),.set 3 (xi 0)]) .ret)))
theorem fn_sets_Right:(autoPrg Tryz.prog).fn 94 = some LF_sets_Right:=by kernel_rfl
def LF_utf8_ValidRune:LFunc :=
  .mk 1 [.tmp 2] (.seq (R 999 [0] [.set 2 (.cv (.bool false))]) (.seq (.block 0 (.seq (R 4 [0,3] [.set 3 (.and (xb .leq (xr 0) (.va 0)) (xb .lss (.va 0) (xr 55296)))]) (.cond (.s
  3) (.seq (R 999 [2] [.set 2 (.cv (.bool true))]) .ret) (.seq (R 11 [10] [.set 10 (.and (xb .lss (xr 57343) (.va 0)) (xb .leq (.va 0) (xr 1114111)))]) (.cond (.s 10) (.seq (R 999
  [2] [.set 2 (.cv (.bool true))]) .ret) .skip))))) (.seq (R 999 [2] [.set 2 (.cv (.bool false))]) .ret)))
theorem fn_utf8_ValidRune:(autoPrg Tryz.prog).fn 95 = some LF_utf8_ValidRune:=by kernel_rfl
def LF_utf8_RuneCountInString:LFunc :=
  .mk 1 [.tmp 2] (.seq (R 999 [0,2] [.set 2 (xi 0)]) (.seq (.seq (R 3 [2,4] [.tmp 4 (.op (.e (.rngS 4 (.s 0))) (.va 0))]) (.block 0 (.loop (.seq (R 5 [2,4,6] [.tmp 6 (xex 0 (.op
  (.e (.nxtS (.s 0))) (.sl 4)))]) (.seq (.cond (.s 6) .skip (.exit 0)) (.block 1 (R 7 [2,4] [.set 2 (xb .add (.va 2) (xi 1))]))))))) (.seq (R 9 [2] [.set 2 (.va 2)]) .ret)))
theorem fn_utf8_RuneCountInString:(autoPrg Tryz.prog).fn 96 = some LF_utf8_RuneCountInString:=by kernel_rfl
def LF_utf8_ValidString:LFunc :=
  .mk 1 [.tmp 2] (.seq (R 999 [0] [.set 2 (.cv (.bool false))]) (.seq (.block 0 (.loop (.seq (.seq (R 7 [0,9] [.tmp 9 (xb .gtr (xsl (.va 0)) (xi 0))]) (.cond (.s 9) .skip (.exit
  0))) (.block 1 (.seq (R 10 [0,3] [.set 3 (xis (.va 0) (xi 0))]) (.seq (.seq (R 12 [0,3,13] [.tmp 13 (xb .lss (.va 3) (.cv (.int .u8 128)))]) (.cond (.s 13) (.seq (R 14 [0]
  [.set 0 (.op (.p (.slS (.s 0) (some (.s 1)) none)) (.cons (.va 0) (xi 1)))]) (.seq (.seq (R 16 [0,24] [.tmp 24 (.and (xb .gtr (xsl (.va 0)) (xi 8)) (xb .eql (xb .and (xc1
  134 (.va 0)) (.cv (.int .u64 9259542123273814144))) (.cv (.int .u64 0))))]) (.cond (.s 24) (.seq (R 25 [0] [.set 0 (.op (.p (.slS (.s 0) (some (.s 1)) none))
  (.cons (.va 0) (xi 8)))]) (.seq (R 27 [0,39] [.tmp 39 (.and (xb .gtr (xsl (.va 0)) (xi 16)) (xb .eql (xb .and (xb .or (xc1 134 (.va 0)) (xc1
  134 (.op (.p (.slS (.s 0) (some (.s 1)) none)) (.cons (.va 0) (xi 8))))) (.cv (.int .u64 9259542123273814144))) (.cv (.int .u64 0))))]) (.cond (.s 39) (.seq (R
  40 [0] [.set 0 (.op (.p (.slS (.s 0) (some (.s 1)) none)) (.cons (.va 0) (xi 16)))]) (.block 2 (.loop (.seq (.seq (R 42 [0,62] [.tmp 62 (.and (xb .gtr (xsl (.va 0)) (xi 32)) (xb
  .eql (xb .and (xb .or (xb .or (xc1 134 (.va 0)) (xc1 134 (.op (.p (.slS (.s 0) (some (.s 1)) none)) (.cons (.va 0) (xi 8))))) (xb .or (xc1
  134 (.op (.p (.slS (.s 0) (some (.s 1)) none)) (.cons (.va 0) (xi 16)))) (xc1 134 (.op (.p (.slS (.s 0) (some (.s 1)) none)) (.cons (.va 0) (xi
  24)))))) (.cv (.int .u64 9259542123273814144))) (.cv (.int .u64 0))))]) (.cond (.s 62) .skip (.exit 2))) (.block 3 (R 63 [0] [.set 0 (.op (.p (.slS (.s 0) (some (.s 1)) none))
  (.cons (.va 0) (xi 32)))])))))) .skip))) .skip)) (.exit 1))) .skip)) (.seq (R 65 [0,4] [.set 4 (xld (.op (.p (.iaddrA 256 1 (.s 0) (.s 1))) (.cons (.cv (.pointer (some (.mk 0 0 none)))) (.va 3))))]) (.seq (R 68 [0,4,5] [.set 5 (xcn .i64 (xb .and (.va 4) (.cv (.int .u8 7))))]) (.seq (R 71 [0,5,6] [.tmp 74 (xln 2 (.op (.p (.iaddrA 16 2 (.s 0) (.s 1)))
  (.cons (.cv (.pointer (some (.mk 1 0 none)))) (xb .shr (.va 4) (.cv (.int .u64 4)))))),.at 6,.tmp 6 (xnl 6 [.int .u8 0,.int .u8 0]),.run (xst 2 (.sl 6) (.sl 74))]) (.seq (R 75
  [0,6,75] [.tmp 75 (.va 5)]) (.block 4 (.seq (R 77 [0,6,75,76] [.set 76 (xb .eql (.sl 75) (xi 2))]) (.cond (.s 76) (.seq (.seq (R 78 [0,94] [.tmp 94 (.or (.or (xb .lss (xsl
  (.va 0)) (xi 2)) (xb .lss (xis (.va 0) (xi 1)) (xld (xfa 0 (.sl 6))))) (xb .lss (xld (xfa 1 (.sl 6))) (xis (.va 0) (xi 1))))]) (.cond (.s 94) (.seq (R 999 [2] [.set 2 (.cv (.bool
  false))]) .ret) .skip)) (R 95 [0] [.set 0 (.op (.p (.slS (.s 0) (some (.s 1)) none)) (.cons (.va 0) (xi 2)))])) (.seq (R 98 [0,6,75,97] [.set 97 (xb .eql (.sl 75) (xi 3))])
  (.cond (.s 97) (.seq (.seq (R 99 [0,125] [.tmp 125 (.or (.or (.or (.or (xb .lss (xsl (.va 0)) (xi 3)) (xb .lss (xis (.va 0) (xi 1)) (xld (xfa 0 (.sl 6))))) (xb .lss (xld (xfa 1
  (.sl 6))) (xis (.va 0) (xi 1)))) (xb .lss (xis (.va 0) (xi 2)) (.cv (.int .u8 128)))) (xb .lss (.cv (.int .u8 191)) (xis (.va 0) (xi 2))))]) (.cond (.s 125) (.seq (R 999 [2] [.set
  2 (.cv (.bool false))]) .ret) .skip)) (R 126 [0] [.set 0 (.op (.p (.slS (.s 0) (some (.s 1)) none)) (.cons (.va 0) (xi 3)))])) (.seq (R 129 [0,6,128] [.set 128 (xb .eql (.sl 75)
  (xi 4))]) (.cond (.s 128) (.seq (.seq (R 130 [0,166] [.tmp 166 (.or (.or (.or (.or (.or (.or (xb .lss (xsl (.va 0)) (xi 4)) (xb .lss (xis (.va 0) (xi 1)) (xld (xfa 0 (.sl 6)))))
  (xb .lss (xld (xfa 1 (.sl 6))) (xis (.va 0) (xi 1)))) (xb .lss (xis (.va 0) (xi 2)) (.cv (.int .u8 128)))) (xb .lss (.cv (.int .u8 191)) (xis (.va 0) (xi 2)))) (xb .lss (xis (.va
  0) (xi 3)) (.cv (.int .u8 128)))) (xb .lss (.cv (.int .u8 191)) (xis (.va 0) (xi 3))))]) (.cond (.s 166) (.seq (R 999 [2] [.set 2 (.cv (.bool false))]) .ret) .skip)) (R 167 [0]
  [.set 0 (.op (.p (.slS (.s 0) (some (.s 1)) none)) (.cons (.va 0) (xi 4)))])) (.seq (R 999 [2] [.set 2 (.cv (.bool false))]) .ret)))))))))))))))))) (.seq (R 999 [2] [.set 2 (.cv
  (.bool true))]) .ret)))
theorem fn_utf8_ValidString:(autoPrg Tryz.prog).fn 97 = some LF_utf8_ValidString:=by kernel_rfl
def LF_tables_of:LFunc :=
  .mk 2 [.tmp 4] (.seq (R 999 [0,1] [.set 4 (.cv (.bool false))]) (.seq (.seq (R 7 [0,1,9] [.tmp 9 (xu .not (xc1 95 (.va 0)))]) (.cond (.s 9) (.seq (R 999 [4]
  [.set 4 (.cv (.bool false))]) .ret) .skip)) (.seq (R 11 [0,1,5,6] [.set 10 (xc3 135 (.va 1) (.va 0) (.cv (.func (.func
  136) (Array.mk []) (Array.mk [])))),.tmp 14 (xex 0 (.sl 10)),.tmp 15 (xex 1 (.sl 10)),.set 5 (.sl 14),.set 6 (.sl 15)]) (.seq (R 16 [4] [.set 4 (.or (.va 6) (.and
  (xb .gtr (.va 5) (xi 0)) (xb .leq (.va 0) (xld (xfa 1 (xia 2 (.va 1) (xb .sub (.va 5) (xi 1))))))))]) .ret))))
theorem fn_tables_of:(autoPrg Tryz.prog).fn 99 = some LF_tables_of:=by kernel_rfl
def LF_tables_low:LFunc :=
  .mk 1 [.tmp 2] (.seq (R 999 [0] [.set 2 (.cv (.bool false))]) (.seq (R 3 [2] [.set 2 (.or (xb .lss (.va 0) (xr 128)) (xb .eql (.va 0) (xr 65533)))]) .ret))
theorem fn_tables_low:(autoPrg Tryz.prog).fn 101 = some LF_tables_low:=by kernel_rfl
def LF_strings_ContainsFunc:LFunc :=
  .mk 2 [.tmp 4] (.seq (R 999 [0,1] [.set 4 (.cv (.bool false))]) (.seq (R 5 [4] [.set 4 (xb .geq (xc2 138 (.va 0) (.va 1)) (xi 0))]) .ret))
theorem fn_strings_ContainsFunc:(autoPrg Tryz.prog).fn 102 = some LF_strings_ContainsFunc:=by kernel_rfl
def LF_tables_fixed:LFunc :=
  .mk 1 [.tmp 2] (.seq (R 999 [0] [.set 2 (.cv (.bool false))]) (.seq (R 3 [2] [.set 2 (.or (.or (.or (xb .lss (.va 0) (xr 32)) (xb .eql (.va 0) (xr 45))) (xb .eql (.va 0) (xr 46)))
  (xb .eql (.va 0) (xr 65533)))]) .ret))
theorem fn_tables_fixed:(autoPrg Tryz.prog).fn 103 = some LF_tables_fixed:=by kernel_rfl
def LF_strings_ContainsRune:LFunc :=
  .mk 2 [.tmp 4] (.seq (R 999 [0,1] [.set 4 (.cv (.bool false))]) (.seq (R 5 [4] [.set 4 (xb .geq (xc2 139 (.va 0) (.va 1)) (xi 0))]) .ret))
theorem fn_strings_ContainsRune:(autoPrg Tryz.prog).fn 104 = some LF_strings_ContainsRune:=by kernel_rfl
def LF_sets_wrong:LFunc :=
  .mk 1 [.tmp 2] (.seq (R 1 [1] [.tmp 1 (xbl 1 2 (.sl 0)),.set 2 (xi 0)]) (.seq (.block 0 (.seq (R 4 [1,3] [.set 3 (.or (xu .not (xc1 95 (xld (xfa 0 (.sl 1)))))
  (xu .not (xc1 95 (xld (xfa 1 (.sl 1))))))]) (.cond (.s 3) (.seq (R 999 [2] [.set 2 (xi 12)]) .ret) (.seq (R 15 [14] [.set 14 (xb .gtr (xld (xfa 0 (.sl 1))) (xld
  (xfa 1 (.sl 1))))]) (.cond (.s 14) (.seq (R 999 [2] [.set 2 (xi 11)]) .ret) .skip))))) (.seq (R 999 [2] [.set 2 (xi 0)]) .ret)))
theorem fn_sets_wrong:(autoPrg Tryz.prog).fn 133 = some LF_sets_wrong:=by kernel_rfl
def LF_utf8_word_string:LFunc :=
  .mk 1 [.tmp 2] (.seq (R 999 [0] [.set 2 (.cv (.int .u64 0))]) (.seq (.cond (.c (.bool false)) (.seq (R 3 [2] [.set 2 (xb .or (xb .or (xb .or (xcn .u64 (xis (.va 0) (xi 0))) (xb
  .shl (xcn .u64 (xis (.va 0) (xi 1))) (.cv (.int .u64 8)))) (xb .shl (xcn .u64 (xis (.va 0) (xi 2))) (.cv (.int .u64 16)))) (xb .shl (xcn .u64 (xis (.va 0) (xi 3))) (.cv (.int .u64
  24))))]) .ret) .skip) (.seq (R 21 [2] [.set 2 (xb .or (xb .or (xb .or (xb .or (xb .or (xb .or (xb .or (xcn .u64 (xis (.va 0) (xi 0))) (xb .shl (xcn .u64 (xis (.va 0) (xi 1))) (.cv
  (.int .u64 8)))) (xb .shl (xcn .u64 (xis (.va 0) (xi 2))) (.cv (.int .u64 16)))) (xb .shl (xcn .u64 (xis (.va 0) (xi 3))) (.cv (.int .u64 24)))) (xb .shl (xcn .u64 (xis (.va 0)
  (xi 4))) (.cv (.int .u64 32)))) (xb .shl (xcn .u64 (xis (.va 0) (xi 5))) (.cv (.int .u64 40)))) (xb .shl (xcn .u64 (xis (.va 0) (xi 6))) (.cv (.int .u64 48)))) (xb .shl (xcn .u64
  (xis (.va 0) (xi 7))) (.cv (.int .u64 56))))]) .ret)))
theorem fn_utf8_word_string:(autoPrg Tryz.prog).fn 134 = some LF_utf8_word_string:=by kernel_rfl
def LF_slices_BinarySearchFunc_api_Span_api_Span_rune:LFunc :=
  .mk 3 [.tmp 6,.tmp 7] (.seq (R 999 [0,1,2] [.set 6 (xi 0),.set 7 (.cv (.bool false))]) (.seq (R 12 [0,1,2,8] [.set 8 (xlen (.va 0))]) (.seq (R 14 [0,1,2,8,9,10] [.tmp
  14 (.va 8),.set 9 (xi 0),.set 10 (.sl 14)]) (.seq (.block 0 (.loop (.seq (.seq (R 15 [0,1,2,8,9,10,17] [.tmp 17 (xb .lss (.va 9) (.va 10))]) (.cond (.s 17) .skip (.exit
  0))) (.block 1 (.seq (R 18 [0,1,2,8,9,10,11] [.set 11 (xcn .i64 (xb .shr (xcn .u64 (xb .add (.va 9) (.va 10))) (.cv (.int .u64 1))))]) (.seq (R 24 [0,1,2,8,9,10,11,
  31] [.tmp 31 (xb .lss (xv2 (.va 2) (xln 2 (xia 2 (.va 0) (.va 11))) (.va 1)) (xi 0))]) (.cond (.s 31) (R 32 [0,1,2,8,9,10] [.set 9 (xb .add (.va 11) (xi 1))]) (R 34 [0,1,2,
  8,9,10] [.set 10 (.va 11)])))))))) (.seq (R 35 [6,7] [.tmp 35 (.va 9),.tmp 48 (.and (xb .lss (.va 9) (.va 8)) (xb .eql (xv2 (.va 2) (xln 2 (xia 2 (.va 0) (.va 9))) (.va 1))
  (xi 0))),.set 6 (.sl 35),.set 7 (.sl 48)]) .ret)))))
theorem fn_slices_BinarySearchFunc_api_Span_api_Span_rune:(autoPrg Tryz.prog).fn 135 = some LF_slices_BinarySearchFunc_api_Span_api_Span_rune:=by kernel_rfl
def LF_tables_of_1:LFunc :=
  .mk 2 [.tmp 4] (.seq (R 2 [1,2] [.tmp 2 (xbl 2 2 (.sl 0)),.set 4 (xi 0)]) (.seq (R 5 [4] [.set 4 (xcn .i64 (xb .sub (xld (xfa 0 (.sl 2))) (.va 1)))]) .ret))
theorem fn_tables_of_1:(autoPrg Tryz.prog).fn 136 = some LF_tables_of_1:=by kernel_rfl
def LF_strings_IndexFunc:LFunc :=
  .mk 2 [.tmp 4] (.seq (R 999 [0,1] [.set 4 (xi 0)]) (.seq (R 5 [4] [.set 4 (xc3 147 (.va 0) (.va 1) (.cv (.bool true)))]) .ret))
theorem fn_strings_IndexFunc:(autoPrg Tryz.prog).fn 138 = some LF_strings_IndexFunc:=by kernel_rfl
def LF_strings_IndexRune:LFunc :=
  .mk 2 [.tmp 4] (.seq (R 999 [0,1,4] [.set 4 (xi 0)]) (.block 0 (.seq (R 161 [0,1,4,160] [.set 160 (.and (xb .leq (xr 0) (.va 1)) (xb .lss (.va 1) (xr 128)))]) (.cond (.s 160)
  (.seq (R 167 [4] [.set 4 (xc2 148 (.va 0) (xcn .u8 (.va 1)))]) .ret) (.seq (R 172 [0,1,4,171] [.set 171 (xb .eql (.va 1) (xr 65533))]) (.cond (.s 171) (.seq
  (.seq (R 174 [175] [.tmp 175 (.op (.e (.rngS 175 (.s 0))) (.va 0))]) (.block 9 (.loop (.seq (R 176 [175,176,177] [.tmp 176 (.op (.e (.nxtS (.s 0))) (.sl 175)),.tmp 177 (xex 0
  (.sl 176))]) (.seq (.cond (.s 177) .skip (.exit 9)) (.block 10 (.seq (R 178 [5,6,175] [.tmp 178 (xex 1 (.sl 176)),.tmp 179 (xex 2 (.sl 176)),.set 5 (.sl 178),.set 6 (.sl
  179)]) (.seq (R 180 [5,175,181] [.tmp 181 (xb .eql (.va 6) (xr 65533))]) (.cond (.s 181) (.seq (R 182 [4] [.set 4 (.va 5)]) .ret) .skip))))))))) (.seq (R 999 [4] [.set 4 (xi
  (-1))]) .ret)) (.seq (R 184 [4,183] [.set 183 (xu .not (xc1 95 (.va 1)))]) (.cond (.s 183) (.seq (R 999 [4] [.set 4 (xi (-1))]) .ret) (.seq .bad (.seq .bad (.seq .bad
  (.seq .bad (.seq (.block 1 (.loop (.seq (.seq .bad (.cond (.s 26) .skip (.exit 1))) (.block 2 (.seq (.seq .bad (.cond (.s 33) (.seq .bad (.seq (.seq .bad (.cond (.s 43) (.seq .bad
  .ret) .skip)) .bad)) .skip)) (.seq (.seq .bad (.block 3 (.loop (.seq (.seq .bad (.cond (.s 51) .skip (.exit 3))) (.seq (.block 4 (.seq .bad (.cond (.s 64) .bad .skip))) .bad)))))
  (.seq (.seq .bad .ret) (.seq .skip (.seq .bad (.seq .bad (.seq .bad (.cond (.s 98) .bad .skip)))))))))))) (.seq (.seq .bad .ret) (.seq .skip (.seq (.cond (.c (.bool true)) (.seq
  .bad (.seq .bad (.cond (.s 108) (.seq .bad .ret) .skip))) (.seq .bad (.seq .bad (.seq .skip (.block 5 (.loop (.seq (.seq .bad (.cond (.s 124) .skip (.exit 5))) (.seq (.block 6
  (.seq .bad (.cond (.s 139) (.seq (.seq .bad (.block 7 (.loop (.seq (.seq .bad (.cond (.s 143) .skip (.exit 7))) (.seq (.block 8 (.seq .bad (.cond (.s 156) (.exit 6) .skip)))
  .bad))))) (.seq .bad .ret)) .skip))) .bad)))))))) (.seq .bad .ret)))))))))))))))))
theorem fn_strings_IndexRune:(autoPrg Tryz.prog).fn 139 = some LF_strings_IndexRune:=by kernel_rfl
def LF_strings_indexFunc:LFunc :=
  .mk 3 [.tmp 6] (.seq (R 999 [0,1,2] [.set 6 (xi 0)]) (.seq (.seq (R 9 [1,2,10] [.tmp 10 (.op (.e (.rngS 10 (.s 0))) (.va 0))]) (.block 0 (.loop (.seq (R 11 [1,2,10,11,12]
  [.tmp 11 (.op (.e (.nxtS (.s 0))) (.sl 10)),.tmp 12 (xex 0 (.sl 11))]) (.seq (.cond (.s 12) .skip (.exit 0)) (.block 1 (.seq (R 13 [1,2,7,8,10] [.tmp 13 (xex 1 (.sl 11)),
  .tmp 14 (xex 2 (.sl 11)),.set 7 (.sl 13),.set 8 (.sl 14)]) (.seq (R 15 [1,2,7,10,19] [.tmp 19 (.op (.p (.eqk false .bool (.s 0) (.s 1))) (.cons (xv1 (.va 1) (.va 8)) (.va
  2)))]) (.cond (.s 19) (.seq (R 20 [6] [.set 6 (.va 7)]) .ret) .skip))))))))) (.seq (R 999 [6] [.set 6 (xi (-1))]) .ret)))
theorem fn_strings_indexFunc:(autoPrg Tryz.prog).fn 147 = some LF_strings_indexFunc:=by kernel_rfl
def LF_strings_IndexByte:LFunc :=
  .mk 2 [.tmp 4] (.seq (R 999 [0,1] [.set 4 (xi 0)]) (.seq (R 5 [4] [.set 4 (xc2 152 (.va 0) (.va 1))]) .ret))
theorem fn_strings_IndexByte:(autoPrg Tryz.prog).fn 148 = some LF_strings_IndexByte:=by kernel_rfl
def LF_internal_stringslite_IndexByte:LFunc :=
  .mk 2 [.tmp 4] (.seq (R 999 [0,1] [.set 4 (xi 0)]) (.seq (R 5 [4] [.set 4 (.op (.p (.idxB (.s 0) (.s 1))) (.cons (.va 0) (.va 1)))]) .ret))
theorem fn_internal_stringslite_IndexByte:(autoPrg Tryz.prog).fn 152 = some LF_internal_stringslite_IndexByte:=by kernel_rfl
end Go.Proofs.YtakmapoompffgaaGreatDoor.AM
namespace Go.Proofs.YtakmapoompffgaaGreatDoor.AM
open Go
def LF_guiseref6_Rune:LFunc :=
  .mk 1 [.tmp 2] (.seq (R 999 [0] [.set 2 (.cv (.bool false))]) (.seq (R 3 [2] [.set 2 (.and (.and (xb .geq (.va 0) (xr 0)) (xb .leq (.va 0) (xr 1114111))) (.or (xb .lss (.va 0) (xr
  55296)) (xb .gtr (.va 0) (xr 57343))))]) .ret))
theorem fn_guiseref6_Rune:(autoPrg Tryz.prog).fn 117 = some LF_guiseref6_Rune:=by kernel_rfl
def LF_guiseref6_Of:LFunc :=
  .mk 2 [.tmp 4] (.seq (R 999 [0,1] [.set 4 (.cv (.bool false))]) (.seq (.seq (R 999 [0,1,5] [.set 5 (xi 0)]) (.block 0 (.loop (.seq (.seq (R 6 [0,1,5,9] [.tmp 9 (xb .lss (.va
  5) (xlen (.va 1)))]) (.cond (.s 9) .skip (.exit 0))) (.seq (.block 1 (.seq (R 12 [0,1,5,31] [.tmp 31 (.and (.and (xc1 117 (.va 0)) (xb .leq (xld (xfa 0 (xia 2
  (.va 1) (.va 5)))) (.va 0))) (xb .leq (.va 0) (xld (xfa 1 (xia 2 (.va 1) (.va 5))))))]) (.cond (.s 31) (.seq (R 999 [4] [.set 4 (.cv (.bool true))]) .ret) .skip))) (R 10 [0,1,5]
  [.set 5 (xb .add (.va 5) (xi 1))])))))) (.seq (R 999 [4] [.set 4 (.cv (.bool false))]) .ret)))
theorem fn_guiseref6_Of:(autoPrg Tryz.prog).fn 121 = some LF_guiseref6_Of:=by kernel_rfl
def LF_guiseref6_ScriptName:LFunc :=
  .mk 1 [.tmp 2] (.seq (R 999 [0] [.set 2 (.cv (.bool false))]) (.seq (.seq (R 999 [0,3] [.set 3 (xi 0)]) (.block 0 (.loop (.seq (.seq (R 5 [0,3,8] [.tmp 8 (xb .lss (.va 3) (xsl
  (.va 0)))]) (.cond (.s 8) .skip (.exit 0))) (.seq (.block 1 (.seq (R 11 [0,3,4] [.set 4 (.and (xb .geq (xis (.va 0) (.va 3)) (.cv (.int .u8 97))) (xb .leq (xis (.va 0) (.va 3))
  (.cv (.int .u8 122))))]) (.seq (R 21 [0,3,44] [.tmp 44 (.and (xu .not (.va 4)) (.or (xb .eql (.va 3) (xi 0)) (.and (xb .neq (xis (.va 0) (.va 3)) (.cv (.int .u8 45))) (.or (xb
  .lss (xis (.va 0) (.va 3)) (.cv (.int .u8 48))) (xb .gtr (xis (.va 0) (.va 3)) (.cv (.int .u8 57)))))))]) (.cond (.s 44) (.seq (R 999 [2] [.set 2 (.cv (.bool false))]) .ret)
  .skip)))) (R 9 [0,3] [.set 3 (xb .add (.va 3) (xi 1))])))))) (.seq (R 45 [2] [.set 2 (.and (xb .geq (xsl (.va 0)) (xi 1)) (xb .leq (xsl (.va 0)) (xi 32)))]) .ret)))
theorem fn_guiseref6_ScriptName:(autoPrg Tryz.prog).fn 140 = some LF_guiseref6_ScriptName:=by kernel_rfl
def LF_guiseref6_mark:LFunc :=
  .mk 2 [.tmp 4] (.seq (R 2 [1,2] [.tmp 2 (xbl 2 8 (.sl 0)),.set 4 (.cv (.bool false))]) (.seq (.seq (R 999 [1,2,5] [.set 5 (xi 0)]) (.block 0 (.loop (.seq (.seq (R 6 [1,2,5,
  10] [.tmp 10 (xb .lss (.va 5) (xlen (xld (xfa 2 (.sl 2)))))]) (.cond (.s 10) .skip (.exit 0))) (.seq (.block 1 (.seq (R 13 [1,2,5,20] [.tmp 20 (xb .eql (xld (xfa 0 (xia 2 (xld
  (xfa 2 (.sl 2))) (.va 5)))) (.va 1))]) (.cond (.s 20) (.seq (R 999 [4] [.set 4 (.cv (.bool true))]) .ret) .skip))) (R 11 [1,2,5] [.set 5 (xb .add (.va 5) (xi 1))])))))) (.seq (R
  999 [4] [.set 4 (.cv (.bool false))]) .ret)))
theorem fn_guiseref6_mark:(autoPrg Tryz.prog).fn 119 = some LF_guiseref6_mark:=by kernel_rfl
def LF_guiseref6_Whole:LFunc :=
  .mk 2 [.tmp 4] (.seq (R 2 [1,2] [.tmp 2 (xbl 2 8 (.sl 0)),.set 4 (xi 0)]) (.seq (.seq (R 999 [1,2,5] [.set 5 (xi 0)]) (.block 0 (.loop (.seq (.seq (R 6 [1,2,5,10] [.tmp 10
  (xb .lss (.va 5) (xlen (xld (xfa 3 (.sl 2)))))]) (.cond (.s 10) .skip (.exit 0))) (.seq (.block 1 (.seq (R 13 [1,2,5,20] [.tmp 20 (xb .eql (xld (xfa 0 (xia 3 (xld (xfa 3 (.sl
  2))) (.va 5)))) (.va 1))]) (.cond (.s 20) (.seq (R 21 [4] [.set 4 (.va 5)]) .ret) .skip))) (R 11 [1,2,5] [.set 5 (xb .add (.va 5) (xi 1))])))))) (.seq (R 999 [4] [.set 4 (xi
  (-1))]) .ret)))
theorem fn_guiseref6_Whole:(autoPrg Tryz.prog).fn 122 = some LF_guiseref6_Whole:=by kernel_rfl
def LF_guiseref6_From:LFunc :=
  .mk 2 [.tmp 4] (.seq (R 999 [0,1] [.set 4 (xi 0)]) (.seq (.seq (R 999 [0,1,5] [.set 5 (xi 0)]) (.block 0 (.loop (.seq (.seq (R 6 [0,1,5,9] [.tmp 9 (xb .lss (.va 5) (xlen
  (.va 0)))]) (.cond (.s 9) .skip (.exit 0))) (.seq (.block 1 (.seq (R 12 [0,1,5,18] [.tmp 18 (xb .eql (xld (xfa 0 (xia 2 (.va 0) (.va 5)))) (.va 1))]) (.cond (.s 18) (.seq (R 19
  [4] [.set 4 (.va 5)]) .ret) .skip))) (R 10 [0,1,5] [.set 5 (xb .add (.va 5) (xi 1))])))))) (.seq (R 999 [4] [.set 4 (xi (-1))]) .ret)))
theorem fn_guiseref6_From:(autoPrg Tryz.prog).fn 83 = some LF_guiseref6_From:=by kernel_rfl
def LF_guiseref6_Plain:LFunc :=
  .mk 2 [.tmp 4] (.seq (R 2 [1,2] [.tmp 2 (xbl 2 8 (.sl 0)),.set 4 (.cv (.bool false))]) (.seq (R 5 [4] [.set 4 (.and (.and (.and (.and (xc1 117 (.va 1)) (xu .not
  (xc2 119 (xln 8 (.sl 2)) (.va 1)))) (xb .lss (xc2 122 (xln 8 (.sl 2)) (.va 1)) (xi 0))) (xu .not (xc2 121 (.va 1) (xld (xfa 6 (.sl
  2)))))) (xb .lss (xc2 83 (xld (xfa 4 (.sl 2))) (.va 1)) (xi 0)))]) .ret))
theorem fn_guiseref6_Plain:(autoPrg Tryz.prog).fn 123 = some LF_guiseref6_Plain:=by kernel_rfl
def LF_guiseref6_span:LFunc :=
  .mk 2 [.tmp 4] (.seq (R 999 [0,1] [.set 4 (xi 0)]) (.seq (.seq (R 5 [0,1,20] [.tmp 20 (.or (xu .not (xc1 117 (xld (xfa 0 (xia 2 (.va 0) (.va 1)))))) (xu .not
  (xc1 117 (xld (xfa 1 (xia 2 (.va 0) (.va 1)))))))]) (.cond (.s 20) (.seq (R 999 [4] [.set 4 (xi 12)]) .ret) .skip)) (.seq (.seq (R 21 [0,1,31] [.tmp 31 (xb .gtr
  (xld (xfa 0 (xia 2 (.va 0) (.va 1)))) (xld (xfa 1 (xia 2 (.va 0) (.va 1)))))]) (.cond (.s 31) (.seq (R 999 [4] [.set 4 (xi 11)]) .ret) .skip)) (.seq (.seq (R 32 [47] [.tmp 47
  (.and (xb .gtr (.va 1) (xi 0)) (xb .leq (xld (xfa 0 (xia 2 (.va 0) (.va 1)))) (xld (xfa 1 (xia 2 (.va 0) (xb .sub (.va 1) (xi 1)))))))]) (.cond (.s 47) (.seq (R 999 [4] [.set 4
  (xi 13)]) .ret) .skip)) (.seq (R 999 [4] [.set 4 (xi 0)]) .ret)))))
theorem fn_guiseref6_span:(autoPrg Tryz.prog).fn 141 = some LF_guiseref6_span:=by kernel_rfl
def LF_guiseref6_spans:LFunc :=
  .mk 2 [.cell 4 (some 3)] (.seq (R 4 [0,1,4] [.tmp 4 (xnl 4 [.int .i64 0,.int .i64 0,.int .i64 0])]) (.seq (.seq (R 999 [0,1,4,5] [.set 5 (xi 0)]) (.block 0 (.loop (.seq
  (.seq (R 7 [0,1,4,5,10] [.tmp 10 (xb .lss (.va 5) (xlen (.va 0)))]) (.cond (.s 10) .skip (.exit 0))) (.seq (.block 1 (.seq (R 13 [0,1,4,5,6] [.set 6 (xc2
  141 (.va 0) (.va 5))]) (.seq (R 16 [0,1,4,5,6,17] [.tmp 17 (xb .neq (.va 6) (xi 0))]) (.cond (.s 17) (.seq (R 18 [4] [.run (xst 3 (.sl 4) (.op (.p (.build
  [.int .i64 0,.int .i64 0,.int .i64 0] [(0,1,.s 0),(1,1,.s 1),(2,1,.s 2)])) (.cons (.va 6) (.cons (.va 1) (.va 5)))))]) .ret) .skip)))) (R 11 [0,1,4,5] [.set 5 (xb
  .add (.va 5) (xi 1))])))))) (.seq (R 22 [4] [.run (xst 3 (.sl 4) (.op (.p (.build [.int .i64 0,.int .i64 0,.int .i64 0] [])) .nil))]) .ret)))
theorem fn_guiseref6_spans:(autoPrg Tryz.prog).fn 116 = some LF_guiseref6_spans:=by kernel_rfl
def LF_guiseref6_script:LFunc :=
  .mk 1 [.tmp 2] (.seq (R 1 [1] [.tmp 1 (xbl 1 2 (.sl 0)),.set 2 (xi 0)]) (.seq (.seq (R 4 [1,7] [.tmp 7 (xu .not (xc1 140 (xld (xfa 0 (.sl 1)))))]) (.cond
  (.s 7) (.seq (R 999 [2] [.set 2 (xi 38)]) .ret) .skip)) (.seq (R 8 [3] [.tmp 10 (xc2 116 (xld (xfa 1 (.sl 1))) (xi 1)),.at 3,.tmp 3 (xnl 3 [.int .i64 0,.int
  .i64 0,.int .i64 0]),.run (xst 3 (.sl 3) (.sl 10))]) (.seq (R 11 [2] [.set 2 (xld (xfa 0 (.sl 3)))]) .ret))))
theorem fn_guiseref6_script:(autoPrg Tryz.prog).fn 115 = some LF_guiseref6_script:=by kernel_rfl
def LF_guiseref6_maps:LFunc :=
  .mk 2 [.cell 4 (some 3)] (.seq (R 4 [0,1,4] [.tmp 4 (xnl 4 [.int .i64 0,.int .i64 0,.int .i64 0])]) (.seq (.seq (R 999 [0,1,4,5] [.set 5 (xi 0)]) (.block 0 (.loop (.seq
  (.seq (R 8 [0,1,4,5,11] [.tmp 11 (xb .lss (.va 5) (xlen (.va 0)))]) (.cond (.s 11) .skip (.exit 0))) (.seq (.block 1 (.seq (.seq (R 14 [0,1,4,5,20] [.tmp 20 (xu .not (xc1
  117 (xld (xfa 0 (xia 2 (.va 0) (.va 5))))))]) (.cond (.s 20) (.seq (R 21 [4] [.run (xst 3 (.sl 4) (.op (.p (.build [.int .i64 0,.int .i64 0,.int .i64 0] [(0,1,
  .s 0),(1,1,.s 1),(2,1,.s 2)])) (.cons (xi 12) (.cons (.va 1) (.va 5)))))]) .ret) .skip)) (.seq (R 25 [0,1,4,5,6,7] [.set 24 (xc1 84 (xld (xfa 1 (xia 2
  (.va 0) (.va 5))))),.tmp 31 (xex 0 (.sl 24)),.tmp 32 (xex 1 (.sl 24)),.set 6 (.sl 31),.set 7 (.sl 32)]) (.seq (R 33 [0,1,4,5,44] [.tmp 44 (.or (.or (xu .not (.va 7)) (xb
  .lss (xlen (.va 6)) (xi 1))) (xb .gtr (xlen (.va 6)) (xi 4)))]) (.cond (.s 44) (.seq (R 45 [4] [.run (xst 3 (.sl 4) (.op (.p (.build [.int .i64 0,.int .i64 0,.int .i64 0] [(0,
  1,.s 0),(1,1,.s 1),(2,1,.s 2)])) (.cons (xi 35) (.cons (.va 1) (.va 5)))))]) .ret) .skip))))) (R 12 [0,1,4,5] [.set 5 (xb .add (.va 5) (xi 1))])))))) (.seq (R 48 [4]
  [.run (xst 3 (.sl 4) (.op (.p (.build [.int .i64 0,.int .i64 0,.int .i64 0] [])) .nil))]) .ret)))
theorem fn_guiseref6_maps:(autoPrg Tryz.prog).fn 118 = some LF_guiseref6_maps:=by kernel_rfl
def LF_guiseref6_Runes:LFunc :=
  .mk 1 [.tmp 2,.tmp 3] (.seq (R 999 [0] [.set 2 (.cv (.slice none 0 0)),.set 3 (.cv (.bool false))]) (.seq (R 999 [0,4] [.set 4 (.cv (.slice none 0 0))]) (.seq (.seq (R 999 [0,
  4,5] [.set 5 (xi 0)]) (.block 0 (.loop (.seq (.seq (R 10 [0,4,5,13] [.tmp 13 (xb .lss (.va 5) (xsl (.va 0)))]) (.cond (.s 13) .skip (.exit 0))) (.block 1 (.seq (R 999 [0,4,
  5] [.set 6 (xi 0)]) (.seq (R 999 [0,4,5] [.set 7 (xr 0)]) (.seq (R 14 [0,4,5,8] [.set 8 (xcn .i32 (xis (.va 0) (.va 5)))]) (.seq (.seq (R 18 [0,4,5,8,19] [.tmp 19 (xb
  .lss (.va 8) (xr 128))]) (.cond (.s 19) (.seq (R 20 [0,4,5] [.set 4 (xap 1 4 (.va 4) (.op (.e (.litL 22 1 1 [.int .i32 0] [(0,1,.s 0)])) (.va 8)))]) (.seq (R 24 [0,4,5]
  [.set 5 (xb .add (.va 5) (xi 1))]) (.exit 1))) .skip)) (.seq (.seq (R 26 [0,4,5,8,31] [.tmp 31 (.and (xb .geq (.va 8) (xr 192)) (xb .lss (.va 8) (xr 224)))]) (.cond (.s 31)
  (.seq (R 999 [0,4,5,6,8] [.set 6 (xi 1)]) (.seq (R 999 [0,4,5,6,7,8] [.set 7 (xr 128)]) (R 32 [0,4,5,6,7,8] [.set 8 (xb .sub (.va 8) (xr 192))]))) (.seq (R 34 [0,4,
  5,8,39] [.tmp 39 (.and (xb .geq (.va 8) (xr 224)) (xb .lss (.va 8) (xr 240)))]) (.cond (.s 39) (.seq (R 999 [0,4,5,6,8] [.set 6 (xi 2)]) (.seq (R 999 [0,4,5,6,7,8]
  [.set 7 (xr 2048)]) (R 40 [0,4,5,6,7,8] [.set 8 (xb .sub (.va 8) (xr 224))]))) (.seq (R 42 [0,4,5,8,47] [.tmp 47 (.and (xb .geq (.va 8) (xr 240)) (xb .lss (.va 8) (xr
  248)))]) (.cond (.s 47) (.seq (R 999 [0,4,5,6,8] [.set 6 (xi 3)]) (.seq (R 999 [0,4,5,6,7,8] [.set 7 (xr 65536)]) (R 48 [0,4,5,6,7,8] [.set 8 (xb .sub (.va 8) (xr
  240))]))) (.seq (R 999 [2,3] [.set 2 (.cv (.slice none 0 0)),.set 3 (.cv (.bool false))]) .ret))))))) (.seq (.seq (R 999 [0,4,5,6,7,8,9] [.set 9 (xi 1)]) (.block 2 (.loop
  (.seq (.seq (R 50 [0,4,5,6,7,8,9,52] [.tmp 52 (xb .leq (.va 9) (.va 6))]) (.cond (.s 52) .skip (.exit 2))) (.seq (.block 3 (.seq (.seq (R 55 [0,4,5,6,7,8,9,76] [.tmp
  76 (.or (.or (xb .geq (xb .add (.va 5) (.va 9)) (xsl (.va 0))) (xb .lss (xis (.va 0) (xb .add (.va 5) (.va 9))) (.cv (.int .u8 128)))) (xb .geq (xis (.va 0) (xb .add (.va 5) (.va
  9))) (.cv (.int .u8 192))))]) (.cond (.s 76) (.seq (R 999 [2,3] [.set 2 (.cv (.slice none 0 0)),.set 3 (.cv (.bool false))]) .ret) .skip)) (R 77 [0,4,5,6,7,8,9] [.set 8
  (xb .add (xb .shl (.va 8) (.cv (.int .u64 6))) (xcn .i32 (xb .sub (xis (.va 0) (xb .add (.va 5) (.va 9))) (.cv (.int .u8 128)))))]))) (R 53 [0,4,5,6,7,8,9] [.set 9 (xb .add
  (.va 9) (xi 1))])))))) (.seq (.seq (R 87 [0,4,5,6,8,94] [.tmp 94 (.or (xb .lss (.va 8) (.va 7)) (xu .not (xc1 117 (.va 8))))]) (.cond (.s 94) (.seq (R 999 [2,
  3] [.set 2 (.cv (.slice none 0 0)),.set 3 (.cv (.bool false))]) .ret) .skip)) (.seq (R 95 [0,4,5,6] [.set 4 (xap 1 4 (.va 4) (.op (.e (.litL 97 1 1 [.int .i32 0] [(0,1,.s
  0)])) (.va 8)))]) (R 99 [0,4,5] [.set 5 (xb .add (xb .add (.va 5) (.va 6)) (xi 1))])))))))))))))) (.seq (R 103 [2,3] [.set 2 (.va 4),.set 3 (.cv (.bool true))]) .ret))))
theorem fn_guiseref6_Runes:(autoPrg Tryz.prog).fn 84 = some LF_guiseref6_Runes:=by kernel_rfl
def LF_guiseref6_low:LFunc :=
  .mk 1 [.tmp 2] (.seq (R 999 [0] [.set 2 (.cv (.bool false))]) (.seq (R 3 [2] [.set 2 (.or (xb .lss (.va 0) (xr 128)) (xb .eql (.va 0) (xr 65533)))]) .ret))
theorem fn_guiseref6_low:(autoPrg Tryz.prog).fn 142 = some LF_guiseref6_low:=by kernel_rfl
def LF_guiseref6_set:LFunc :=
  .mk 1 [.tmp 2] (.seq (R 999 [0] [.set 2 (.cv (.bool false))]) (.seq (R 3 [2] [.set 2 (.or (.or (.or (xb .lss (.va 0) (xr 32)) (xb .eql (.va 0) (xr 45))) (xb .eql (.va 0) (xr 46)))
  (xb .eql (.va 0) (xr 65533)))]) .ret))
theorem fn_guiseref6_set:(autoPrg Tryz.prog).fn 144 = some LF_guiseref6_set:=by kernel_rfl
def LF_guiseref6_sets:LFunc :=
  .mk 1 [.tmp 2] (.seq (R 999 [0] [.set 2 (.cv (.bool false))]) (.seq (R 7 [3] [.set 6 (xc1 84 (.va 0)),.tmp 9 (xex 0 (.sl 6)),.tmp 10 (xex 1 (.sl 6)),.set 3
  (.sl 9),.set 4 (.sl 10)]) (.seq (.seq (R 999 [3,5] [.set 5 (xi 0)]) (.block 0 (.loop (.seq (.seq (R 11 [3,5,14] [.tmp 14 (xb .lss (.va 5) (xlen (.va 3)))]) (.cond (.s 14)
  .skip (.exit 0))) (.seq (.block 1 (.seq (R 17 [3,5,21] [.tmp 21 (xc1 144 (xld (xia 1 (.va 3) (.va 5))))]) (.cond (.s 21) (.seq (R 999 [2] [.set 2 (.cv (.bool
  true))]) .ret) .skip))) (R 15 [3,5] [.set 5 (xb .add (.va 5) (xi 1))])))))) (.seq (R 999 [2] [.set 2 (.cv (.bool false))]) .ret))))
theorem fn_guiseref6_sets:(autoPrg Tryz.prog).fn 143 = some LF_guiseref6_sets:=by kernel_rfl
def LF_guiseref6_long:LFunc :=
  .mk 1 [.cell 2 (some 3)] (.seq (R 1 [1,2] [.tmp 1 (xbl 1 8 (.sl 0)),.tmp 2 (xnl 2 [.int .i64 0,.int .i64 0,.int .i64 0])]) (.seq (.seq (R 7 [1,2,10] [.tmp 10 (xb .gtr (xlen
  (xld (xfa 0 (.sl 1)))) (xi 64))]) (.cond (.s 10) (.seq (R 11 [2] [.run (xst 3 (.sl 2) (.op (.p (.build [.int .i64 0,.int .i64 0,.int .i64 0] [(0,1,.s 0),(1,1,.s 1),(2,1,
  .s 2)])) (.cons (xi 4) (.cons (xi 1) (xi 64)))))]) .ret) .skip)) (.seq (.seq (R 999 [1,2,3] [.set 3 (xi 0)]) (.block 0 (.loop (.seq (.seq (R 12 [1,2,3,16] [.tmp 16 (xb .lss
  (.va 3) (xlen (xld (xfa 0 (.sl 1)))))]) (.cond (.s 16) .skip (.exit 0))) (.seq (.block 1 (.seq (R 19 [1,2,3,26] [.tmp 26 (xb .gtr (xlen (xld (xfa 1 (xia 2 (xld (xfa 0 (.sl 1)))
  (.va 3))))) (xi 1024))]) (.cond (.s 26) (.seq (R 27 [2] [.run (xst 3 (.sl 2) (.op (.p (.build [.int .i64 0,.int .i64 0,.int .i64 0] [(0,1,.s 0),(1,1,.s 1),(2,1,.s 2)]))
  (.cons (xi 4) (.cons (xi 1) (.va 3)))))]) .ret) .skip))) (R 17 [1,2,3] [.set 3 (xb .add (.va 3) (xi 1))])))))) (.seq (R 29 [2,4] [.set 4 (.op (.e (.litH 7 1 [.int .i64 0] [(0,
  1,.s 0),(1,1,.s 1),(2,1,.s 2),(3,1,.s 3),(4,1,.s 4),(5,1,.s 5),(6,1,.s 6)])) (.cons (xlen (xld (xfa 1 (.sl 1)))) (.cons (xlen (xld (xfa 2 (.sl 1)))) (.cons
  (xlen (xld (xfa 3 (.sl 1)))) (.cons (xlen (xld (xfa 4 (.sl 1)))) (.cons (xlen (xld (xfa 5 (.sl 1)))) (.cons (xlen (xld (xfa 6 (.sl 1)))) (xlen (xld (xfa 7 (.sl 1)))))))))))])
  (.seq (R 51 [2,4,5] [.set 5 (.op (.e (.litH 7 1 [.int .i64 0] [(0,1,.s 0),(1,1,.s 1),(2,1,.s 2),(3,1,.s 3),(4,1,.s 4),(5,1,.s 5),(6,1,.s 6)])) (.cons (xi
  1024) (.cons (xi 512) (.cons (xi 4096) (.cons (xi 4096) (.cons (xi 4096) (.cons (xi 1024) (xi 1024))))))))]) (.seq (.seq (R 999 [2,4,5,6] [.set 6 (xi 0)]) (.block 2 (.loop
  (.seq (.seq (R 52 [2,4,5,6,55] [.tmp 55 (xb .lss (.va 6) (xlen (.va 4)))]) (.cond (.s 55) .skip (.exit 2))) (.seq (.block 3 (.seq (R 58 [2,4,5,6,66] [.tmp 66 (xb .gtr (xld
  (xia 1 (.va 4) (.va 6))) (xld (xia 1 (.va 5) (.va 6))))]) (.cond (.s 66) (.seq (R 67 [2] [.run (xst 3 (.sl 2) (.op (.p (.build [.int .i64 0,.int .i64 0,.int .i64 0] [(0,1,.s
  0),(1,1,.s 1),(2,1,.s 2)])) (.cons (xi 4) (.cons (xb .add (xi 2) (.va 6)) (xld (xia 1 (.va 5) (.va 6)))))))]) .ret) .skip))) (R 56 [2,4,5,6] [.set 6 (xb .add (.va 6) (xi
  1))])))))) (.seq (R 74 [2] [.run (xst 3 (.sl 2) (.op (.p (.build [.int .i64 0,.int .i64 0,.int .i64 0] [])) .nil))]) .ret)))))))
theorem fn_guiseref6_long:(autoPrg Tryz.prog).fn 66 = some LF_guiseref6_long:=by kernel_rfl
def LF_guiseref6_forms:LFunc :=
  .mk 1 [.cell 2 (some 3)] (.seq (R 1 [1,2] [.tmp 1 (xbl 1 8 (.sl 0)),.tmp 2 (xnl 2 [.int .i64 0,.int .i64 0,.int .i64 0])]) (.seq (.seq (R 999 [1,2,3] [.set 3 (xi 0)])
  (.block 0 (.loop (.seq (.seq (R 8 [1,2,3,12] [.tmp 12 (xb .lss (.va 3) (xlen (xld (xfa 0 (.sl 1)))))]) (.cond (.s 12) .skip (.exit 0))) (.seq (.block 1 (.seq (R 15 [1,2,3,4]
  [.set 4 (xc1 115 (xln 2 (xia 2 (xld (xfa 0 (.sl 1))) (.va 3))))]) (.seq (R 21 [1,2,3,4,22] [.tmp 22 (xb .neq (.va 4) (xi 0))]) (.cond (.s 22) (.seq (R 23 [2]
  [.run (xst 3 (.sl 2) (.op (.p (.build [.int .i64 0,.int .i64 0,.int .i64 0] [(0,1,.s 0),(1,1,.s 1),(2,1,.s 2)])) (.cons (.va 4) (.cons (xi 1) (.va 3)))))]) .ret)
  .skip)))) (R 13 [1,2,3] [.set 3 (xb .add (.va 3) (xi 1))])))))) (.seq (R 26 [1,2,5] [.tmp 28 (xc2 116 (xld (xfa 1 (.sl 1))) (xi 2)),.at 5,.tmp 5 (xnl 5 [.int
  .i64 0,.int .i64 0,.int .i64 0]),.run (xst 3 (.sl 5) (.sl 28))]) (.seq (.seq (R 29 [1,2,5,31] [.tmp 31 (xb .neq (xld (xfa 0 (.sl 5))) (xi 0))]) (.cond (.s 31) (.seq (R 32
  [2] [.run (xst 3 (.sl 2) (xln 3 (.sl 5)))]) .ret) .skip)) (.seq (.seq (R 999 [1,2,5,6] [.set 6 (xi 0)]) (.block 2 (.loop (.seq (.seq (R 33 [1,2,5,6,37] [.tmp 37 (xb .lss
  (.va 6) (xlen (xld (xfa 2 (.sl 1)))))]) (.cond (.s 37) .skip (.exit 2))) (.seq (.block 3 (.seq (.seq (R 40 [1,2,5,6,47] [.tmp 47 (xu .not (xc1 117 (xld (xfa 0
  (xia 2 (xld (xfa 2 (.sl 1))) (.va 6))))))]) (.cond (.s 47) (.seq (R 48 [2] [.run (xst 3 (.sl 2) (.op (.p (.build [.int .i64 0,.int .i64 0,.int .i64 0] [(0,1,.s 0),(1,1,.s
  1),(2,1,.s 2)])) (.cons (xi 12) (.cons (xi 3) (.va 6)))))]) .ret) .skip)) (.seq (R 50 [1,2,5,6,65] [.tmp 65 (.or (xb .lss (xld (xfa 1 (xia 2 (xld (xfa 2 (.sl 1))) (.va
  6)))) (xi 1)) (xb .gtr (xld (xfa 1 (xia 2 (xld (xfa 2 (.sl 1))) (.va 6)))) (xi 254)))]) (.cond (.s 65) (.seq (R 66 [2] [.run (xst 3 (.sl 2) (.op (.p (.build [.int .i64 0,.int
  .i64 0,.int .i64 0] [(0,1,.s 0),(1,1,.s 1),(2,1,.s 2)])) (.cons (xi 30) (.cons (xi 3) (.va 6)))))]) .ret) .skip)))) (R 38 [1,2,5,6] [.set 6 (xb .add (.va 6) (xi
  1))])))))) (.seq (.seq (R 999 [1,2,5,7] [.set 7 (xi 0)]) (.block 4 (.loop (.seq (.seq (R 68 [1,2,5,7,72] [.tmp 72 (xb .lss (.va 7) (xlen (xld (xfa 3 (.sl 1)))))]) (.cond
  (.s 72) .skip (.exit 4))) (.seq (.block 5 (.seq (R 75 [1,2,5,7,102] [.tmp 102 (.or (.or (xu .not (xc1 117 (xld (xfa 0 (xia 3 (xld (xfa 3 (.sl 1))) (.va 7))))))
  (xu .not (xc1 117 (xld (xfa 1 (xia 3 (xld (xfa 3 (.sl 1))) (.va 7))))))) (xu .not (xc1 117 (xld (xfa 2 (xia 3 (xld (xfa 3 (.sl 1))) (.va 7)))))))])
  (.cond (.s 102) (.seq (R 103 [2] [.run (xst 3 (.sl 2) (.op (.p (.build [.int .i64 0,.int .i64 0,.int .i64 0] [(0,1,.s 0),(1,1,.s 1),(2,1,.s 2)])) (.cons (xi 12) (.cons
  (xi 4) (.va 7)))))]) .ret) .skip))) (R 73 [1,2,5,7] [.set 7 (xb .add (.va 7) (xi 1))])))))) (.seq (R 105 [1,2,5] [.run (xst 3 (.sl 5) (xc2 118 (xld (xfa 4 (.sl
  1))) (xi 5)))]) (.seq (.seq (R 108 [1,2,5,110] [.tmp 110 (xb .eql (xld (xfa 0 (.sl 5))) (xi 0))]) (.cond (.s 110) (R 111 [1,2,5] [.run (xst 3 (.sl 5) (xc2 118
  (xld (xfa 5 (.sl 1))) (xi 6)))]) .skip)) (.seq (.seq (R 114 [1,2,5,116] [.tmp 116 (xb .eql (xld (xfa 0 (.sl 5))) (xi 0))]) (.cond (.s 116) (R 117 [1,2,5] [.run (xst 3 (.sl 5)
  (xc2 116 (xld (xfa 6 (.sl 1))) (xi 7)))]) .skip)) (.seq (.seq (R 120 [1,2,5,122] [.tmp 122 (xb .eql (xld (xfa 0 (.sl 5))) (xi 0))]) (.cond (.s 122) (R 123 [2,
  5] [.run (xst 3 (.sl 5) (xc2 116 (xld (xfa 7 (.sl 1))) (xi 8)))]) .skip)) (.seq (R 126 [2] [.run (xst 3 (.sl 2) (xln 3 (.sl 5)))]) .ret)))))))))))
theorem fn_guiseref6_forms:(autoPrg Tryz.prog).fn 67 = some LF_guiseref6_forms:=by kernel_rfl
def LF_guiseref6_twice:LFunc :=
  .mk 1 [.cell 2 (some 3)] (.seq (R 1 [1,2] [.tmp 1 (xbl 1 8 (.sl 0)),.tmp 2 (xnl 2 [.int .i64 0,.int .i64 0,.int .i64 0])]) (.seq (.seq (R 999 [1,2,3] [.set 3 (xi 0)])
  (.block 0 (.loop (.seq (.seq (R 13 [1,2,3,17] [.tmp 17 (xb .lss (.va 3) (xlen (xld (xfa 0 (.sl 1)))))]) (.cond (.s 17) .skip (.exit 0))) (.seq (.block 1 (.seq (R 999 [1,2,3,
  4] [.set 4 (xi 0)]) (.block 2 (.loop (.seq (.seq (R 20 [1,2,3,4,22] [.tmp 22 (xb .lss (.va 4) (.va 3))]) (.cond (.s 22) .skip (.exit 2))) (.seq (.block 3 (.seq (R 25 [1,2,3,
  4,37] [.tmp 37 (xb .eql (xld (xfa 0 (xia 2 (xld (xfa 0 (.sl 1))) (.va 3)))) (xld (xfa 0 (xia 2 (xld (xfa 0 (.sl 1))) (.va 4)))))]) (.cond (.s 37) (.seq (R 38 [2] [.run (xst 3
  (.sl 2) (.op (.p (.build [.int .i64 0,.int .i64 0,.int .i64 0] [(0,1,.s 0),(1,1,.s 1),(2,1,.s 2)])) (.cons (xi 14) (.cons (xi 1) (.va 3)))))]) .ret) .skip))) (R 23 [1,
  2,3,4] [.set 4 (xb .add (.va 4) (xi 1))]))))))) (R 18 [1,2,3] [.set 3 (xb .add (.va 3) (xi 1))])))))) (.seq (.seq (R 999 [1,2,5] [.set 5 (xi 0)]) (.block 4 (.loop (.seq
  (.seq (R 40 [1,2,5,44] [.tmp 44 (xb .lss (.va 5) (xlen (xld (xfa 2 (.sl 1)))))]) (.cond (.s 44) .skip (.exit 4))) (.seq (.block 5 (.seq (R 999 [1,2,5,6] [.set 6 (xi 0)])
  (.block 6 (.loop (.seq (.seq (R 47 [1,2,5,6,49] [.tmp 49 (xb .lss (.va 6) (.va 5))]) (.cond (.s 49) .skip (.exit 6))) (.seq (.block 7 (.seq (R 52 [1,2,5,6,64] [.tmp 64 (xb
  .eql (xld (xfa 0 (xia 2 (xld (xfa 2 (.sl 1))) (.va 5)))) (xld (xfa 0 (xia 2 (xld (xfa 2 (.sl 1))) (.va 6)))))]) (.cond (.s 64) (.seq (R 65 [2] [.run (xst 3 (.sl 2) (.op (.p
  (.build [.int .i64 0,.int .i64 0,.int .i64 0] [(0,1,.s 0),(1,1,.s 1),(2,1,.s 2)])) (.cons (xi 14) (.cons (xi 3) (.va 5)))))]) .ret) .skip))) (R 50 [1,2,5,6] [.set 6
  (xb .add (.va 6) (xi 1))]))))))) (R 45 [1,2,5] [.set 5 (xb .add (.va 5) (xi 1))])))))) (.seq (.seq (R 999 [1,2,7] [.set 7 (xi 0)]) (.block 8 (.loop (.seq (.seq (R 67 [1,2,7,
  71] [.tmp 71 (xb .lss (.va 7) (xlen (xld (xfa 3 (.sl 1)))))]) (.cond (.s 71) .skip (.exit 8))) (.seq (.block 9 (.seq (R 999 [1,2,7,8] [.set 8 (xi 0)]) (.block 10 (.loop (.seq
  (.seq (R 74 [1,2,7,8,76] [.tmp 76 (xb .lss (.va 8) (.va 7))]) (.cond (.s 76) .skip (.exit 10))) (.seq (.block 11 (.seq (R 79 [1,2,7,8,9] [.tmp 83 (xln 3 (xia 3 (xld (xfa 3
  (.sl 1))) (.va 7))),.at 9,.tmp 9 (xnl 9 [.int .i32 0,.int .i32 0,.int .i32 0]),.run (xst 3 (.sl 9) (.sl 83))]) (.seq (R 84 [1,2,7,8,9,10] [.tmp 88 (xln 3 (xia 3 (xld
  (xfa 3 (.sl 1))) (.va 8))),.at 10,.tmp 10 (xnl 10 [.int .i32 0,.int .i32 0,.int .i32 0]),.run (xst 3 (.sl 10) (.sl 88))]) (.seq (R 89 [1,2,7,8,107] [.tmp 107 (.or (xb
  .eql (xld (xfa 0 (.sl 9))) (xld (xfa 0 (.sl 10)))) (.and (xb .eql (xld (xfa 1 (.sl 9))) (xld (xfa 1 (.sl 10)))) (xb .eql (xld (xfa 2 (.sl 9))) (xld (xfa 2 (.sl 10))))))]) (.cond
  (.s 107) (.seq (R 108 [2] [.run (xst 3 (.sl 2) (.op (.p (.build [.int .i64 0,.int .i64 0,.int .i64 0] [(0,1,.s 0),(1,1,.s 1),(2,1,.s 2)])) (.cons (xi 14) (.cons (xi 4)
  (.va 7)))))]) .ret) .skip))))) (R 77 [1,2,7,8] [.set 8 (xb .add (.va 8) (xi 1))]))))))) (R 72 [1,2,7] [.set 7 (xb .add (.va 7) (xi 1))])))))) (.seq (.seq (R 999 [1,2,11]
  [.set 11 (xi 0)]) (.block 12 (.loop (.seq (.seq (R 110 [1,2,11,114] [.tmp 114 (xb .lss (.va 11) (xlen (xld (xfa 4 (.sl 1)))))]) (.cond (.s 114) .skip (.exit 12))) (.seq (.block
  13 (.seq (R 117 [1,2,11,127] [.tmp 127 (xb .lss (xc2 83 (xld (xfa 4 (.sl 1))) (xld (xfa 0 (xia 2 (xld (xfa 4 (.sl 1))) (.va 11))))) (.va 11))]) (.cond (.s 127)
  (.seq (R 128 [2] [.run (xst 3 (.sl 2) (.op (.p (.build [.int .i64 0,.int .i64 0,.int .i64 0] [(0,1,.s 0),(1,1,.s 1),(2,1,.s 2)])) (.cons (xi 14) (.cons (xi 5) (.va
  11)))))]) .ret) .skip))) (R 115 [1,2,11] [.set 11 (xb .add (.va 11) (xi 1))])))))) (.seq (.seq (R 999 [1,2,12] [.set 12 (xi 0)]) (.block 14 (.loop (.seq (.seq (R 130 [1,2,
  12,134] [.tmp 134 (xb .lss (.va 12) (xlen (xld (xfa 5 (.sl 1)))))]) (.cond (.s 134) .skip (.exit 14))) (.seq (.block 15 (.seq (R 137 [1,2,12,147] [.tmp 147 (xb .lss (xc2
  83 (xld (xfa 5 (.sl 1))) (xld (xfa 0 (xia 2 (xld (xfa 5 (.sl 1))) (.va 12))))) (.va 12))]) (.cond (.s 147) (.seq (R 148 [2] [.run (xst 3 (.sl 2) (.op (.p (.build
  [.int .i64 0,.int .i64 0,.int .i64 0] [(0,1,.s 0),(1,1,.s 1),(2,1,.s 2)])) (.cons (xi 14) (.cons (xi 6) (.va 12)))))]) .ret) .skip))) (R 135 [1,2,12] [.set 12 (xb .add
  (.va 12) (xi 1))])))))) (.seq (R 150 [2] [.run (xst 3 (.sl 2) (.op (.p (.build [.int .i64 0,.int .i64 0,.int .i64 0] [])) .nil))]) .ret)))))))
theorem fn_guiseref6_twice:(autoPrg Tryz.prog).fn 68 = some LF_guiseref6_twice:=by kernel_rfl
def LF_guiseref6_chain:LFunc :=
  .mk 2 [.tmp 4] (.seq (R 2 [1,2] [.tmp 2 (xbl 2 8 (.sl 0)),.set 4 (xi 0)]) (.seq (.seq (R 999 [1,2,5] [.set 5 (xi 1)]) (.block 0 (.loop (.seq (.seq (R 6 [1,2,5,10] [.tmp 10
  (xb .leq (.va 5) (xlen (xld (xfa 3 (.sl 2)))))]) (.cond (.s 10) .skip (.exit 0))) (.seq (.block 1 (.seq (R 13 [1,2,5] [.set 1 (xc2 122 (xln 8 (.sl 2)) (xld (xfa
  1 (xia 3 (xld (xfa 3 (.sl 2))) (.va 1)))))]) (.seq (R 21 [1,2,5,22] [.tmp 22 (xb .lss (.va 1) (xi 0))]) (.cond (.s 22) (.seq (R 23 [4] [.set 4 (.va 5)]) .ret) .skip)))) (R 11
  [1,2,5] [.set 5 (xb .add (.va 5) (xi 1))])))))) (.seq (R 999 [4] [.set 4 (xi (-1))]) .ret)))
theorem fn_guiseref6_chain:(autoPrg Tryz.prog).fn 120 = some LF_guiseref6_chain:=by kernel_rfl
def LF_guiseref6_pairs:LFunc :=
  .mk 1 [.cell 2 (some 3)] (.seq (R 1 [1,2] [.tmp 1 (xbl 1 8 (.sl 0)),.tmp 2 (xnl 2 [.int .i64 0,.int .i64 0,.int .i64 0])]) (.seq (.seq (R 999 [1,2,3] [.set 3 (xi 0)])
  (.block 0 (.loop (.seq (.seq (R 6 [1,2,3,10] [.tmp 10 (xb .lss (.va 3) (xlen (xld (xfa 3 (.sl 1)))))]) (.cond (.s 10) .skip (.exit 0))) (.seq (.block 1 (.seq (R 13 [1,2,3,
  41] [.tmp 41 (.or (.or (xc2 119 (xln 8 (.sl 1)) (xld (xfa 0 (xia 3 (xld (xfa 3 (.sl 1))) (.va 3))))) (xc2 119 (xln 8 (.sl 1)) (xld (xfa 1 (xia 3 (xld
  (xfa 3 (.sl 1))) (.va 3)))))) (xu .not (xc2 119 (xln 8 (.sl 1)) (xld (xfa 2 (xia 3 (xld (xfa 3 (.sl 1))) (.va 3)))))))]) (.cond (.s 41) (.seq (R 42 [2] [.run (xst 3
  (.sl 2) (.op (.p (.build [.int .i64 0,.int .i64 0,.int .i64 0] [(0,1,.s 0),(1,1,.s 1),(2,1,.s 2)])) (.cons (xi 32) (.cons (xi 4) (.va 3)))))]) .ret) .skip))) (R 11 [1,
  2,3] [.set 3 (xb .add (.va 3) (xi 1))])))))) (.seq (.seq (R 999 [1,2,4] [.set 4 (xi 0)]) (.block 2 (.loop (.seq (.seq (R 44 [1,2,4,48] [.tmp 48 (xb .lss (.va 4) (xlen (xld
  (xfa 3 (.sl 1)))))]) (.cond (.s 48) .skip (.exit 2))) (.seq (.block 3 (.seq (R 51 [1,2,4,5] [.set 5 (xc2 120 (xln 8 (.sl 1)) (.va 4))]) (.seq (.seq (R 54 [1,2,
  4,5,55] [.tmp 55 (xb .lss (.va 5) (xi 0))]) (.cond (.s 55) (.seq (R 56 [2] [.run (xst 3 (.sl 2) (.op (.p (.build [.int .i64 0,.int .i64 0,.int .i64 0] [(0,1,.s 0),(1,1,.s
  1),(2,1,.s 2)])) (.cons (xi 33) (.cons (xi 4) (.va 4)))))]) .ret) .skip)) (.seq (R 58 [1,2,4,59] [.tmp 59 (xb .gtr (.va 5) (xi 4))]) (.cond (.s 59) (.seq (R 60 [2] [.run
  (xst 3 (.sl 2) (.op (.p (.build [.int .i64 0,.int .i64 0,.int .i64 0] [(0,1,.s 0),(1,1,.s 1),(2,1,.s 2)])) (.cons (xi 34) (.cons (xi 4) (.va 4)))))]) .ret) .skip))))) (R
  49 [1,2,4] [.set 4 (xb .add (.va 4) (xi 1))])))))) (.seq (R 62 [2] [.run (xst 3 (.sl 2) (.op (.p (.build [.int .i64 0,.int .i64 0,.int .i64 0] [])) .nil))]) .ret))))
theorem fn_guiseref6_pairs:(autoPrg Tryz.prog).fn 69 = some LF_guiseref6_pairs:=by kernel_rfl
def LF_guiseref6_drops:LFunc :=
  .mk 1 [.cell 2 (some 3)] (.seq (R 1 [1,2] [.tmp 1 (xbl 1 8 (.sl 0)),.tmp 2 (xnl 2 [.int .i64 0,.int .i64 0,.int .i64 0])]) (.seq (.seq (R 999 [1,2,3] [.set 3 (xi 0)])
  (.block 0 (.loop (.seq (.seq (R 7 [1,2,3,11] [.tmp 11 (xb .lss (.va 3) (xlen (xld (xfa 2 (.sl 1)))))]) (.cond (.s 11) .skip (.exit 0))) (.seq (.block 1 (.seq (R 14 [1,2,3,
  22] [.tmp 22 (xc2 121 (xld (xfa 0 (xia 2 (xld (xfa 2 (.sl 1))) (.va 3)))) (xld (xfa 6 (.sl 1))))]) (.cond (.s 22) (.seq (R 23 [2] [.run (xst 3 (.sl 2) (.op (.p
  (.build [.int .i64 0,.int .i64 0,.int .i64 0] [(0,1,.s 0),(1,1,.s 1),(2,1,.s 2)])) (.cons (xi 37) (.cons (xi 3) (.va 3)))))]) .ret) .skip))) (R 12 [1,2,3] [.set 3 (xb
  .add (.va 3) (xi 1))])))))) (.seq (.seq (R 999 [1,2,4] [.set 4 (xi 0)]) (.block 2 (.loop (.seq (.seq (R 25 [1,2,4,29] [.tmp 29 (xb .lss (.va 4) (xlen (xld (xfa 3 (.sl
  1)))))]) (.cond (.s 29) .skip (.exit 2))) (.seq (.block 3 (.seq (R 32 [1,2,4,62] [.tmp 62 (.or (.or (xc2 121 (xld (xfa 0 (xia 3 (xld (xfa 3 (.sl 1))) (.va 4))))
  (xld (xfa 6 (.sl 1)))) (xc2 121 (xld (xfa 1 (xia 3 (xld (xfa 3 (.sl 1))) (.va 4)))) (xld (xfa 6 (.sl 1))))) (xc2 121 (xld (xfa 2 (xia 3 (xld (xfa 3 (.sl
  1))) (.va 4)))) (xld (xfa 6 (.sl 1)))))]) (.cond (.s 62) (.seq (R 63 [2] [.run (xst 3 (.sl 2) (.op (.p (.build [.int .i64 0,.int .i64 0,.int .i64 0] [(0,1,.s 0),(1,1,.s 1),
  (2,1,.s 2)])) (.cons (xi 37) (.cons (xi 4) (.va 4)))))]) .ret) .skip))) (R 30 [1,2,4] [.set 4 (xb .add (.va 4) (xi 1))])))))) (.seq (.seq (R 999 [1,2,5] [.set 5 (xi 0)])
  (.block 4 (.loop (.seq (.seq (R 65 [1,2,5,69] [.tmp 69 (xb .lss (.va 5) (xlen (xld (xfa 4 (.sl 1)))))]) (.cond (.s 69) .skip (.exit 4))) (.seq (.block 5 (.seq (R 72 [1,2,5,
  80] [.tmp 80 (xc2 121 (xld (xfa 0 (xia 2 (xld (xfa 4 (.sl 1))) (.va 5)))) (xld (xfa 6 (.sl 1))))]) (.cond (.s 80) (.seq (R 81 [2] [.run (xst 3 (.sl 2) (.op (.p
  (.build [.int .i64 0,.int .i64 0,.int .i64 0] [(0,1,.s 0),(1,1,.s 1),(2,1,.s 2)])) (.cons (xi 37) (.cons (xi 5) (.va 5)))))]) .ret) .skip))) (R 70 [1,2,5] [.set 5 (xb
  .add (.va 5) (xi 1))])))))) (.seq (.seq (R 999 [1,2,6] [.set 6 (xi 0)]) (.block 6 (.loop (.seq (.seq (R 83 [1,2,6,87] [.tmp 87 (xb .lss (.va 6) (xlen (xld (xfa 5 (.sl
  1)))))]) (.cond (.s 87) .skip (.exit 6))) (.seq (.block 7 (.seq (R 90 [1,2,6,98] [.tmp 98 (xc2 121 (xld (xfa 0 (xia 2 (xld (xfa 5 (.sl 1))) (.va 6)))) (xld (xfa 6
  (.sl 1))))]) (.cond (.s 98) (.seq (R 99 [2] [.run (xst 3 (.sl 2) (.op (.p (.build [.int .i64 0,.int .i64 0,.int .i64 0] [(0,1,.s 0),(1,1,.s 1),(2,1,.s 2)])) (.cons (xi
  37) (.cons (xi 6) (.va 6)))))]) .ret) .skip))) (R 88 [1,2,6] [.set 6 (xb .add (.va 6) (xi 1))])))))) (.seq (R 101 [2] [.run (xst 3 (.sl 2) (.op (.p (.build [.int .i64 0,.int
  .i64 0,.int .i64 0] [])) .nil))]) .ret))))))
theorem fn_guiseref6_drops:(autoPrg Tryz.prog).fn 70 = some LF_guiseref6_drops:=by kernel_rfl
def LF_guiseref6_tos:LFunc :=
  .mk 1 [.cell 2 (some 3)] (.seq (R 1 [1,2] [.tmp 1 (xbl 1 8 (.sl 0)),.tmp 2 (xnl 2 [.int .i64 0,.int .i64 0,.int .i64 0])]) (.seq (.seq (R 999 [1,2,3] [.set 3 (xi 0)])
  (.block 0 (.loop (.seq (.seq (R 13 [1,2,3,17] [.tmp 17 (xb .lss (.va 3) (xlen (xld (xfa 4 (.sl 1)))))]) (.cond (.s 17) .skip (.exit 0))) (.seq (.block 1 (.seq (R 20 [1,2,3,
  38] [.tmp 38 (.or (xc2 119 (xln 8 (.sl 1)) (xld (xfa 0 (xia 2 (xld (xfa 4 (.sl 1))) (.va 3))))) (xb .geq (xc2 122 (xln 8 (.sl 1)) (xld (xfa 0 (xia 2
  (xld (xfa 4 (.sl 1))) (.va 3))))) (xi 0)))]) (.cond (.s 38) (.seq (R 39 [2] [.run (xst 3 (.sl 2) (.op (.p (.build [.int .i64 0,.int .i64 0,.int .i64 0] [(0,1,.s 0),(1,1,.s
  1),(2,1,.s 2)])) (.cons (xi 31) (.cons (xi 5) (.va 3)))))]) .ret) .skip))) (R 18 [1,2,3] [.set 3 (xb .add (.va 3) (xi 1))])))))) (.seq (.seq (R 999 [1,2,4] [.set 4 (xi 0)])
  (.block 2 (.loop (.seq (.seq (R 41 [1,2,4,45] [.tmp 45 (xb .lss (.va 4) (xlen (xld (xfa 5 (.sl 1)))))]) (.cond (.s 45) .skip (.exit 2))) (.seq (.block 3 (.seq (R 48 [1,2,4,
  66] [.tmp 66 (.or (xc2 119 (xln 8 (.sl 1)) (xld (xfa 0 (xia 2 (xld (xfa 5 (.sl 1))) (.va 4))))) (xb .geq (xc2 122 (xln 8 (.sl 1)) (xld (xfa 0 (xia 2
  (xld (xfa 5 (.sl 1))) (.va 4))))) (xi 0)))]) (.cond (.s 66) (.seq (R 67 [2] [.run (xst 3 (.sl 2) (.op (.p (.build [.int .i64 0,.int .i64 0,.int .i64 0] [(0,1,.s 0),(1,1,.s
  1),(2,1,.s 2)])) (.cons (xi 31) (.cons (xi 6) (.va 4)))))]) .ret) .skip))) (R 46 [1,2,4] [.set 4 (xb .add (.va 4) (xi 1))])))))) (.seq (.seq (R 999 [1,2,5] [.set 5 (xi 0)])
  (.block 4 (.loop (.seq (.seq (R 69 [1,2,5,73] [.tmp 73 (xb .lss (.va 5) (xlen (xld (xfa 4 (.sl 1)))))]) (.cond (.s 73) .skip (.exit 4))) (.seq (.block 5 (.seq (R 77 [1,2,5,
  6] [.set 76 (xc1 84 (xld (xfa 1 (xia 2 (xld (xfa 4 (.sl 1))) (.va 5))))),.tmp 84 (xex 0 (.sl 76)),.tmp 85 (xex 1 (.sl 76)),.set 6 (.sl 84),.set 7 (.sl 85)])
  (.seq (R 999 [1,2,5,6,8] [.set 8 (xi 0)]) (.block 6 (.loop (.seq (.seq (R 86 [1,2,5,6,8,89] [.tmp 89 (xb .lss (.va 8) (xlen (.va 6)))]) (.cond (.s 89) .skip (.exit 6)))
  (.seq (.block 7 (.seq (R 92 [1,2,5,6,8,98] [.tmp 98 (xu .not (xc2 123 (xln 8 (.sl 1)) (xld (xia 1 (.va 6) (.va 8)))))]) (.cond (.s 98) (.seq (R 99 [2] [.run
  (xst 3 (.sl 2) (.op (.p (.build [.int .i64 0,.int .i64 0,.int .i64 0] [(0,1,.s 0),(1,1,.s 1),(2,1,.s 2)])) (.cons (xi 35) (.cons (xi 5) (.va 5)))))]) .ret) .skip))) (R
  90 [1,2,5,6,8] [.set 8 (xb .add (.va 8) (xi 1))])))))))) (R 74 [1,2,5] [.set 5 (xb .add (.va 5) (xi 1))])))))) (.seq (.seq (R 999 [1,2,9] [.set 9 (xi 0)]) (.block 8 (.loop
  (.seq (.seq (R 101 [1,2,9,105] [.tmp 105 (xb .lss (.va 9) (xlen (xld (xfa 5 (.sl 1)))))]) (.cond (.s 105) .skip (.exit 8))) (.seq (.block 9 (.seq (R 109 [1,2,9,10] [.set 108
  (xc1 84 (xld (xfa 1 (xia 2 (xld (xfa 5 (.sl 1))) (.va 9))))),.tmp 116 (xex 0 (.sl 108)),.tmp 117 (xex 1 (.sl 108)),.set 10 (.sl 116),.set 11 (.sl 117)]) (.seq
  (R 999 [1,2,9,10,12] [.set 12 (xi 0)]) (.block 10 (.loop (.seq (.seq (R 118 [1,2,9,10,12,121] [.tmp 121 (xb .lss (.va 12) (xlen (.va 10)))]) (.cond (.s 121) .skip (.exit
  10))) (.seq (.block 11 (.seq (R 124 [1,2,9,10,12,140] [.tmp 140 (.or (xu .not (xc2 123 (xln 8 (.sl 1)) (xld (xia 1 (.va 10) (.va 12))))) (xb .geq (xc2
  83 (xld (xfa 5 (.sl 1))) (xld (xia 1 (.va 10) (.va 12)))) (xi 0)))]) (.cond (.s 140) (.seq (R 141 [2] [.run (xst 3 (.sl 2) (.op (.p (.build [.int .i64 0,.int .i64
  0,.int .i64 0] [(0,1,.s 0),(1,1,.s 1),(2,1,.s 2)])) (.cons (xi 36) (.cons (xi 6) (.va 9)))))]) .ret) .skip))) (R 122 [1,2,9,10,12] [.set 12 (xb .add (.va 12) (xi
  1))])))))))) (R 106 [1,2,9] [.set 9 (xb .add (.va 9) (xi 1))])))))) (.seq (R 143 [2] [.run (xst 3 (.sl 2) (.op (.p (.build [.int .i64 0,.int .i64 0,.int .i64 0] [])) .nil))])
  .ret))))))
theorem fn_guiseref6_tos:(autoPrg Tryz.prog).fn 71 = some LF_guiseref6_tos:=by kernel_rfl
def LF_guiseref6_rows:LFunc :=
  .mk 1 [.cell 2 (some 3)] (.seq (R 1 [1,2] [.tmp 1 (xbl 1 8 (.sl 0)),.tmp 2 (xnl 2 [.int .i64 0,.int .i64 0,.int .i64 0])]) (.seq (.seq (R 999 [1,2,3] [.set 3 (xr 45)])
  (.block 0 (.loop (.seq (.seq (R 9 [1,2,3,10] [.tmp 10 (xb .leq (.va 3) (xr 57))]) (.cond (.s 10) .skip (.exit 0))) (.seq (.block 1 (.seq (R 13 [1,2,3,21] [.tmp 21 (.and (xb
  .neq (.va 3) (xr 47)) (xu .not (xc2 121 (.va 3) (xld (xfa 1 (.sl 1))))))]) (.cond (.s 21) (.seq (R 22 [2] [.run (xst 3 (.sl 2) (.op (.p (.build [.int .i64 0,.int
  .i64 0,.int .i64 0] [(0,1,.s 0),(1,1,.s 1)])) (.cons (xi 5) (xi 2))))]) .ret) .skip))) (R 11 [1,2,3] [.set 3 (xb .add (.va 3) (xr 1))])))))) (.seq (.seq (R 999 [1,2,4]
  [.set 4 (xi 0)]) (.block 2 (.loop (.seq (.seq (R 23 [1,2,4,27] [.tmp 27 (xb .lss (.va 4) (xlen (xld (xfa 2 (.sl 1)))))]) (.cond (.s 27) .skip (.exit 2))) (.seq (.block 3 (.seq
  (R 30 [1,2,4,36] [.tmp 36 (xc1 142 (xld (xfa 0 (xia 2 (xld (xfa 2 (.sl 1))) (.va 4)))))]) (.cond (.s 36) (.seq (R 37 [2] [.run (xst 3 (.sl 2) (.op (.p (.build
  [.int .i64 0,.int .i64 0,.int .i64 0] [(0,1,.s 0),(1,1,.s 1),(2,1,.s 2)])) (.cons (xi 5) (.cons (xi 3) (.va 4)))))]) .ret) .skip))) (R 28 [1,2,4] [.set 4 (xb .add (.va
  4) (xi 1))])))))) (.seq (.seq (R 999 [1,2,5] [.set 5 (xi 0)]) (.block 4 (.loop (.seq (.seq (R 39 [1,2,5,43] [.tmp 43 (xb .lss (.va 5) (xlen (xld (xfa 3 (.sl 1)))))]) (.cond
  (.s 43) .skip (.exit 4))) (.seq (.block 5 (.seq (R 46 [1,2,5,52] [.tmp 52 (xc1 142 (xld (xfa 0 (xia 3 (xld (xfa 3 (.sl 1))) (.va 5)))))]) (.cond (.s 52) (.seq (R
  53 [2] [.run (xst 3 (.sl 2) (.op (.p (.build [.int .i64 0,.int .i64 0,.int .i64 0] [(0,1,.s 0),(1,1,.s 1),(2,1,.s 2)])) (.cons (xi 5) (.cons (xi 4) (.va 5)))))]) .ret)
  .skip))) (R 44 [1,2,5] [.set 5 (xb .add (.va 5) (xi 1))])))))) (.seq (.seq (R 999 [1,2,6] [.set 6 (xi 0)]) (.block 6 (.loop (.seq (.seq (R 55 [1,2,6,59] [.tmp 59 (xb .lss
  (.va 6) (xlen (xld (xfa 4 (.sl 1)))))]) (.cond (.s 59) .skip (.exit 6))) (.seq (.block 7 (.seq (R 62 [1,2,6,7] [.set 7 (xld (xfa 0 (xia 2 (xld (xfa 4 (.sl 1))) (.va 6))))])
  (.seq (R 68 [1,2,6,86] [.tmp 86 (.or (.and (xc1 142 (.va 7)) (.or (xb .lss (.va 7) (xr 65)) (xb .gtr (.va 7) (xr 90)))) (xc1 143 (xld (xfa 1 (xia 2
  (xld (xfa 4 (.sl 1))) (.va 6))))))]) (.cond (.s 86) (.seq (R 87 [2] [.run (xst 3 (.sl 2) (.op (.p (.build [.int .i64 0,.int .i64 0,.int .i64 0] [(0,1,.s 0),(1,1,.s 1),(2,
  1,.s 2)])) (.cons (xi 5) (.cons (xi 5) (.va 6)))))]) .ret) .skip)))) (R 60 [1,2,6] [.set 6 (xb .add (.va 6) (xi 1))])))))) (.seq (.seq (R 999 [1,2,8] [.set 8 (xi 0)]) (.block
  8 (.loop (.seq (.seq (R 89 [1,2,8,93] [.tmp 93 (xb .lss (.va 8) (xlen (xld (xfa 5 (.sl 1)))))]) (.cond (.s 93) .skip (.exit 8))) (.seq (.block 9 (.seq (R 96 [1,2,8,111]
  [.tmp 111 (.or (xc1 144 (xld (xfa 0 (xia 2 (xld (xfa 5 (.sl 1))) (.va 8))))) (xc1 143 (xld (xfa 1 (xia 2 (xld (xfa 5 (.sl 1))) (.va 8))))))]) (.cond
  (.s 111) (.seq (R 112 [2] [.run (xst 3 (.sl 2) (.op (.p (.build [.int .i64 0,.int .i64 0,.int .i64 0] [(0,1,.s 0),(1,1,.s 1),(2,1,.s 2)])) (.cons (xi 5) (.cons (xi 6)
  (.va 8)))))]) .ret) .skip))) (R 94 [1,2,8] [.set 8 (xb .add (.va 8) (xi 1))])))))) (.seq (R 114 [2] [.run (xst 3 (.sl 2) (.op (.p (.build [.int .i64 0,.int .i64 0,.int .i64 0]
  [])) .nil))]) .ret)))))))
theorem fn_guiseref6_rows:(autoPrg Tryz.prog).fn 124 = some LF_guiseref6_rows:=by kernel_rfl
def LF_guiseref6_house:LFunc :=
  .mk 1 [.cell 2 (some 3)] (.seq (R 1 [1,2] [.tmp 1 (xbl 1 8 (.sl 0)),.tmp 2 (xnl 2 [.int .i64 0,.int .i64 0,.int .i64 0])]) (.seq (R 8 [1,2,3] [.tmp 9 (xc1 124
  (xln 8 (.sl 1))),.at 3,.tmp 3 (xnl 3 [.int .i64 0,.int .i64 0,.int .i64 0]),.run (xst 3 (.sl 3) (.sl 9))]) (.seq (.seq (R 10 [1,2,3,12] [.tmp 12 (xb .neq (xld (xfa 0 (.sl
  3))) (xi 0))]) (.cond (.s 12) (.seq (R 13 [2] [.run (xst 3 (.sl 2) (xln 3 (.sl 3)))]) .ret) .skip)) (.seq (.seq (R 999 [1,2,4] [.set 4 (xi 0)]) (.block 0 (.loop (.seq (.seq (R
  14 [1,2,4,18] [.tmp 18 (xb .lss (.va 4) (xlen (xld (xfa 6 (.sl 1)))))]) (.cond (.s 18) .skip (.exit 0))) (.seq (.block 1 (.seq (R 21 [1,2,4,45] [.tmp 45 (.or (xb .lss (xld
  (xfa 0 (xia 2 (xld (xfa 6 (.sl 1))) (.va 4)))) (xr 128)) (.and (xb .leq (xld (xfa 0 (xia 2 (xld (xfa 6 (.sl 1))) (.va 4)))) (xr 65533)) (xb .leq (xr 65533) (xld (xfa 1 (xia 2 (xld
  (xfa 6 (.sl 1))) (.va 4)))))))]) (.cond (.s 45) (.seq (R 46 [2] [.run (xst 3 (.sl 2) (.op (.p (.build [.int .i64 0,.int .i64 0,.int .i64 0] [(0,1,.s 0),(1,1,.s 1),(2,1,
  .s 2)])) (.cons (xi 5) (.cons (xi 7) (.va 4)))))]) .ret) .skip))) (R 19 [1,2,4] [.set 4 (xb .add (.va 4) (xi 1))])))))) (.seq (.seq (R 999 [1,2,5] [.set 5 (xi 0)]) (.block 2
  (.loop (.seq (.seq (R 48 [1,2,5,52] [.tmp 52 (xb .lss (.va 5) (xlen (xld (xfa 7 (.sl 1)))))]) (.cond (.s 52) .skip (.exit 2))) (.seq (.block 3 (.seq (R 55 [1,2,5,6] [.set 6
  (xld (xfa 0 (xia 2 (xld (xfa 7 (.sl 1))) (.va 5))))]) (.block 4 (.loop (.seq (.seq (R 61 [1,2,5,6,72] [.tmp 72 (.and (xb .leq (.va 6) (xld (xfa 1 (xia 2 (xld (xfa 7 (.sl 1)))
  (.va 5))))) (xb .lss (.va 6) (xr 128)))]) (.cond (.s 72) .skip (.exit 4))) (.seq (.block 5 (.seq (R 75 [1,2,5,6,92] [.tmp 92 (.and (.and (xb .neq (.va 6) (xr 45)) (.or (xb
  .lss (.va 6) (xr 48)) (xb .gtr (.va 6) (xr 57)))) (.or (xb .lss (.va 6) (xr 97)) (xb .gtr (.va 6) (xr 122))))]) (.cond (.s 92) (.seq (R 93 [2] [.run (xst 3 (.sl 2) (.op (.p
  (.build [.int .i64 0,.int .i64 0,.int .i64 0] [(0,1,.s 0),(1,1,.s 1),(2,1,.s 2)])) (.cons (xi 5) (.cons (xi 8) (.va 5)))))]) .ret) .skip))) (R 73 [1,2,5,6] [.set 6
  (xb .add (.va 6) (xr 1))]))))))) (R 53 [1,2,5] [.set 5 (xb .add (.va 5) (xi 1))])))))) (.seq (.seq (R 999 [1,2,7] [.set 7 (xr 45)]) (.block 6 (.loop (.seq (.seq (R 95 [1,2,
  7,96] [.tmp 96 (xb .leq (.va 7) (xr 122))]) (.cond (.s 96) .skip (.exit 6))) (.seq (.block 7 (.seq (R 99 [1,2,7,119] [.tmp 119 (.and (.or (.or (xb .eql (.va 7) (xr 45)) (.and
  (xb .geq (.va 7) (xr 48)) (xb .leq (.va 7) (xr 57)))) (xb .geq (.va 7) (xr 97))) (xu .not (xc2 121 (.va 7) (xld (xfa 7 (.sl 1))))))]) (.cond (.s 119) (.seq (R 120 [2]
  [.run (xst 3 (.sl 2) (.op (.p (.build [.int .i64 0,.int .i64 0,.int .i64 0] [(0,1,.s 0),(1,1,.s 1)])) (.cons (xi 5) (xi 8))))]) .ret) .skip))) (R 97 [1,2,7] [.set 7 (xb
  .add (.va 7) (xr 1))])))))) (.seq (R 121 [2] [.run (xst 3 (.sl 2) (.op (.p (.build [.int .i64 0,.int .i64 0,.int .i64 0] [])) .nil))]) .ret)))))))
theorem fn_guiseref6_house:(autoPrg Tryz.prog).fn 72 = some LF_guiseref6_house:=by kernel_rfl
def LF_guiseref6_Check:LFunc :=
  .mk 1 [.cell 2 (some 3)] (.seq (R 1 [1,2] [.tmp 1 (xbl 1 8 (.sl 0)),.tmp 2 (xnl 2 [.int .i64 0,.int .i64 0,.int .i64 0])]) (.seq (R 4 [1,2,3] [.tmp 5 (xc1 66
  (xln 8 (.sl 1))),.at 3,.tmp 3 (xnl 3 [.int .i64 0,.int .i64 0,.int .i64 0]),.run (xst 3 (.sl 3) (.sl 5))]) (.seq (.seq (R 6 [1,2,3,8] [.tmp 8 (xb .eql (xld (xfa 0 (.sl
  3))) (xi 0))]) (.cond (.s 8) (R 9 [1,2,3] [.run (xst 3 (.sl 3) (xc1 67 (xln 8 (.sl 1))))]) .skip)) (.seq (.seq (R 11 [1,2,3,13] [.tmp 13 (xb .eql (xld (xfa 0
  (.sl 3))) (xi 0))]) (.cond (.s 13) (R 14 [1,2,3] [.run (xst 3 (.sl 3) (xc1 68 (xln 8 (.sl 1))))]) .skip)) (.seq (.seq (R 16 [1,2,3,18] [.tmp 18 (xb .eql (xld
  (xfa 0 (.sl 3))) (xi 0))]) (.cond (.s 18) (R 19 [1,2,3] [.run (xst 3 (.sl 3) (xc1 69 (xln 8 (.sl 1))))]) .skip)) (.seq (.seq (R 21 [1,2,3,23] [.tmp 23 (xb
  .eql (xld (xfa 0 (.sl 3))) (xi 0))]) (.cond (.s 23) (R 24 [1,2,3] [.run (xst 3 (.sl 3) (xc1 70 (xln 8 (.sl 1))))]) .skip)) (.seq (.seq (R 26 [1,2,3,28] [.tmp
  28 (xb .eql (xld (xfa 0 (.sl 3))) (xi 0))]) (.cond (.s 28) (R 29 [1,2,3] [.run (xst 3 (.sl 3) (xc1 71 (xln 8 (.sl 1))))]) .skip)) (.seq (.seq (R 31 [1,2,3,33]
  [.tmp 33 (xb .eql (xld (xfa 0 (.sl 3))) (xi 0))]) (.cond (.s 33) (R 34 [2,3] [.run (xst 3 (.sl 3) (xc1 72 (xln 8 (.sl 1))))]) .skip)) (.seq (R 36 [2] [.run (xst
  3 (.sl 2) (xln 3 (.sl 3)))]) .ret)))))))))
theorem fn_guiseref6_Check:(autoPrg Tryz.prog).fn 40 = some LF_guiseref6_Check:=by kernel_rfl
end Go.Proofs.YtakmapoompffgaaGreatDoor.AM
namespace Go.Proofs.YtakmapoompffgaaGreatDoor.AM
open Go
theorem any_scan {α:Type} {l:List α} {P:α→Prop} [DecidablePred P]:(l.any fun x=>decide (P x)) = (scanL l fun _ x=>if P x then some () else none).isSome:=by
  cases h:scanL l fun _ x=>if P x then some () else none with
  | some w =>
    obtain ⟨i,hi,hw⟩:=scanL_some h
    rw [List.any_eq_true.2 ⟨l[i],List.getElem_mem hi,by by_cases hp:P l[i]; exact decide_eq_true hp; rw [if_neg hp] at hw; cases hw⟩]; rfl
  | none =>
    rw [List.any_eq_false.2 fun x hx hp=>?_]; rfl
    obtain ⟨i,hi,rfl⟩:=List.mem_iff_getElem.1 hx
    have:=scanL_none h i hi
    rw [if_pos (of_decide_eq_true hp)] at this
    cases this
theorem rune6_eq (r:Int) (h:AH):callO PX 117 [.int .i32 r] h = some (.bool (runeI r),h):=by
  apply WpC.eqn
  refine wpc_fn (px_ext rfl) (px_fn fn_guiseref6_Rune) rfl ?_
  unfold LF_guiseref6_Rune
  simp only [argFr]
  (refine W_x trivial ?_; (repeat' first | apply Cj.mk | exact Nl.nl) <;> intros)
  all_goals (refine ⟨?_,rfl⟩; congr 1; symm; unfold runeI; first | (exact decide_eq_true (by omega)) | (exact decide_eq_false (by omega)))
theorem low6_eq (r:Int) (h:AH):callO PX 142 [.int .i32 r] h = some (.bool (lowI r),h):=by
  apply WpC.eqn
  refine wpc_fn (px_ext rfl) (px_fn fn_guiseref6_low) rfl ?_
  unfold LF_guiseref6_low
  simp only [argFr]
  (refine W_x trivial ?_; (repeat' first | apply Cj.mk | exact Nl.nl) <;> intros)
  all_goals (refine ⟨?_,rfl⟩; congr 1; symm; unfold lowI; first | (exact decide_eq_true (by omega)) | (exact decide_eq_false (by omega)))
theorem set6_eq (r:Int) (h:AH):callO PX 144 [.int .i32 r] h = some (.bool (setI r),h):=by
  apply WpC.eqn
  refine wpc_fn (px_ext rfl) (px_fn fn_guiseref6_set) rfl ?_
  unfold LF_guiseref6_set
  simp only [argFr]
  (refine W_x trivial ?_; (repeat' first | apply Cj.mk | exact Nl.nl) <;> intros)
  all_goals (refine ⟨?_,rfl⟩; congr 1; symm; unfold setI; first | (exact decide_eq_true (by omega)) | (exact decide_eq_false (by omega)))
theorem of6_eq {r:Int} {s:Sl} {l:List Span} {h:AH} (rd:Reads h 2 s (l.map pairV)) (hl:l.length < 100000000):callO PX 121 [.int .i32 r,s.val 2] h = some (.bool (ofI r l),h):=by
  have hs:=rd.len
  have e1:=rune6_eq r
  apply WpC.eqn
  refine wpc_fn (px_ext rfl) (px_fn fn_guiseref6_Of) rfl ?_
  unfold LF_guiseref6_Of
  simp only [argFr]
  unfold ofI
  rw [any_scan]
  generalize hb:runeI r = b at e1
  (refine W_x trivial ?_; (repeat' first | apply Cj.mk | exact Nl.nl) <;> intros)
  refine wp_scanF 5 l (fun _ x=>if b = true∧x.1≤r∧r≤x.2 then some () else none) (by intro n; simp only [setF,push_cast,Nat.reduceEqDiff, ↓reduceIte,reduceCtorEq,Nat.reduceAdd,Nat.reduceMul,Nat.reduceLeDiff]; rfl) rfl (fun i hi hit=>?_) fun fin=>?_
  · have g0:=fun lc=>rd_mapc (lc:=lc) rd hi (k:=0) (by decide)
    have g1:=fun lc=>rd_mapc (lc:=lc) rd hi (k:=1) (by decide)
    generalize l[i] = x at hit g0 g1
    unfold pairV at g0 g1
    cases b
    · (refine W_x (Aj hs (Aj e1 (Aj g0 g1))) ?_; (repeat' first | apply Cj.mk | exact Nl.nl) <;> intros)
      exact ⟨rfl,rfl,rfl,rfl⟩
    · (refine W_x (Aj hs (Aj e1 (Aj g0 g1))) ?_; (repeat' first | apply Cj.mk | exact Nl.nl) <;> intros)
      · simp only [true_and] at hit
        rw [hit () (if_pos (by omega))]
        exact ⟨rfl,rfl⟩
      all_goals exact ⟨if_neg (by omega),rfl,rfl,rfl⟩
  · (refine W_x hs ?_; (repeat' first | apply Cj.mk | exact Nl.nl) <;> intros)
    cases b
    · exact ⟨rfl,rfl⟩
    · simp only [true_and] at fin
      rw [fin]
      exact ⟨rfl,rfl⟩
theorem name6_eq (s:ByteArray) (h:AH) (hsz:s.size < 100000000):callO PX 140 [.string s] h = some (.bool (nameB s.data.toList),h):=by
  apply WpC.eqn
  obtain ⟨l,hl⟩:∃ l,l = s.data.toList:=⟨_,rfl⟩
  have hll:l.length = s.size:=by rw [hl]; rfl
  rw [← hl]
  refine wpc_fn (px_ext rfl) (px_fn fn_guiseref6_ScriptName) rfl ?_
  unfold LF_guiseref6_ScriptName
  simp only [argFr]
  unfold nameB
  (refine W_x trivial ?_; (repeat' first | apply Cj.mk | exact Nl.nl) <;> intros)
  refine wp_scanF 3 l (fun i c=>if badNm i c then some () else none) (by intro n; simp only [setF,push_cast,Nat.reduceEqDiff, ↓reduceIte,reduceCtorEq,Nat.reduceAdd,Nat.reduceMul,Nat.reduceLeDiff]; rfl) rfl (fun i hi hit=>?_) fun fin=>?_
  · have hb:bat l i = (l[i]).toNat:=by unfold bat; rw [List.getD_eq_getElem?_getD,List.getElem?_eq_getElem hi,Option.getD_some]
    generalize l[i] = c at hb hit
    have hc:=u8_lt c
    unfold badNm at hit ⊢
    (refine W_x (Aj hl.symm hb) ?_; (repeat' first | apply Cj.mk | exact Nl.nl) <;> intros)
    all_goals first
      | exact ⟨if_neg (by omega),rfl,rfl,rfl⟩
      | (rw [hit () (if_pos (by omega))]; exact ⟨rfl,rfl⟩)
  · rw [fin]
    (refine W_x trivial ?_; (repeat' first | apply Cj.mk | exact Nl.nl) <;> intros)
    all_goals (refine ⟨?_,rfl⟩; congr 1; symm; first | (exact decide_eq_true (by omega)) | (exact decide_eq_false (by omega)))
theorem mark6_eq {S:TS} {T:Tab} {h:AH} (t:TabAt h S T) (r:Int):callO PX 119 [.agg S.vs.toArray,.int .i32 r] h = some (.bool (isMark T r),h):=by
  have rd:=t.r2
  have hn:=t.fits.n2
  have hs:=rd.len
  apply WpC.eqn
  refine wpc_fn (px_ext rfl) (px_fn fn_guiseref6_mark) rfl ?_
  unfold LF_guiseref6_mark
  simp only [argFr]
  unfold isMark
  rw [any_scan]
  unfold TS.vs
  (refine W_x trivial ?_; (repeat' first | apply Cj.mk | exact Nl.nl) <;> intros)
  refine wp_scanF 5 T.marks (fun _ x=>if x.1 = r then some () else none) (by intro n; simp only [setF,push_cast,Nat.reduceEqDiff, ↓reduceIte,reduceCtorEq,Nat.reduceAdd,Nat.reduceMul,Nat.reduceLeDiff]; rfl) rfl (fun i hi hit=>?_) fun fin=>?_
  · have g0:=fun lc=>rd_mapc (lc:=lc) rd hi (k:=0) (by decide)
    generalize T.marks[i] = x at hit g0
    unfold markV at g0
    (refine W_x (Aj hs g0) ?_; (repeat' first | apply Cj.mk | exact Nl.nl) <;> intros)
    · rw [hit () (if_pos (by omega))]; exact ⟨rfl,rfl⟩
    · exact ⟨if_neg (by omega),rfl,rfl,rfl⟩
  · rw [fin]
    (refine W_x hs ?_; (repeat' first | apply Cj.mk | exact Nl.nl) <;> intros)
    exact ⟨rfl,rfl⟩
theorem whole6_eq {S:TS} {T:Tab} {h:AH} (t:TabAt h S T) (r:Int):callO PX 122 [.agg S.vs.toArray,.int .i32 r] h = some (.int .i64 (ixI (wholeO T r)),h):=by
  have rd:=t.r3
  have hn:=t.fits.n3
  have hs:=rd.len
  apply WpC.eqn
  refine wpc_fn (px_ext rfl) (px_fn fn_guiseref6_Whole) rfl ?_
  unfold LF_guiseref6_Whole
  simp only [argFr]
  unfold wholeO TS.vs
  (refine W_x trivial ?_; (repeat' first | apply Cj.mk | exact Nl.nl) <;> intros)
  refine wp_scanF 5 T.pairs (fun i x=>if x.1 = r then some i else none) (by intro n; simp only [setF,push_cast,Nat.reduceEqDiff, ↓reduceIte,reduceCtorEq,Nat.reduceAdd,Nat.reduceMul,Nat.reduceLeDiff]; rfl) rfl (fun i hi hit=>?_) fun fin=>?_
  · have g0:=fun lc=>rd_mapc (lc:=lc) rd hi (k:=0) (by decide)
    generalize T.pairs[i] = x at hit g0
    unfold tripV at g0
    (refine W_x (Aj hs g0) ?_; (repeat' first | apply Cj.mk | exact Nl.nl) <;> intros)
    · rw [hit _ (if_pos (by omega))]; exact ⟨rfl,rfl⟩
    · exact ⟨if_neg (by omega),rfl,rfl,rfl⟩
  · rw [fin]
    (refine W_x hs ?_; (repeat' first | apply Cj.mk | exact Nl.nl) <;> intros)
    exact ⟨rfl,rfl⟩
theorem from6_eq {s:Sl} {l:List (Int × ByteArray)} {h:AH} (rd:Reads h 2 s (l.map mapV)) (hn:l.length < 100000000) (r:Int):callO PX 83 [s.val 2,.int .i32 r] h = some (.int .i64 (ixI (fromO l r)),h):=by
  have hs:=rd.len
  apply WpC.eqn
  refine wpc_fn (px_ext rfl) (px_fn fn_guiseref6_From) rfl ?_
  unfold LF_guiseref6_From
  simp only [argFr]
  unfold fromO
  (refine W_x trivial ?_; (repeat' first | apply Cj.mk | exact Nl.nl) <;> intros)
  refine wp_scanF 5 l (fun i x=>if x.1 = r then some i else none) (by intro n; simp only [setF,push_cast,Nat.reduceEqDiff, ↓reduceIte,reduceCtorEq,Nat.reduceAdd,Nat.reduceMul,Nat.reduceLeDiff]; rfl) rfl (fun i hi hit=>?_) fun fin=>?_
  · have g0:=fun lc=>rd_mapc (lc:=lc) rd hi (k:=0) (by decide)
    generalize l[i] = x at hit g0
    unfold mapV at g0
    (refine W_x (Aj hs g0) ?_; (repeat' first | apply Cj.mk | exact Nl.nl) <;> intros)
    · rw [hit _ (if_pos (by omega))]; exact ⟨rfl,rfl⟩
    · exact ⟨if_neg (by omega),rfl,rfl,rfl⟩
  · rw [fin]
    (refine W_x hs ?_; (repeat' first | apply Cj.mk | exact Nl.nl) <;> intros)
    exact ⟨rfl,rfl⟩
theorem ixI_neg {o:Option Nat}:(ixI o < 0)↔o.isNone = true:=by cases o <;> simp [ixI]
theorem plain6_eq {S:TS} {T:Tab} {h:AH} (t:TabAt h S T) (r:Int):callO PX 123 [.agg S.vs.toArray,.int .i32 r] h = some (.bool (plainI T r),h):=by
  have e1:=rune6_eq r
  have e2:=mark6_eq t r
  have e3:=whole6_eq t r
  have e4:=of6_eq t.r6 t.fits.n6 (r:=r)
  have e5:=from6_eq t.r4 t.fits.n4 r
  have i3:=ixI_neg (o:=wholeO T r)
  have i5:=ixI_neg (o:=fromO T.folds r)
  apply WpC.eqn
  refine wpc_fn (px_ext rfl) (px_fn fn_guiseref6_Plain) rfl ?_
  unfold LF_guiseref6_Plain
  simp only [argFr]
  unfold plainI TS.vs
  unfold TS.vs at e2 e3
  generalize runeI r = b1 at e1
  generalize isMark T r = b2 at e2
  generalize wholeO T r = o3 at e3 i3
  generalize ofI r T.drops = b4 at e4
  generalize fromO T.folds r = o5 at e5 i5
  cases b1
  · (refine W_x e1 ?_; (repeat' first | apply Cj.mk | exact Nl.nl) <;> intros)
    exact ⟨rfl,rfl⟩
  cases b2
  · (refine W_x (Aj e1 (Aj e2 e3)) ?_; (repeat' first | apply Cj.mk | exact Nl.nl) <;> intros)
    · rw [i3.1 (by assumption)]
      cases b4
      · (refine W_x (Aj e4 e5) ?_; (repeat' first | apply Cj.mk | exact Nl.nl) <;> intros)
        all_goals (refine ⟨?_,rfl⟩; congr 1; symm)
        · rw [i5.1 (by assumption)]; rfl
        · rename_i hh
          cases hq:o5.isNone
          · rfl
          · exact absurd (i5.2 hq) hh
      · (refine W_x e4 ?_; (repeat' first | apply Cj.mk | exact Nl.nl) <;> intros)
        exact ⟨rfl,rfl⟩
    · rename_i hh
      cases hq:o3.isNone
      · exact ⟨rfl,rfl⟩
      · exact absurd (i3.2 hq) hh
  · (refine W_x (Aj e1 e2) ?_; (repeat' first | apply Cj.mk | exact Nl.nl) <;> intros)
    exact ⟨rfl,rfl⟩
end Go.Proofs.YtakmapoompffgaaGreatDoor.AM
namespace Go.Proofs.YtakmapoompffgaaGreatDoor.AM
open Go
def rnV (c:Nat):List Value:=[.int .i32 c]
def rnB (l:Bytes):Option (List Nat):=if validB l then some (runesB l) else none
theorem rnB_nil:rnB [] = some []:=rfl
theorem rnB_enc {c:Nat} (hc:RuneN c) (rest:Bytes):rnB (encN c ++ rest) = (rnB rest).map (c :: ·):=by
  unfold rnB
  rw [validB_enc hc,runesB_enc hc]
  split <;> rfl
theorem rnB_bad {l:Bytes} (hl:l≠[]) (hd:dec1 l = (0xFFFD,1)):rnB l = none:=by
  unfold rnB
  rw [validB_bad hl hd]
  rfl
inductive Seq1 (l:Bytes):Prop
  | one (h:bat l 0 < 128) (e:rnB l = (rnB (l.drop 1)).map (bat l 0 :: ·))
  | two (a:192≤bat l 0) (b:bat l 0 < 224) (n:1 < l.length) (c1:128≤bat l 1∧bat l 1 < 192) (r:128≤(bat l 0 - 192) * 64 + (bat l 1 - 128)) (e:rnB l = (rnB (l.drop 2)).map (((bat l 0 - 192) * 64 + (bat l 1 - 128)) :: ·))
  | three (a:224≤bat l 0) (b:bat l 0 < 240) (n:2 < l.length) (c1:128≤bat l 1∧bat l 1 < 192) (c2:128≤bat l 2∧bat l 2 < 192) (r:2048≤((bat l 0 - 224) * 64 + (bat l 1 - 128)) * 64 + (bat l 2 - 128))
      (v:RuneN (((bat l 0 - 224) * 64 + (bat l 1 - 128)) * 64 + (bat l 2 - 128))) (e:rnB l = (rnB (l.drop 3)).map ((((bat l 0 - 224) * 64 + (bat l 1 - 128)) * 64 + (bat l 2 - 128)) :: ·))
  | four (a:240≤bat l 0) (b:bat l 0 < 248) (n:3 < l.length) (c1:128≤bat l 1∧bat l 1 < 192) (c2:128≤bat l 2∧bat l 2 < 192) (c3:128≤bat l 3∧bat l 3 < 192)
      (r:65536≤(((bat l 0 - 240) * 64 + (bat l 1 - 128)) * 64 + (bat l 2 - 128)) * 64 + (bat l 3 - 128)) (v:RuneN ((((bat l 0 - 240) * 64 + (bat l 1 - 128)) * 64 + (bat l 2 - 128)) * 64 + (bat l 3 - 128)))
      (e:rnB l = (rnB (l.drop 4)).map (((((bat l 0 - 240) * 64 + (bat l 1 - 128)) * 64 + (bat l 2 - 128)) * 64 + (bat l 3 - 128)) :: ·))
  | bad (e:rnB l = none) (h:128≤bat l 0)
      (h2:192≤bat l 0→bat l 0 < 224→1 < l.length→128≤bat l 1→bat l 1 < 192→(bat l 0 - 192) * 64 + (bat l 1 - 128) < 128)
      (h3:224≤bat l 0→bat l 0 < 240→2 < l.length→128≤bat l 1→bat l 1 < 192→128≤bat l 2→bat l 2 < 192→((bat l 0 - 224) * 64 + (bat l 1 - 128)) * 64 + (bat l 2 - 128) < 2048 ∨ ¬ RuneN (((bat l 0 - 224) * 64 + (bat l 1 - 128)) * 64 + (bat l 2 - 128)))
      (h4:240≤bat l 0→bat l 0 < 248→3 < l.length→128≤bat l 1→bat l 1 < 192→128≤bat l 2→bat l 2 < 192→128≤bat l 3→bat l 3 < 192 →
        (((bat l 0 - 240) * 64 + (bat l 1 - 128)) * 64 + (bat l 2 - 128)) * 64 + (bat l 3 - 128) < 65536 ∨ ¬ RuneN ((((bat l 0 - 240) * 64 + (bat l 1 - 128)) * 64 + (bat l 2 - 128)) * 64 + (bat l 3 - 128)))
theorem bat_lt (l:Bytes) (k:Nat):bat l k < 256:=u8_lt _
theorem bcont_iff {l:Bytes} {k:Nat}:bcont l k = true↔k < l.length∧128≤bat l k∧bat l k < 192:=by
  unfold bcont
  have:=bat_lt l k
  simp only [Bool.and_eq_true,decide_eq_true_eq,beq_iff_eq]
  omega
theorem good_of {l:Bytes} {c w:Nat} (hl:l≠[]) (hd:dec1 l = (c,w)) (hne : ¬ (c = 0xFFFD∧w = 1)):RuneN c∧rnB l = (rnB (l.drop w)).map (c :: ·):=by
  rcases dec_cases hl with ⟨c',rest,hc,e,hd'⟩ | ⟨hb,_⟩
  · rw [hd] at hd'
    injection hd' with h1 h2
    subst h1 h2
    refine ⟨hc, ?_⟩
    conv=>lhs; rw [e]
    rw [rnB_enc hc,e,List.drop_left]
  · rw [hd] at hb
    injection hb with h1 h2
    exact absurd ⟨h1,h2⟩ hne
theorem seq1 {l:Bytes} (hl:l≠[]):Seq1 l:=by
  have h0:=bat_lt l 0
  have h1:=bat_lt l 1
  have h2:=bat_lt l 2
  have h3:=bat_lt l 3
  have g1:=bcont_iff (l:=l) (k:=1)
  have g2:=bcont_iff (l:=l) (k:=2)
  have g3:=bcont_iff (l:=l) (k:=3)
  have good:=fun c w=>good_of (c:=c) (w:=w) hl
  have bad:=fun h=>rnB_bad hl h
  have val:=fun c=>valid_iff c
  unfold dec1 at good bad
  by_cases c0:bat l 0 < 128
  · exact .one c0 (good _ _ (if_pos c0) (by omega)).2
  simp only [if_neg c0] at good bad
  by_cases c1:(bat l 0 / 32 == 6 && bcont l 1) = true
  · simp only [if_pos c1] at good bad
    simp only [Bool.and_eq_true,beq_iff_eq,g1] at c1
    by_cases c2:bat l 0 % 32 * 64 + bat l 1 % 64 ≥ 128
    · simp only [if_pos c2] at good
      have:=(good _ _ rfl (by omega)).2
      rw [show bat l 0 % 32 * 64 + bat l 1 % 64 = (bat l 0 - 192) * 64 + (bat l 1 - 128) by omega] at this
      exact .two (by omega) (by omega) (by omega) (by omega) (by omega) this
    · simp only [if_neg c2] at bad
      exact .bad (bad trivial) (by omega) (fun _ _ _ _ _=>by omega) (fun _ _=>by omega) (fun _ _=>by omega)
  simp only [if_neg c1] at good bad
  simp only [Bool.and_eq_true,beq_iff_eq,g1] at c1
  by_cases c2:(bat l 0 / 16 == 14 && bcont l 1 && bcont l 2) = true
  · simp only [if_pos c2] at good bad
    simp only [Bool.and_eq_true,beq_iff_eq,g1,g2] at c2
    have e:bat l 0 % 16 * 4096 + bat l 1 % 64 * 64 + bat l 2 % 64 = ((bat l 0 - 224) * 64 + (bat l 1 - 128)) * 64 + (bat l 2 - 128):=by omega
    rw [e] at good bad
    by_cases c3:(decide (((bat l 0 - 224) * 64 + (bat l 1 - 128)) * 64 + (bat l 2 - 128) ≥ 2048) && Utf8.valid ((((bat l 0 - 224) * 64 + (bat l 1 - 128)) * 64 + (bat l 2 - 128):Nat))) = true
    · simp only [if_pos c3] at good
      obtain ⟨a1,a2⟩:=good _ _ rfl (by omega)
      simp only [Bool.and_eq_true,decide_eq_true_eq] at c3
      exact .three (by omega) (by omega) (by omega) (by omega) (by omega) (by omega) a1 a2
    · simp only [if_neg c3] at bad
      simp only [Bool.and_eq_true,decide_eq_true_eq,val] at c3
      exact .bad (bad trivial) (by omega) (fun _ _=>by omega) (fun _ _ _ _ _ _ _=>by
        by_cases hr:RuneN (((bat l 0 - 224) * 64 + (bat l 1 - 128)) * 64 + (bat l 2 - 128))
        · exact .inl (Nat.lt_of_not_le fun h=>c3 ⟨h,hr⟩)
        · exact .inr hr) (fun _ _=>by omega)
  simp only [if_neg c2] at good bad
  simp only [Bool.and_eq_true,beq_iff_eq,g1,g2] at c2
  by_cases c3:(bat l 0 / 8 == 30 && bcont l 1 && bcont l 2 && bcont l 3) = true
  · simp only [if_pos c3] at good bad
    simp only [Bool.and_eq_true,beq_iff_eq,g1,g2,g3] at c3
    have e:bat l 0 % 8 * 262144 + bat l 1 % 64 * 4096 + bat l 2 % 64 * 64 + bat l 3 % 64 = (((bat l 0 - 240) * 64 + (bat l 1 - 128)) * 64 + (bat l 2 - 128)) * 64 + (bat l 3 - 128):=by omega
    rw [e] at good bad
    by_cases c4:(decide ((((bat l 0 - 240) * 64 + (bat l 1 - 128)) * 64 + (bat l 2 - 128)) * 64 + (bat l 3 - 128) ≥ 65536) && Utf8.valid (((((bat l 0 - 240) * 64 + (bat l 1 - 128)) * 64 + (bat l 2 - 128)) * 64 + (bat l 3 - 128):Nat))) = true
    · simp only [if_pos c4] at good
      obtain ⟨a1,a2⟩:=good _ _ rfl (by omega)
      simp only [Bool.and_eq_true,decide_eq_true_eq] at c4
      exact .four (by omega) (by omega) (by omega) (by omega) (by omega) (by omega) (by omega) a1 a2
    · simp only [if_neg c4] at bad
      simp only [Bool.and_eq_true,decide_eq_true_eq,val] at c4
      exact .bad (bad trivial) (by omega) (fun _ _=>by omega) (fun _ _=>by omega) (fun _ _ _ _ _ _ _ _ _=>by
        by_cases hr:RuneN ((((bat l 0 - 240) * 64 + (bat l 1 - 128)) * 64 + (bat l 2 - 128)) * 64 + (bat l 3 - 128))
        · exact .inl (Nat.lt_of_not_le fun h=>c4 ⟨h,hr⟩)
        · exact .inr hr)
  simp only [if_neg c3] at good bad
  simp only [Bool.and_eq_true,beq_iff_eq,g1,g2,g3] at c3
  exact .bad (bad trivial) (by omega) (fun _ _ _ _ _=>by omega) (fun _ _ _ _ _ _ _=>by omega) (fun _ _ _ _ _ _ _ _ _=>by omega)
instance (c:Nat):Decidable (RuneN c):=by unfold RuneN; infer_instance
theorem runeI_nat (c:Nat):runeI c = decide (RuneN c):=by
  unfold runeI RuneN
  exact decide_eq_decide.2 (by omega)
theorem bat_drop (l:Bytes) (i k:Nat):bat (l.drop i) k = bat l (i + k):=by
  unfold bat
  rw [List.getD_eq_getElem?_getD,List.getD_eq_getElem?_getD,List.getElem?_drop]
set_option maxHeartbeats 1000000 in
theorem runes6_spec (s:ByteArray) (h:AH) (hsz:s.size < 100000000) :
    WpC PX 84 [.string s] h fun v h' => ∃ s',v = .tuple (List.toArray [s'.val 1,.bool (rnO s).isSome])∧FOwn h h' 1 s' (((rnO s).getD []).map rnV):=by
  obtain ⟨l,hl⟩:∃ l,l = s.data.toList:=⟨_,rfl⟩
  have hll:l.length = s.size:=by rw [hl]; rfl
  have hr:rnO s = rnB l:=by rw [hl]; rfl
  rw [hr]
  refine wpc_fn (px_ext rfl) (px_fn fn_guiseref6_Runes) rfl ?_
  unfold LF_guiseref6_Runes
  simp only [argFr]
  (refine W_x trivial ?_; (repeat' first | apply Cj.mk | exact Nl.nl) <;> intros)
  refine wp_loop (fun n fr lc h1 => ∃ (i:Nat) (R:List Nat) (sl:Sl),n = l.length - i∧i≤l.length∧R.length≤i∧rnB l = (rnB (l.drop i)).map (R ++ ·)∧FOwn h h1 1 sl (R.map rnV)∧fr = [(0,.string s),(4,sl.val 1),(5,.int .i64 i)]∧lc = []) l.length
    ⟨0,[],.nil,rfl,Nat.zero_le _,Nat.zero_le _,by simp,FOwn.nil (Kp.refl h),rfl,rfl⟩ ?_
  rintro n fr lc h1 ⟨i,R,sl,rfl,hi,hRi,hR,fo,rfl,rfl⟩
  have hst:∀ c w,0 < w→i + w≤l.length→rnB (l.drop i) = (rnB ((l.drop i).drop w)).map (c :: ·)→∀ s2 h2 d,FOwn h h2 1 s2 (R.map rnV ++ [d])→d = rnV c →
      ∃ n',n' < l.length - i∧∃ (i':Nat) (R':List Nat) (sl':Sl),n' = l.length - i'∧i'≤l.length∧R'.length≤i'∧rnB l = (rnB (l.drop i')).map (R' ++ ·)∧FOwn h h2 1 sl' (R'.map rnV)∧s2 = sl'∧i' = i + w:=fun c w hw hle he s2 h2 d f2 hd =>
    ⟨l.length - (i + w),by omega,i + w,R ++ [c],s2,rfl,hle,by simp only [List.length_append,List.length_singleton]; omega,by
      rw [hR,he,List.drop_drop,Option.map_map]
      congr 1
      funext x
      simp,by rw [List.map_append,List.map_singleton,← hd]; exact f2,rfl,rfl⟩
  rcases Nat.lt_or_ge i l.length with hil | hil
  · have hne:l.drop i≠[]:=fun e=>by have:=congrArg List.length e; rw [List.length_drop,List.length_nil] at this; omega
    have t1:((i:Int) + 1).toNat = i + 1:=by omega
    have t2:((i:Int) + 2).toNat = i + 2:=by omega
    have t3:((i:Int) + 3).toNat = i + 3:=by omega
    have b0:=bat_lt l i
    have b1:=bat_lt l (i + 1)
    have b2:=bat_lt l (i + 2)
    have b3:=bat_lt l (i + 3)
    have e6:=fun c:Nat=>rune6_eq (c:Int)
    have sq:=seq1 hne
    generalize hB:rnB (l.drop i) = B at sq hR hst
    have dl:(l.drop i).length = l.length - i:=List.length_drop
    have r6:=fun z h=>rune6_eq z h
    obtain ⟨x0,q0⟩:∃ x,bat l i = x:=⟨_,rfl⟩
    obtain ⟨x1,q1⟩:∃ x,bat l (i + 1) = x:=⟨_,rfl⟩
    obtain ⟨x2,q2⟩:∃ x,bat l (i + 2) = x:=⟨_,rfl⟩
    obtain ⟨x3,q3⟩:∃ x,bat l (i + 3) = x:=⟨_,rfl⟩
    rw [q0] at b0
    rw [q1] at b1
    rw [q2] at b2
    rw [q3] at b3
    rcases sq with ⟨hh,e⟩ | ⟨a,b,n,c1,r,e⟩ | ⟨a,b,n,c1,c2,r,v,e⟩ | ⟨a,b,n,c1,c2,c3,r,v,e⟩ | ⟨e,hh,g2,g3,g4⟩
    all_goals rw [hB] at e
    · simp only [bat_drop,Nat.add_zero,q0] at hh e
      (refine W_x (Aj hl.symm q0) ?_; (repeat' first | apply Cj.mk | exact Nl.nl) <;> intros)
      refine wo_app1 fo rfl rfl (by decide) (by decide) (by rw [List.length_map]; omega) fun s2 h2 f2=>?_
      (refine W_x trivial ?_; (repeat' first | apply Cj.mk | exact Nl.nl) <;> intros)
      obtain ⟨n',g1,i',R',sl',g2,g3,g4,g5,g6,rfl,rfl⟩:=hst _ 1 (by decide) (by omega) e s2 h2 _ f2 rfl
      exact ⟨n',g1,_,R',s2,g2,g3,g4,g5,g6,by simp only [Int.natCast_add]; rfl,rfl⟩
    · simp only [bat_drop,Nat.add_zero,q0,q1] at a b c1 r e
      have hv:runeI (((x0:Int) - 192) * 64 + ((x1:Int) - 128)) = true:=by unfold runeI; exact decide_eq_true (by omega)
      (refine W_x (Aj hl.symm q0) ?_; (repeat' first | apply Cj.mk | exact Nl.nl) <;> intros)
      refine wp_unroll ?_
      (refine W_x (Aj hl.symm (Aj t1 q1)) ?_; (repeat' first | apply Cj.mk | exact Nl.nl) <;> intros)
      refine wp_unroll ?_
      (refine W_x (Aj hl.symm (Aj r6 hv)) ?_; (repeat' first | apply Cj.mk | exact Nl.nl) <;> intros)
      refine wo_app1 fo rfl rfl (by decide) (by decide) (by rw [List.length_map]; omega) fun s2 h2 f2=>?_
      (refine W_x trivial ?_; (repeat' first | apply Cj.mk | exact Nl.nl) <;> intros)
      obtain ⟨n',g1,i',R',sl',g2,g3,g4,g5,g6,rfl,rfl⟩:=hst _ 2 (by decide) (by omega) e s2 h2 _ f2 (by unfold rnV; congr 2; omega)
      exact ⟨n',g1,_,R',s2,g2,g3,g4,g5,g6,by simp only [Int.natCast_add]; rfl,rfl⟩
    · simp only [bat_drop,Nat.add_zero,q0,q1,q2] at a b c1 c2 r v e
      unfold RuneN at v
      have hv:runeI ((((x0:Int) - 224) * 64 + ((x1:Int) - 128)) * 64 + ((x2:Int) - 128)) = true:=by unfold runeI; exact decide_eq_true (by omega)
      (refine W_x (Aj hl.symm q0) ?_; (repeat' first | apply Cj.mk | exact Nl.nl) <;> intros)
      refine wp_unroll ?_
      (refine W_x (Aj hl.symm (Aj t1 q1)) ?_; (repeat' first | apply Cj.mk | exact Nl.nl) <;> intros)
      refine wp_unroll ?_
      (refine W_x (Aj hl.symm (Aj t2 q2)) ?_; (repeat' first | apply Cj.mk | exact Nl.nl) <;> intros)
      refine wp_unroll ?_
      (refine W_x (Aj hl.symm (Aj r6 hv)) ?_; (repeat' first | apply Cj.mk | exact Nl.nl) <;> intros)
      refine wo_app1 fo rfl rfl (by decide) (by decide) (by rw [List.length_map]; omega) fun s2 h2 f2=>?_
      (refine W_x trivial ?_; (repeat' first | apply Cj.mk | exact Nl.nl) <;> intros)
      obtain ⟨n',g1,i',R',sl',g2,g3,g4,g5,g6,rfl,rfl⟩:=hst _ 3 (by decide) (by omega) e s2 h2 _ f2 (by unfold rnV; congr 2; omega)
      exact ⟨n',g1,_,R',s2,g2,g3,g4,g5,g6,by simp only [Int.natCast_add]; rfl,rfl⟩
    · simp only [bat_drop,Nat.add_zero,q0,q1,q2,q3] at a b c1 c2 c3 r v e
      unfold RuneN at v
      have hv:runeI (((((x0:Int) - 240) * 64 + ((x1:Int) - 128)) * 64 + ((x2:Int) - 128)) * 64 + ((x3:Int) - 128)) = true:=by unfold runeI; exact decide_eq_true (by omega)
      (refine W_x (Aj hl.symm q0) ?_; (repeat' first | apply Cj.mk | exact Nl.nl) <;> intros)
      refine wp_unroll ?_
      (refine W_x (Aj hl.symm (Aj t1 q1)) ?_; (repeat' first | apply Cj.mk | exact Nl.nl) <;> intros)
      refine wp_unroll ?_
      (refine W_x (Aj hl.symm (Aj t2 q2)) ?_; (repeat' first | apply Cj.mk | exact Nl.nl) <;> intros)
      refine wp_unroll ?_
      (refine W_x (Aj hl.symm (Aj t3 q3)) ?_; (repeat' first | apply Cj.mk | exact Nl.nl) <;> intros)
      refine wp_unroll ?_
      (refine W_x (Aj hl.symm (Aj r6 hv)) ?_; (repeat' first | apply Cj.mk | exact Nl.nl) <;> intros)
      refine wo_app1 fo rfl rfl (by decide) (by decide) (by rw [List.length_map]; omega) fun s2 h2 f2=>?_
      (refine W_x trivial ?_; (repeat' first | apply Cj.mk | exact Nl.nl) <;> intros)
      obtain ⟨n',g1,i',R',sl',g2,g3,g4,g5,g6,rfl,rfl⟩:=hst _ 4 (by decide) (by omega) e s2 h2 _ f2 (by unfold rnV; congr 2; omega)
      exact ⟨n',g1,_,R',s2,g2,g3,g4,g5,g6,by simp only [Int.natCast_add]; rfl,rfl⟩
    · simp only [bat_drop,Nat.add_zero,q0,q1,q2,q3,dl] at hh g2 g3 g4
      unfold RuneN at g3 g4
      rw [e,Option.map_none] at hR
      have fo0:=FOwn.nil (e:=1) fo.kp
      rw [hR]
      by_cases c1:x0 < 192
      · (refine W_x (Aj hl.symm q0) ?_; (repeat' first | apply Cj.mk | exact Nl.nl) <;> intros)
        exact ⟨.nil,rfl,fo0⟩
      by_cases c2:x0 < 224
      · (refine W_x (Aj hl.symm q0) ?_; (repeat' first | apply Cj.mk | exact Nl.nl) <;> intros)
        refine wp_unroll ?_
        (refine W_x (Aj hl.symm (Aj t1 q1)) ?_; (repeat' first | apply Cj.mk | exact Nl.nl) <;> intros)
        · exact ⟨.nil,rfl,fo0⟩
        · exact ⟨.nil,rfl,fo0⟩
        · exact ⟨.nil,rfl,fo0⟩
        · refine wp_unroll ?_
          (refine W_x (Aj hl.symm r6) ?_; (repeat' first | apply Cj.mk | exact Nl.nl) <;> intros)
          exact ⟨.nil,rfl,fo0⟩
      by_cases c3:x0 < 240
      · (refine W_x (Aj hl.symm q0) ?_; (repeat' first | apply Cj.mk | exact Nl.nl) <;> intros)
        refine wp_unroll ?_
        (refine W_x (Aj hl.symm (Aj t1 q1)) ?_; (repeat' first | apply Cj.mk | exact Nl.nl) <;> intros)
        · exact ⟨.nil,rfl,fo0⟩
        · exact ⟨.nil,rfl,fo0⟩
        · exact ⟨.nil,rfl,fo0⟩
        · refine wp_unroll ?_
          (refine W_x (Aj hl.symm (Aj t2 q2)) ?_; (repeat' first | apply Cj.mk | exact Nl.nl) <;> intros)
          · exact ⟨.nil,rfl,fo0⟩
          · exact ⟨.nil,rfl,fo0⟩
          · exact ⟨.nil,rfl,fo0⟩
          · refine wp_unroll ?_
            (refine W_x (Aj hl.symm r6) ?_; (repeat' first | apply Cj.mk | exact Nl.nl) <;> intros)
            · exact ⟨.nil,rfl,fo0⟩
            · have hv:runeI ((((x0:Int) - 224) * 64 + ((x1:Int) - 128)) * 64 + ((x2:Int) - 128)) = false:=by unfold runeI; exact decide_eq_false (by omega)
              (refine W_x hv ?_; (repeat' first | apply Cj.mk | exact Nl.nl) <;> intros)
              exact ⟨.nil,rfl,fo0⟩
      by_cases c4:x0 < 248
      · (refine W_x (Aj hl.symm q0) ?_; (repeat' first | apply Cj.mk | exact Nl.nl) <;> intros)
        refine wp_unroll ?_
        (refine W_x (Aj hl.symm (Aj t1 q1)) ?_; (repeat' first | apply Cj.mk | exact Nl.nl) <;> intros)
        · exact ⟨.nil,rfl,fo0⟩
        · exact ⟨.nil,rfl,fo0⟩
        · exact ⟨.nil,rfl,fo0⟩
        · refine wp_unroll ?_
          (refine W_x (Aj hl.symm (Aj t2 q2)) ?_; (repeat' first | apply Cj.mk | exact Nl.nl) <;> intros)
          · exact ⟨.nil,rfl,fo0⟩
          · exact ⟨.nil,rfl,fo0⟩
          · exact ⟨.nil,rfl,fo0⟩
          · refine wp_unroll ?_
            (refine W_x (Aj hl.symm (Aj t3 q3)) ?_; (repeat' first | apply Cj.mk | exact Nl.nl) <;> intros)
            · exact ⟨.nil,rfl,fo0⟩
            · exact ⟨.nil,rfl,fo0⟩
            · exact ⟨.nil,rfl,fo0⟩
            · refine wp_unroll ?_
              (refine W_x (Aj hl.symm r6) ?_; (repeat' first | apply Cj.mk | exact Nl.nl) <;> intros)
              · exact ⟨.nil,rfl,fo0⟩
              · have hv:runeI (((((x0:Int) - 240) * 64 + ((x1:Int) - 128)) * 64 + ((x2:Int) - 128)) * 64 + ((x3:Int) - 128)) = false:=by unfold runeI; exact decide_eq_false (by omega)
                (refine W_x hv ?_; (repeat' first | apply Cj.mk | exact Nl.nl) <;> intros)
                exact ⟨.nil,rfl,fo0⟩
      · (refine W_x (Aj hl.symm q0) ?_; (repeat' first | apply Cj.mk | exact Nl.nl) <;> intros)
        exact ⟨.nil,rfl,fo0⟩
  · have hie:i = l.length:=by omega
    subst hie
    rw [List.drop_length,rnB_nil] at hR
    simp only [Option.map_some,List.append_nil] at hR
    (refine W_x trivial ?_; (repeat' first | apply Cj.mk | exact Nl.nl) <;> intros)
    rw [hR]
    exact ⟨sl,rfl,fo⟩
end Go.Proofs.YtakmapoompffgaaGreatDoor.AM
namespace Go.Proofs.YtakmapoompffgaaGreatDoor.AM
open Go
theorem span6_eq {s:Sl} {l:List Span} {h:AH} (rd:Reads h 2 s (l.map pairV)) (hl:l.length < 100000000) (i:Nat) (hi:i < l.length) :
    callO PX 141 [s.val 2,.int .i64 i] h = some (.int .i64 ((spanE l i l[i]).getD 0),h):=by
  have hs:=rd.len
  have e1:=rune6_eq
  have g0:=fun lc=>rd_mapc (lc:=lc) rd hi (k:=0) (by decide)
  have g1:=fun lc=>rd_mapc (lc:=lc) rd hi (k:=1) (by decide)
  have gp:0 < i→∀ lc,Mem.rd ⟨lc,h⟩ (ptrOff (s.adr 2 (i - 1)) 1) 1 = some [.int .i32 (l.getD (i - 1) (0,0)).2]:=fun h0 lc=>by
    have:=rd_mapc (lc:=lc) rd (i:=i - 1) (by omega) (k:=1) (by decide)
    rw [this,List.getD_eq_getElem?_getD,List.getElem?_eq_getElem (by omega:i - 1 < l.length),Option.getD_some]
    rfl
  have t1:((i:Int) - 1).toNat = i - 1:=by omega
  apply WpC.eqn
  refine wpc_fn (px_ext rfl) (px_fn fn_guiseref6_span) rfl ?_
  unfold LF_guiseref6_span
  simp only [argFr]
  unfold spanE
  generalize l.getD (i - 1) (0,0) = y at gp
  generalize l[i] = x at g0 g1
  unfold pairV at g0 g1
  have e2:=e1 x.1
  have e3:=e1 x.2
  generalize runeI x.1 = b1 at e2
  generalize runeI x.2 = b2 at e3
  cases b1
  · (refine W_x (Aj hs (Aj g0 e2)) ?_; (repeat' first | apply Cj.mk | exact Nl.nl) <;> intros)
    rw [if_pos (.inl rfl)]
    exact ⟨rfl,rfl⟩
  cases b2
  · (refine W_x (Aj hs (Aj g0 (Aj g1 (Aj e2 e3)))) ?_; (repeat' first | apply Cj.mk | exact Nl.nl) <;> intros)
    rw [if_pos (.inr rfl)]
    exact ⟨rfl,rfl⟩
  rw [if_neg (by simp)]
  by_cases h0:0 < i
  · have gp:=gp h0
    (refine W_x (Aj hs (Aj g0 (Aj g1 (Aj e2 (Aj e3 (Aj gp t1)))))) ?_; (repeat' first | apply Cj.mk | exact Nl.nl) <;> intros)
    · rw [if_pos (by omega)]; exact ⟨rfl,rfl⟩
    · rw [if_neg (by omega),if_pos (by omega)]; exact ⟨rfl,rfl⟩
    · rw [if_neg (by omega),if_neg (by omega)]; exact ⟨rfl,rfl⟩
  · (refine W_x (Aj hs (Aj g0 (Aj g1 (Aj e2 e3)))) ?_; (repeat' first | apply Cj.mk | exact Nl.nl) <;> intros)
    · rw [if_pos (by omega)]; exact ⟨rfl,rfl⟩
    · rw [if_neg (by omega),if_neg (by omega)]; exact ⟨rfl,rfl⟩
theorem spanE_pos {l:List Span} {i:Nat} {x:Span} {e:Int} (h:spanE l i x = some e):e≠0:=by
  unfold spanE at h
  repeat' split at h
  all_goals first | (injection h with h; omega) | cases h
theorem spans6_eq {s:Sl} {l:List Span} {h:AH} (rd:Reads h 2 s (l.map pairV)) (hl:l.length < 100000000) (n:Int) :
    callO PX 116 [s.val 2,.int .i64 n] h = some (wrV (spansW l n),h):=by
  have hs:=rd.len
  have e1:=span6_eq rd hl
  apply WpC.eqn
  refine wpc_fn (px_ext rfl) (px_fn fn_guiseref6_spans) rfl ?_
  unfold LF_guiseref6_spans
  simp only [argFr]
  unfold spansW spansE
  (refine W_x trivial ?_; (repeat' first | apply Cj.mk | exact Nl.nl) <;> intros)
  refine wp_scanF 5 l (fun i x=>(spanE l i x).map fun e=>(e,i)) (by intro n; simp only [setF,push_cast,Nat.reduceEqDiff, ↓reduceIte,reduceCtorEq,Nat.reduceAdd,Nat.reduceMul,Nat.reduceLeDiff]; rfl) rfl (fun i hi hit=>?_) fun fin=>?_
  · have e2:=e1 i hi
    have hp:=fun e=>spanE_pos (l:=l) (i:=i) (x:=l[i]) (e:=e)
    generalize spanE l i l[i] = o at e2 hit hp
    cases o with
    | none =>
      simp only [Option.getD_none] at e2
      (refine W_x (Aj hs e2) ?_; (repeat' first | apply Cj.mk | exact Nl.nl) <;> intros)
      exact ⟨rfl,rfl,rfl,rfl⟩
    | some e =>
      have:=hp e rfl
      simp only [Option.getD_some] at e2
      rw [hit (e,i) rfl]
      (refine W_x (Aj hs e2) ?_; (repeat' first | apply Cj.mk | exact Nl.nl) <;> intros)
      exact ⟨rfl,rfl⟩
  · rw [fin]
    (refine W_x hs ?_; (repeat' first | apply Cj.mk | exact Nl.nl) <;> intros)
    exact ⟨rfl,rfl⟩
theorem script6_eq {z:Scr × Sl} {h:AH} (rd:Reads h 2 z.2 (z.1.2.map pairV)) (hl:z.1.2.length < 100000000) (hsz:z.1.1.size < 100000000) :
    callO PX 115 [.agg (scrV z).toArray] h = some (.int .i64 ((scrE z.1).getD 0),h):=by
  have e1:=fun h=>name6_eq z.1.1 h hsz
  have e2:=spans6_eq rd hl 1
  apply WpC.eqn
  refine wpc_fn (px_ext rfl) (px_fn fn_guiseref6_script) rfl ?_
  unfold LF_guiseref6_script
  simp only [argFr]
  unfold scrE scrV
  unfold spansW at e2
  generalize nameB z.1.1.data.toList = b at e1
  cases b
  · (refine W_x e1 ?_; (repeat' first | apply Cj.mk | exact Nl.nl) <;> intros)
    exact ⟨rfl,rfl⟩
  · rw [if_neg (by simp)]
    cases hs:spansE z.1.2 with
    | none =>
      rw [hs] at e2
      simp only [Option.map_none,wrV] at e2
      (refine W_x (Aj e1 e2) ?_; (repeat' first | apply Cj.mk | exact Nl.nl) <;> intros)
      exact ⟨rfl,rfl⟩
    | some e =>
      rw [hs] at e2
      simp only [Option.map_some,wrV] at e2
      (refine W_x (Aj e1 e2) ?_; (repeat' first | apply Cj.mk | exact Nl.nl) <;> intros)
      exact ⟨rfl,rfl⟩
theorem maps6_spec {s:Sl} {l:List (Int × ByteArray)} {h:AH} (rd:Reads h 2 s (l.map mapV)) (hl:l.length < 100000000) (hz:∀ y∈l,r32 y.1∧y.2.size < 100000000) (n:Int) :
    WpC PX 118 [s.val 2,.int .i64 n] h fun v h'=>v = wrV (mapsW l n)∧Kp h h':=by
  have hs:=rd.len
  have e1:=rune6_eq
  refine wpc_fn (px_ext rfl) (px_fn fn_guiseref6_maps) rfl ?_
  unfold LF_guiseref6_maps
  simp only [argFr]
  unfold mapsW
  (refine W_x trivial ?_; (repeat' first | apply Cj.mk | exact Nl.nl) <;> intros)
  refine wp_scanH (Kp h) 5 l (fun i x=>if runeI x.1 = false then W 12 n i else if toBad x.2 then W 35 n i else none) (by intro n; simp only [setF,push_cast,Nat.reduceEqDiff, ↓reduceIte,reduceCtorEq,Nat.reduceAdd,Nat.reduceMul,Nat.reduceLeDiff]; rfl) rfl (Kp.refl h) (fun i hi h1 kp hit=>?_) fun h1 kp fin=>?_
  · have hs1:=hs
    have g0:=fun lc=>rd_mapc (lc:=lc) (rd.kp kp) hi (k:=0) (by decide)
    have g1:=fun lc=>rd_mapc (lc:=lc) (rd.kp kp) hi (k:=1) (by decide)
    have hx:=hz l[i] (List.getElem_mem hi)
    generalize l[i] = x at g0 g1 hit hx
    unfold mapV at g0 g1
    have e2:=e1 x.1
    generalize runeI x.1 = b1 at e2 hit
    cases b1
    · rw [hit _ (if_pos rfl)]
      (refine W_x (Aj hs (Aj g0 e2)) ?_; (repeat' first | apply Cj.mk | exact Nl.nl) <;> intros)
      exact ⟨rfl,kp⟩
    · obtain ⟨v,h2,e3,sr,rfl,fo⟩:=runes6_spec x.2 h1 hx.2
      have hsr:sr.len = ((rnO x.2).getD []).length:=by rw [fo.own.1,List.length_map]
      have hlr:((rnO x.2).getD []).length≤x.2.size:=by
        unfold rnO
        split
        · exact (List.length_map ..).symm ▸ spots_len _
        · exact Nat.zero_le _
      have hb:toBad x.2↔rnO x.2 = none∨((rnO x.2).getD []).length < 1∨4 < ((rnO x.2).getD []).length:=by
        unfold toBad rnO
        cases validB x.2.data.toList <;> simp
      simp only [Bool.true_eq_false,if_false] at hit ⊢
      cases ho:rnO x.2 with
      | none =>
        rw [ho] at e3 hb
        simp only [Option.isSome_none] at e3
        rw [hit _ (if_pos (hb.2 (.inl rfl)))]
        (refine W_x (Aj hs (Aj g0 (Aj g1 (Aj e2 e3)))) ?_; (repeat' first | apply Cj.mk | exact Nl.nl) <;> intros)
        exact ⟨rfl,kp.trans fo.kp⟩
      | some R =>
        rw [ho] at e3 hb hsr hlr
        simp only [Option.isSome_some,Option.getD_some] at e3 hsr hlr hb
        (refine W_x (Aj hs (Aj g0 (Aj g1 (Aj e2 (Aj e3 hsr))))) ?_; (repeat' first | apply Cj.mk | exact Nl.nl) <;> intros)
        · rw [hit _ (if_pos (hb.2 (.inr (.inl (by omega)))))]
          exact ⟨rfl,kp.trans fo.kp⟩
        · rw [hit _ (if_pos (hb.2 (.inr (.inr (by omega)))))]
          exact ⟨rfl,kp.trans fo.kp⟩
        · exact ⟨if_neg (fun q=>by rcases hb.1 q with h | h | h; cases h; omega; omega),rfl,rfl,kp.trans fo.kp⟩
  · rw [fin]
    (refine W_x hs ?_; (repeat' first | apply Cj.mk | exact Nl.nl) <;> intros)
    exact ⟨rfl,kp⟩
theorem sets6_spec (x:ByteArray) (h:AH) (hz:x.size < 100000000):WpC PX 143 [.string x] h fun v h'=>v = .bool (setsB x)∧Kp h h':=by
  obtain ⟨v,h2,e3,sr,rfl,fo⟩:=runes6_spec x h hz
  have e4:=set6_eq
  refine wpc_fn (px_ext rfl) (px_fn fn_guiseref6_sets) rfl ?_
  unfold LF_guiseref6_sets
  simp only [argFr]
  have hlr:((rnO x).getD []).length≤x.size:=by
    unfold rnO
    split
    · exact (List.length_map ..).symm ▸ spots_len _
    · exact Nat.zero_le _
  unfold setsB
  generalize (rnO x).getD [] = R at fo hlr
  have hs:=fo.reads.len
  have ha:=any_scan (l:=R) (P:=fun c=>setI (c:Nat) = true)
  simp only [Bool.decide_eq_true] at ha
  rw [ha]
  (refine W_x e3 ?_; (repeat' first | apply Cj.mk | exact Nl.nl) <;> intros)
  refine wp_scanF 5 R (fun _ c=>if setI (c:Nat) = true then some () else none) (by intro n; simp only [setF,push_cast,Nat.reduceEqDiff, ↓reduceIte,reduceCtorEq,Nat.reduceAdd,Nat.reduceMul,Nat.reduceLeDiff]; rfl) rfl (fun i hi hit=>?_) fun fin=>?_
  · have g0:=fun lc=>rd_map (lc:=lc) fo.reads hi
    generalize R[i] = c at g0 hit
    unfold rnV at g0
    have e5:=e4 (c:Nat)
    generalize setI (c:Nat) = b at e5 hit
    cases b
    · (refine W_x (Aj hs (Aj g0 e5)) ?_; (repeat' first | apply Cj.mk | exact Nl.nl) <;> intros)
      exact ⟨rfl,rfl,rfl,rfl⟩
    · rw [hit () rfl]
      (refine W_x (Aj hs (Aj g0 e5)) ?_; (repeat' first | apply Cj.mk | exact Nl.nl) <;> intros)
      exact ⟨rfl,fo.kp⟩
  · rw [fin]
    (refine W_x hs ?_; (repeat' first | apply Cj.mk | exact Nl.nl) <;> intros)
    exact ⟨rfl,fo.kp⟩
end Go.Proofs.YtakmapoompffgaaGreatDoor.AM
namespace Go.Proofs.YtakmapoompffgaaGreatDoor.AM
open Go
theorem long6_spec {S:TS} {T:Tab} {h:AH} (t:TabAt h S T):WpC PX 66 [.agg S.vs.toArray] h fun v h'=>v = wrV (longW T)∧Kp h h':=by
  have f:=t.fits
  have n0:=f.n0
  have hz:=f.n0s
  rw [← t.zs] at hz n0
  rw [List.length_map] at n0
  have s0:=t.r0.len
  have s1:=t.r1.len; have n1:=f.n1
  have s2:=t.r2.len; have n2:=f.n2
  have s3:=t.r3.len; have n3:=f.n3
  have s4:=t.r4.len; have n4:=f.n4
  have s5:=t.r5.len; have n5:=f.n5
  have s6:=t.r6.len; have n6:=f.n6
  have s7:=t.r7.len; have n7:=f.n7
  refine wpc_fn (px_ext rfl) (px_fn fn_guiseref6_long) rfl ?_
  unfold LF_guiseref6_long
  simp only [argFr]
  unfold longW TS.vs
  rw [← t.zs,scanL_map,List.length_map]
  (refine W_x s0 ?_; (repeat' first | apply Cj.mk | exact Nl.nl) <;> intros)
  · rw [if_pos (by omega)]
    exact ⟨rfl,Kp.refl h⟩
  rw [if_neg (by omega)]
  refine wp_scanF 3 S.z (fun i z=>if 1024 < z.1.2.length then W 4 1 i else none) (by intro n; simp only [setF,push_cast,Nat.reduceEqDiff, ↓reduceIte,reduceCtorEq,Nat.reduceAdd,Nat.reduceMul,Nat.reduceLeDiff]; rfl) rfl (fun i hi hit=>?_) fun fin=>?_
  · have g1:=fun lc=>rd_mapc (lc:=lc) t.r0 hi (k:=1) (by decide)
    have hm:=List.getElem_mem hi
    have sz:=(t.rz _ hm).len
    have nz:=(hz _ (List.mem_map_of_mem hm)).1
    generalize S.z[i] = z at g1 hit sz nz
    unfold scrV at g1
    (refine W_x (Aj s0 (Aj g1 sz)) ?_; (repeat' first | apply Cj.mk | exact Nl.nl) <;> intros)
    · rw [hit _ (if_pos (by omega))]
      exact ⟨rfl,Kp.refl h⟩
    · exact ⟨if_neg (by omega),rfl,rfl,rfl⟩
  · rw [fin,Option.none_or]
    have hk:Kp h ((h.push (.cells false [.int .i64 T.common.length,.int .i64 T.marks.length,.int .i64 T.pairs.length,.int .i64 T.folds.length,.int .i64 T.looks.length,.int .i64 T.drops.length,.int .i64 T.allowed.length])).push
      (.cells false [.int .i64 1024,.int .i64 512,.int .i64 4096,.int .i64 4096,.int .i64 4096,.int .i64 1024,.int .i64 1024])):=((Kp.refl h).push _).push _
    (refine W_x (Aj s0 (Aj s1 (Aj s2 (Aj s3 (Aj s4 (Aj s5 (Aj s6 s7))))))) ?_; (repeat' first | apply Cj.mk | exact Nl.nl) <;> intros)
    refine wp_unroll ?_
    (refine W_x trivial ?_; (repeat' first | apply Cj.mk | exact Nl.nl) <;> intros)
    · exact ⟨by simp (disch:=omega) only [if_pos,if_neg]; rfl,hk⟩
    refine wp_unroll ?_
    (refine W_x trivial ?_; (repeat' first | apply Cj.mk | exact Nl.nl) <;> intros)
    · exact ⟨by simp (disch:=omega) only [if_pos,if_neg]; rfl,hk⟩
    refine wp_unroll ?_
    (refine W_x trivial ?_; (repeat' first | apply Cj.mk | exact Nl.nl) <;> intros)
    · exact ⟨by simp (disch:=omega) only [if_pos,if_neg]; rfl,hk⟩
    refine wp_unroll ?_
    (refine W_x trivial ?_; (repeat' first | apply Cj.mk | exact Nl.nl) <;> intros)
    · exact ⟨by simp (disch:=omega) only [if_pos,if_neg]; rfl,hk⟩
    refine wp_unroll ?_
    (refine W_x trivial ?_; (repeat' first | apply Cj.mk | exact Nl.nl) <;> intros)
    · exact ⟨by simp (disch:=omega) only [if_pos,if_neg]; rfl,hk⟩
    refine wp_unroll ?_
    (refine W_x trivial ?_; (repeat' first | apply Cj.mk | exact Nl.nl) <;> intros)
    · exact ⟨by simp (disch:=omega) only [if_pos,if_neg]; rfl,hk⟩
    refine wp_unroll ?_
    (refine W_x trivial ?_; (repeat' first | apply Cj.mk | exact Nl.nl) <;> intros)
    · exact ⟨by simp (disch:=omega) only [if_pos,if_neg]; rfl,hk⟩
    refine wp_unroll ?_
    (refine W_x trivial ?_; (repeat' first | apply Cj.mk | exact Nl.nl) <;> intros)
    exact ⟨by simp (disch:=omega) only [if_pos,if_neg]; rfl,hk⟩
end Go.Proofs.YtakmapoompffgaaGreatDoor.AM
