/- The lifted code of guiseref17, guiseref1 (printed by lits.py). -/
import Derived.Test.YtmfpkgcphlilmaaUtfL
set_option linter.unusedVariables false
namespace Go.Proofs.Ytmfpkgcphlilmaa.AM
open Go
def LF_guiseref17_Encode : LFunc :=
  .mk 2 [.tmp 4, .tmp 5] (.seq (.region [.mk (some 2) (.e (.boxL 2 7 (.s 0))) none, .mk (some 4) (.p (.mv (.c (.string ⟨#[]⟩)))) none, .mk (some 5) (.p (.mv (.c (.int .i64 0))))
  none] [1, 2] []) (.seq (.seq (.region [.mk (some 21) (.r (.load (some 7) (.s 2))) none, .mk (some 22) (.e (.call 18 [.s 21])) none, .mk (some 23) (.p (.un .not
  (.s 22))) none] [1, 2, 23] []) (.cond (.s 23) (.seq (.region [.mk (some 4) (.p (.mv (.c (.string ⟨#[]⟩)))) none, .mk (some 5) (.p (.mv (.c (.int .i64 1)))) none] [4, 5] []) .ret)
  .skip)) (.seq (.seq (.region [.mk (some 24) (.p (.mv (.s 1))) none, .mk (some 25) (.p (.slen (.s 24))) none, .mk (some 26) (.p (.bin .gtr (.s 25) (.c (.int .i64 65536)))) none]
  [1, 2, 26] []) (.cond (.s 26) (.seq (.region [.mk (some 4) (.p (.mv (.c (.string ⟨#[]⟩)))) none, .mk (some 5) (.p (.mv (.c (.int .i64 3)))) none] [4, 5] []) .ret) .skip)) (.seq
  (.region [.mk (some 27) (.p (.mv (.s 1))) none, .mk (some 28) (.e (.call 43 [.s 27])) none, .mk (some 6) (.p (.mv (.s 28))) none] [2, 6] []) (.seq (.region [.mk
  (some 7) (.p (.mv (.c (.slice none 0 0)))) none] [2, 6, 7] []) (.seq (.seq (.region [.mk (some 8) (.p (.mv (.c (.int .i64 0)))) none] [2, 6, 7, 8] []) (.block 0 (.loop (.seq (.seq
  (.region [.mk (some 29) (.p (.mv (.s 8))) none, .mk (some 30) (.p (.mv (.s 6))) none, .mk (some 31) (.p (.len (.s 30))) none, .mk (some 32) (.p (.bin .lss (.s 29) (.s 31))) none]
  [2, 6, 7, 8, 32] []) (.cond (.s 32) .skip (.exit 0))) (.seq (.block 1 (.block 2 (.seq (.region [.mk (some 36) (.p (.mv (.s 8))) none, .mk (some 37) (.p (.bin .eql (.s 36) (.c
  (.int .i64 4096)))) none, .mk (some 35) (.p (.mv (.s 37))) none] [2, 6, 7, 8, 35] []) (.cond (.s 35) (.seq (.region [.mk (some 4) (.p (.mv (.c (.string ⟨#[]⟩)))) none, .mk (some
  5) (.p (.mv (.c (.int .i64 4)))) none] [4, 5] []) .ret) (.seq (.region [.mk (some 39) (.p (.mv (.s 6))) none, .mk (some 40) (.p (.mv (.s 8))) none, .mk (some 41) (.p (.iaddr 4 (.s
  39) (.s 40))) none, .mk (some 42) (.p (.faddr 3 (.s 41))) none, .mk (some 43) (.r (.load none (.s 42))) none, .mk (some 38) (.p (.mv (.s 43))) none] [2, 6, 7, 8, 38] []) (.cond
  (.s 38) (.seq (.region [.mk (some 4) (.p (.mv (.c (.string ⟨#[]⟩)))) none, .mk (some 5) (.p (.mv (.c (.int .i64 10)))) none] [4, 5] []) .ret) (.seq (.region [.mk (some 45) (.p
  (.mv (.s 6))) none, .mk (some 46) (.p (.mv (.s 8))) none, .mk (some 47) (.p (.iaddr 4 (.s 45) (.s 46))) none, .mk (some 48) (.p (.faddr 0 (.s 47))) none, .mk (some 49) (.r (.load
  none (.s 48))) none, .mk (some 50) (.p (.faddr 6 (.s 2))) none, .mk (some 51) (.r (.load none (.s 50))) none, .mk (some 52) (.p (.bin .geq (.s 49) (.s 51))) none, .mk (some 44)
  (.p (.mv (.s 52))) none] [2, 6, 7, 8, 44] []) (.cond (.s 44) .skip (.seq (.region [.mk (some 54) (.p (.mv (.s 6))) none, .mk (some 55) (.p (.mv (.s 8))) none, .mk (some 56) (.p
  (.iaddr 4 (.s 54) (.s 55))) none, .mk (some 57) (.p (.faddr 0 (.s 56))) none, .mk (some 58) (.r (.load none (.s 57))) none, .mk (some 59) (.e (.call 44 [.s 58]))
  none, .mk (some 53) (.p (.mv (.s 59))) none] [2, 6, 7, 8, 53] []) (.cond (.s 53) (.region [.mk (some 60) (.p (.mv (.s 7))) none, .mk (some 61) (.p (.mv (.s 6))) none, .mk (some
  62) (.p (.mv (.s 8))) none, .mk (some 63) (.p (.iaddr 4 (.s 61) (.s 62))) none, .mk (some 64) (.p (.faddr 0 (.s 63))) none, .mk (some 65) (.r (.load none (.s 64))) none, .mk (some
  66) (.p (.conv .u8 (.s 65))) none, .mk (some 67) (.e (.litL 67 1 1 [.int .u8 0] [(0, 1, .s 66)])) none, .mk (some 68) (.e (.append 1 1 (.s 60) (.s 67))) none, .mk (some 7) (.p
  (.mv (.s 68))) none] [2, 6, 7, 8] []) (.seq (.region [.mk (some 4) (.p (.mv (.c (.string ⟨#[]⟩)))) none, .mk (some 5) (.p (.mv (.c (.int .i64 50)))) none] [4, 5] [])
  .ret))))))))))) (.region [.mk (some 33) (.p (.mv (.s 8))) none, .mk (some 34) (.p (.bin .add (.s 33) (.c (.int .i64 1)))) none, .mk (some 8) (.p (.mv (.s 34))) none] [2, 6, 7, 8]
  [])))))) (.seq (.region [.mk (some 69) (.p (.mv (.s 6))) none, .mk (some 70) (.p (.len (.s 69))) none, .mk (some 71) (.e (.mks 1 1 [.bool false] (.s 70) (.s 70))) none, .mk (some
  9) (.p (.mv (.s 71))) none] [2, 6, 7, 9] []) (.seq (.region [.mk (some 72) (.p (.mv (.s 7))) none, .mk (some 73) (.p (.len (.s 72))) none, .mk (some 10) (.p (.mv (.s 73))) none]
  [2, 6, 7, 9, 10] []) (.seq (.seq (.region [.mk (some 11) (.p (.mv (.c (.int .i64 0)))) none] [2, 6, 7, 9, 10, 11] []) (.block 3 (.loop (.seq (.seq (.region [.mk (some 74) (.p (.mv
  (.s 11))) none, .mk (some 75) (.p (.mv (.s 6))) none, .mk (some 76) (.p (.len (.s 75))) none, .mk (some 77) (.p (.bin .lss (.s 74) (.s 76))) none] [2, 6, 7, 9, 10, 11, 77] [])
  (.cond (.s 77) .skip (.exit 3))) (.seq (.block 4 (.region [.mk (some 80) (.p (.mv (.s 9))) none, .mk (some 81) (.p (.mv (.s 11))) none, .mk (some 82) (.p (.mv (.s 6))) none, .mk
  (some 83) (.p (.mv (.s 11))) none, .mk (some 84) (.p (.iaddr 4 (.s 82) (.s 83))) none, .mk (some 85) (.p (.faddr 0 (.s 84))) none, .mk (some 86) (.r (.load none (.s 85))) none,
  .mk (some 87) (.p (.faddr 6 (.s 2))) none, .mk (some 88) (.r (.load none (.s 87))) none, .mk (some 89) (.p (.bin .lss (.s 86) (.s 88))) none, .mk (some 90) (.p (.iaddr 1 (.s 80)
  (.s 81))) none, .mk none (.e (.store 1 (.s 90) (.s 89))) none] [2, 6, 7, 9, 10, 11] [])) (.region [.mk (some 78) (.p (.mv (.s 11))) none, .mk (some 79) (.p (.bin .add (.s 78) (.c
  (.int .i64 1)))) none, .mk (some 11) (.p (.mv (.s 79))) none] [2, 6, 7, 9, 10, 11] [])))))) (.seq (.seq (.region [.mk (some 91) (.p (.mv (.s 10))) none, .mk (some 92) (.p (.bin
  .gtr (.s 91) (.c (.int .i64 0)))) none] [2, 6, 7, 9, 10, 92] []) (.cond (.s 92) (.region [.mk (some 93) (.p (.mv (.s 7))) none, .mk (some 94) (.e (.litL 94 1 1 [.int .u8 0] [(0,
  1, .c (.int .u8 45))])) none, .mk (some 95) (.e (.append 1 1 (.s 93) (.s 94))) none, .mk (some 7) (.p (.mv (.s 95))) none] [2, 6, 7, 9, 10] []) .skip)) (.seq (.region [.mk (some
  96) (.p (.faddr 5 (.s 2))) none, .mk (some 97) (.r (.load none (.s 96))) none, .mk (some 12) (.p (.mv (.s 97))) none] [2, 6, 7, 9, 10, 12] []) (.seq (.region [.mk (some 98) (.p
  (.faddr 6 (.s 2))) none, .mk (some 99) (.r (.load none (.s 98))) none, .mk (some 13) (.p (.mv (.s 99))) none] [2, 6, 7, 9, 10, 12, 13] []) (.seq (.region [.mk (some 14) (.p (.mv
  (.c (.int .i64 (-1))))) none] [2, 6, 7, 9, 10, 12, 13, 14] []) (.seq (.region [.mk (some 15) (.p (.mv (.c (.bool true)))) none] [2, 6, 7, 9, 10, 12, 13, 14, 15] []) (.seq (.block
  5 (.loop (.block 6 (.seq (.region [.mk (some 16) (.p (.mv (.c (.int .i64 (-1))))) none] [2, 6, 7, 9, 10, 12, 13, 14, 15, 16] []) (.seq (.seq (.region [.mk (some 17) (.p (.mv (.c
  (.int .i64 0)))) none] [2, 6, 7, 9, 10, 12, 13, 14, 15, 16, 17] []) (.block 7 (.loop (.seq (.seq (.region [.mk (some 100) (.p (.mv (.s 17))) none, .mk (some 101) (.p (.mv (.s 6)))
  none, .mk (some 102) (.p (.len (.s 101))) none, .mk (some 103) (.p (.bin .lss (.s 100) (.s 102))) none] [2, 6, 7, 9, 10, 12, 13, 14, 15, 16, 17, 103] []) (.cond (.s 103) .skip
  (.exit 7))) (.seq (.block 8 (.seq (.region [.mk (some 106) (.p (.mv (.s 9))) none, .mk (some 107) (.p (.mv (.s 17))) none, .mk (some 108) (.p (.iaddr 1 (.s 106) (.s 107))) none,
  .mk (some 109) (.r (.load none (.s 108))) none, .mk (some 110) (.p (.un .not (.s 109))) none, .mk (some 111) (.p (.mv (.s 110))) none, .mk (some 112) (.p (.mv (.s 16))) (some
  (111, true)), .mk (some 113) (.p (.bin .lss (.s 112) (.c (.int .i64 0)))) (some (111, true)), .mk (some 114) (.p (.mv (.s 113))) (some (111, true)), .mk (some 115) (.p (.mv (.s
  6))) (some (114, false)), .mk (some 116) (.p (.mv (.s 17))) (some (114, false)), .mk (some 117) (.p (.iaddr 4 (.s 115) (.s 116))) (some (114, false)), .mk (some 118) (.p (.faddr 0
  (.s 117))) (some (114, false)), .mk (some 119) (.r (.load none (.s 118))) (some (114, false)), .mk (some 120) (.p (.mv (.s 6))) (some (114, false)), .mk (some 121) (.p (.mv (.s
  16))) (some (114, false)), .mk (some 122) (.p (.iaddr 4 (.s 120) (.s 121))) (some (114, false)), .mk (some 123) (.p (.faddr 0 (.s 122))) (some (114, false)), .mk (some 124) (.r
  (.load none (.s 123))) (some (114, false)), .mk (some 125) (.p (.bin .lss (.s 119) (.s 124))) (some (114, false)), .mk (some 126) (.p (.pick (.s 114) (.c (.bool true)) (.s 125)))
  (some (111, true)), .mk (some 127) (.p (.pick (.s 111) (.s 126) (.c (.bool false)))) none] [2, 6, 7, 9, 10, 12, 13, 14, 15, 16, 17, 127] []) (.cond (.s 127) (.region [.mk (some
  128) (.p (.mv (.s 17))) none, .mk (some 16) (.p (.mv (.s 128))) none] [2, 6, 7, 9, 10, 12, 13, 14, 15, 16, 17] []) .skip))) (.region [.mk (some 104) (.p (.mv (.s 17))) none, .mk
  (some 105) (.p (.bin .add (.s 104) (.c (.int .i64 1)))) none, .mk (some 17) (.p (.mv (.s 105))) none] [2, 6, 7, 9, 10, 12, 13, 14, 15, 16, 17] [])))))) (.seq (.seq (.region [.mk
  (some 129) (.p (.mv (.s 16))) none, .mk (some 130) (.p (.bin .lss (.s 129) (.c (.int .i64 0)))) none] [2, 6, 7, 9, 10, 12, 13, 14, 15, 16, 130] []) (.cond (.s 130) (.exit 5)
  .skip)) (.seq (.region [.mk (some 18) (.p (.mv (.c (.int .i64 0)))) none] [2, 6, 7, 9, 10, 12, 13, 14, 15, 16, 18] []) (.seq (.seq (.region [.mk (some 19) (.p (.mv (.c (.int .i64
  0)))) none] [2, 6, 7, 9, 10, 12, 13, 14, 15, 16, 18, 19] []) (.block 9 (.loop (.seq (.seq (.region [.mk (some 131) (.p (.mv (.s 19))) none, .mk (some 132) (.p (.mv (.s 16))) none,
  .mk (some 133) (.p (.bin .lss (.s 131) (.s 132))) none] [2, 6, 7, 9, 10, 12, 13, 14, 15, 16, 18, 19, 133] []) (.cond (.s 133) .skip (.exit 9))) (.seq (.block 10 (.seq (.region
  [.mk (some 136) (.p (.mv (.s 9))) none, .mk (some 137) (.p (.mv (.s 19))) none, .mk (some 138) (.p (.iaddr 1 (.s 136) (.s 137))) none, .mk (some 139) (.r (.load none (.s 138)))
  none] [2, 6, 7, 9, 10, 12, 13, 14, 15, 16, 18, 19, 139] []) (.cond (.s 139) (.region [.mk (some 140) (.p (.mv (.s 18))) none, .mk (some 141) (.p (.bin .add (.s 140) (.c (.int .i64
  1)))) none, .mk (some 18) (.p (.mv (.s 141))) none] [2, 6, 7, 9, 10, 12, 13, 14, 15, 16, 18, 19] []) .skip))) (.region [.mk (some 134) (.p (.mv (.s 19))) none, .mk (some 135) (.p
  (.bin .add (.s 134) (.c (.int .i64 1)))) none, .mk (some 19) (.p (.mv (.s 135))) none] [2, 6, 7, 9, 10, 12, 13, 14, 15, 16, 18, 19] [])))))) (.seq (.region [.mk (some 142) (.p
  (.mv (.s 6))) none, .mk (some 143) (.p (.mv (.s 16))) none, .mk (some 144) (.p (.iaddr 4 (.s 142) (.s 143))) none, .mk (some 145) (.p (.faddr 0 (.s 144))) none, .mk (some 146) (.r
  (.load none (.s 145))) none, .mk (some 147) (.p (.mv (.s 13))) none, .mk (some 148) (.p (.bin .sub (.s 146) (.s 147))) none, .mk (some 149) (.p (.conv .i64 (.s 148))) none, .mk
  (some 150) (.p (.mv (.s 10))) none, .mk (some 151) (.p (.bin .add (.s 150) (.c (.int .i64 1)))) none, .mk (some 152) (.p (.bin .mul (.s 149) (.s 151))) none, .mk (some 153) (.p
  (.mv (.s 18))) none, .mk (some 154) (.p (.bin .add (.s 152) (.s 153))) none, .mk (some 155) (.p (.mv (.s 14))) none, .mk (some 156) (.p (.bin .sub (.s 154) (.s 155))) none, .mk
  (some 157) (.p (.bin .sub (.s 156) (.c (.int .i64 1)))) none, .mk (some 20) (.p (.mv (.s 157))) none] [2, 6, 7, 9, 10, 12, 15, 16, 18, 20] []) (.seq (.region [.mk (some 158) (.p
  (.mv (.s 7))) none, .mk (some 159) (.r (.load (some 7) (.s 2))) none, .mk (some 160) (.p (.mv (.s 12))) none, .mk (some 161) (.p (.mv (.s 20))) none, .mk (some 162) (.e (.call
  45 [.s 159, .s 160, .s 161])) none, .mk (some 163) (.e (.append 1 1 (.s 158) (.s 162))) none, .mk (some 7) (.p (.mv (.s 163))) none] [2, 6, 7, 9, 10, 15, 16,
  18, 20] []) (.seq (.region [.mk (some 164) (.p (.mv (.s 10))) none, .mk (some 165) (.p (.bin .add (.s 164) (.c (.int .i64 1)))) none, .mk (some 10) (.p (.mv (.s 165))) none] [2,
  6, 7, 9, 10, 15, 16, 18, 20] []) (.seq (.region [.mk (some 166) (.p (.mv (.s 9))) none, .mk (some 167) (.p (.mv (.s 16))) none, .mk (some 168) (.p (.iaddr 1 (.s 166) (.s 167)))
  none, .mk none (.e (.store 1 (.s 168) (.c (.bool true)))) none] [2, 6, 7, 9, 10, 15, 16, 18, 20] []) (.seq (.region [.mk (some 169) (.r (.load (some 7) (.s 2))) none, .mk (some
  170) (.p (.mv (.s 20))) none, .mk (some 171) (.p (.mv (.s 10))) none, .mk (some 172) (.p (.mv (.s 15))) none, .mk (some 173) (.e (.call 46 [.s 169, .s 170, .s
  171, .s 172])) none, .mk (some 12) (.p (.mv (.s 173))) none] [2, 6, 7, 9, 10, 12, 16, 18] []) (.seq (.region [.mk (some 15) (.p (.mv (.c (.bool false)))) none] [2, 6, 7, 9, 10,
  12, 15, 16, 18] []) (.seq (.region [.mk (some 174) (.p (.mv (.s 6))) none, .mk (some 175) (.p (.mv (.s 16))) none, .mk (some 176) (.p (.iaddr 4 (.s 174) (.s 175))) none, .mk (some
  177) (.p (.faddr 0 (.s 176))) none, .mk (some 178) (.r (.load none (.s 177))) none, .mk (some 13) (.p (.mv (.s 178))) none] [2, 6, 7, 9, 10, 12, 13, 15, 18] []) (.region [.mk
  (some 179) (.p (.mv (.s 18))) none, .mk (some 14) (.p (.mv (.s 179))) none] [2, 6, 7, 9, 10, 12, 13, 14, 15] [])))))))))))))))) (.seq (.seq (.region [.mk (some 180) (.p (.mv (.s
  7))) none, .mk (some 181) (.p (.len (.s 180))) none, .mk (some 182) (.p (.bin .gtr (.s 181) (.c (.int .i64 65536)))) none] [7, 182] []) (.cond (.s 182) (.seq (.region [.mk (some
  4) (.p (.mv (.c (.string ⟨#[]⟩)))) none, .mk (some 5) (.p (.mv (.c (.int .i64 3)))) none] [4, 5] []) .ret) .skip)) (.seq (.region [.mk (some 183) (.p (.mv (.s 7))) none, .mk (some
  184) (.r (.b2s (.s 183))) none, .mk (some 4) (.p (.mv (.s 184))) none, .mk (some 5) (.p (.mv (.c (.int .i64 0)))) none] [4, 5] []) .ret)))))))))))))))))
theorem fn_guiseref17_Encode : (autoPrg Try.prog).fn 20 = some LF_guiseref17_Encode := by kernel_rfl

def LF_guiseref17_Decode : LFunc :=
  .mk 2 [.tmp 4, .tmp 5, .tmp 6] (.seq (.region [.mk (some 2) (.e (.boxL 2 7 (.s 0))) none, .mk (some 4) (.p (.mv (.c (.string ⟨#[]⟩)))) none, .mk (some 5) (.p (.mv (.c (.int .i64
  0)))) none, .mk (some 6) (.p (.mv (.c (.int .i64 0)))) none] [1, 2] []) (.seq (.seq (.region [.mk (some 22) (.r (.load (some 7) (.s 2))) none, .mk (some 23) (.e (.call
  18 [.s 22])) none, .mk (some 24) (.p (.un .not (.s 23))) none] [1, 2, 24] []) (.cond (.s 24) (.seq (.region [.mk (some 4) (.p (.mv (.c (.string ⟨#[]⟩)))) none,
  .mk (some 5) (.p (.mv (.c (.int .i64 0)))) none, .mk (some 6) (.p (.mv (.c (.int .i64 1)))) none] [4, 5, 6] []) .ret) .skip)) (.seq (.seq (.region [.mk (some 25) (.p (.mv (.s 1)))
  none, .mk (some 26) (.p (.slen (.s 25))) none, .mk (some 27) (.p (.bin .gtr (.s 26) (.c (.int .i64 65536)))) none] [1, 2, 27] []) (.cond (.s 27) (.seq (.region [.mk (some 4) (.p
  (.mv (.c (.string ⟨#[]⟩)))) none, .mk (some 5) (.p (.mv (.c (.int .i64 0)))) none, .mk (some 6) (.p (.mv (.c (.int .i64 3)))) none] [4, 5, 6] []) .ret) .skip)) (.seq (.region [.mk
  (some 28) (.p (.mv (.s 1))) none, .mk (some 29) (.p (.slen (.s 28))) none, .mk (some 30) (.p (.bin .sub (.s 29) (.c (.int .i64 1)))) none, .mk (some 7) (.p (.mv (.s 30))) none]
  [1, 2, 7] []) (.seq (.block 0 (.loop (.seq (.seq (.region [.mk (some 31) (.p (.mv (.s 7))) none, .mk (some 32) (.p (.bin .geq (.s 31) (.c (.int .i64 0)))) none, .mk (some 33) (.p
  (.mv (.s 32))) none, .mk (some 34) (.p (.mv (.s 1))) (some (33, true)), .mk (some 35) (.p (.mv (.s 7))) (some (33, true)), .mk (some 36) (.p (.idxS (.s 34) (.s 35))) (some (33,
  true)), .mk (some 37) (.p (.bin .neq (.s 36) (.c (.int .u8 45)))) (some (33, true)), .mk (some 38) (.p (.pick (.s 33) (.s 37) (.c (.bool false)))) none] [1, 2, 7, 38] []) (.cond
  (.s 38) .skip (.exit 0))) (.block 1 (.region [.mk (some 39) (.p (.mv (.s 7))) none, .mk (some 40) (.p (.bin .sub (.s 39) (.c (.int .i64 1)))) none, .mk (some 7) (.p (.mv (.s 40)))
  none] [1, 2, 7] []))))) (.seq (.seq (.region [.mk (some 41) (.p (.mv (.s 7))) none, .mk (some 42) (.p (.bin .eql (.s 41) (.c (.int .i64 0)))) none] [1, 2, 7, 42] []) (.cond (.s
  42) (.seq (.region [.mk (some 4) (.p (.mv (.c (.string ⟨#[]⟩)))) none, .mk (some 5) (.p (.mv (.c (.int .i64 0)))) none, .mk (some 6) (.p (.mv (.c (.int .i64 52)))) none] [4, 5, 6]
  []) .ret) .skip)) (.seq (.region [.mk (some 8) (.p (.mv (.c (.slice none 0 0)))) none] [1, 2, 7, 8] []) (.seq (.seq (.region [.mk (some 9) (.p (.mv (.c (.int .i64 0)))) none] [1,
  2, 7, 8, 9] []) (.block 2 (.loop (.seq (.seq (.region [.mk (some 43) (.p (.mv (.s 9))) none, .mk (some 44) (.p (.mv (.s 7))) none, .mk (some 45) (.p (.bin .lss (.s 43) (.s 44)))
  none] [1, 2, 7, 8, 9, 45] []) (.cond (.s 45) .skip (.exit 2))) (.seq (.block 3 (.seq (.seq (.region [.mk (some 48) (.p (.mv (.s 9))) none, .mk (some 49) (.p (.bin .eql (.s 48) (.c
  (.int .i64 4096)))) none] [1, 2, 7, 8, 9, 49] []) (.cond (.s 49) (.seq (.region [.mk (some 50) (.p (.mv (.s 9))) none, .mk (some 4) (.p (.mv (.c (.string ⟨#[]⟩)))) none, .mk (some
  5) (.p (.mv (.s 50))) none, .mk (some 6) (.p (.mv (.c (.int .i64 4)))) none] [4, 5, 6] []) .ret) .skip)) (.seq (.seq (.region [.mk (some 51) (.p (.mv (.s 1))) none, .mk (some 52)
  (.p (.mv (.s 9))) none, .mk (some 53) (.p (.idxS (.s 51) (.s 52))) none, .mk (some 54) (.p (.conv .i32 (.s 53))) none, .mk (some 55) (.e (.call 44 [.s 54]))
  none, .mk (some 56) (.p (.un .not (.s 55))) none] [1, 2, 7, 8, 9, 56] []) (.cond (.s 56) (.seq (.region [.mk (some 57) (.p (.mv (.s 9))) none, .mk (some 4) (.p (.mv (.c (.string
  ⟨#[]⟩)))) none, .mk (some 5) (.p (.mv (.s 57))) none, .mk (some 6) (.p (.mv (.c (.int .i64 50)))) none] [4, 5, 6] []) .ret) .skip)) (.region [.mk (some 58) (.p (.mv (.s 8))) none,
  .mk (some 59) (.p (.mv (.s 1))) none, .mk (some 60) (.p (.mv (.s 9))) none, .mk (some 61) (.p (.idxS (.s 59) (.s 60))) none, .mk (some 62) (.p (.conv .i32 (.s 61))) none, .mk
  (some 63) (.e (.litL 63 1 1 [.int .i32 0] [(0, 1, .s 62)])) none, .mk (some 64) (.e (.append 1 4 (.s 58) (.s 63))) none, .mk (some 8) (.p (.mv (.s 64))) none] [1, 2, 7, 8, 9]
  [])))) (.region [.mk (some 46) (.p (.mv (.s 9))) none, .mk (some 47) (.p (.bin .add (.s 46) (.c (.int .i64 1)))) none, .mk (some 9) (.p (.mv (.s 47))) none] [1, 2, 7, 8, 9]
  [])))))) (.seq (.region [.mk (some 65) (.p (.faddr 5 (.s 2))) none, .mk (some 66) (.r (.load none (.s 65))) none, .mk (some 10) (.p (.mv (.s 66))) none] [1, 2, 7, 8, 10] []) (.seq
  (.region [.mk (some 67) (.p (.faddr 6 (.s 2))) none, .mk (some 68) (.r (.load none (.s 67))) none, .mk (some 11) (.p (.mv (.s 68))) none] [1, 2, 7, 8, 10, 11] []) (.seq (.region
  [.mk (some 12) (.p (.mv (.c (.int .i64 (-1))))) none] [1, 2, 7, 8, 10, 11, 12] []) (.seq (.region [.mk (some 13) (.p (.mv (.c (.bool true)))) none] [1, 2, 7, 8, 10, 11, 12, 13]
  []) (.seq (.region [.mk (some 69) (.p (.mv (.s 7))) none, .mk (some 70) (.p (.bin .add (.s 69) (.c (.int .i64 1)))) none, .mk (some 14) (.p (.mv (.s 70))) none] [1, 2, 8, 10, 11,
  12, 13, 14] []) (.seq (.block 4 (.loop (.seq (.seq (.region [.mk (some 71) (.p (.mv (.s 14))) none, .mk (some 72) (.p (.mv (.s 1))) none, .mk (some 73) (.p (.slen (.s 72))) none,
  .mk (some 74) (.p (.bin .lss (.s 71) (.s 73))) none] [1, 2, 8, 10, 11, 12, 13, 14, 74] []) (.cond (.s 74) .skip (.exit 4))) (.block 5 (.seq (.seq (.region [.mk (some 75) (.p (.mv
  (.s 8))) none, .mk (some 76) (.p (.len (.s 75))) none, .mk (some 77) (.p (.bin .eql (.s 76) (.c (.int .i64 4096)))) none] [1, 2, 8, 10, 11, 12, 13, 14, 77] []) (.cond (.s 77)
  (.seq (.region [.mk (some 78) (.p (.mv (.s 14))) none, .mk (some 4) (.p (.mv (.c (.string ⟨#[]⟩)))) none, .mk (some 5) (.p (.mv (.s 78))) none, .mk (some 6) (.p (.mv (.c (.int
  .i64 4)))) none] [4, 5, 6] []) .ret) .skip)) (.seq (.region [.mk (some 80) (.r (.load (some 7) (.s 2))) none, .mk (some 81) (.p (.mv (.s 1))) none, .mk (some 82) (.p (.mv (.s
  14))) none, .mk (some 83) (.p (.mv (.s 10))) none, .mk (some 84) (.p (.mv (.s 8))) none, .mk (some 85) (.p (.len (.s 84))) none, .mk (some 86) (.p (.mv (.s 11))) none, .mk (some
  87) (.p (.mv (.s 12))) none, .mk (some 88) (.e (.call 47 [.s 80, .s 81, .s 82, .s 83, .s 85, .s 86, .s 87])) none, .mk (some 79) (.p (.mv (.s 88))) none, .mk
  (some 89) (.p (.ext 0 (.s 79))) none, .mk (some 90) (.p (.ext 1 (.s 79))) none, .mk (some 91) (.p (.ext 2 (.s 79))) none, .mk (some 15) (.p (.mv (.s 89))) none, .mk (some 16) (.p
  (.mv (.s 90))) none, .mk (some 17) (.p (.mv (.s 91))) none] [1, 2, 8, 11, 12, 13, 14, 15, 16, 17] []) (.seq (.seq (.region [.mk (some 92) (.p (.mv (.s 17))) none, .mk (some 93)
  (.p (.bin .neq (.s 92) (.c (.int .i64 0)))) none] [1, 2, 8, 11, 12, 13, 14, 15, 16, 17, 93] []) (.cond (.s 93) (.seq (.region [.mk (some 94) (.p (.mv (.s 16))) none, .mk (some 95)
  (.p (.mv (.s 17))) none, .mk (some 4) (.p (.mv (.c (.string ⟨#[]⟩)))) none, .mk (some 5) (.p (.mv (.s 94))) none, .mk (some 6) (.p (.mv (.s 95))) none] [4, 5, 6] []) .ret) .skip))
  (.seq (.region [.mk (some 96) (.p (.mv (.s 12))) none, .mk (some 97) (.p (.bin .add (.s 96) (.c (.int .i64 1)))) none, .mk (some 98) (.p (.mv (.s 15))) none, .mk (some 99) (.p
  (.bin .add (.s 97) (.s 98))) none, .mk (some 18) (.p (.mv (.s 99))) none] [1, 2, 8, 11, 13, 14, 15, 16, 18] []) (.seq (.region [.mk (some 100) (.p (.mv (.s 11))) none, .mk (some
  101) (.p (.mv (.s 18))) none, .mk (some 102) (.p (.mv (.s 8))) none, .mk (some 103) (.p (.len (.s 102))) none, .mk (some 104) (.p (.bin .add (.s 103) (.c (.int .i64 1)))) none,
  .mk (some 105) (.p (.bin .quo (.s 101) (.s 104))) none, .mk (some 106) (.p (.conv .i32 (.s 105))) none, .mk (some 107) (.p (.bin .add (.s 100) (.s 106))) none, .mk (some 11) (.p
  (.mv (.s 107))) none] [1, 2, 8, 11, 13, 14, 15, 16, 18] []) (.seq (.region [.mk (some 108) (.p (.mv (.s 18))) none, .mk (some 109) (.p (.mv (.s 8))) none, .mk (some 110) (.p (.len
  (.s 109))) none, .mk (some 111) (.p (.bin .add (.s 110) (.c (.int .i64 1)))) none, .mk (some 112) (.p (.bin .rem (.s 108) (.s 111))) none, .mk (some 12) (.p (.mv (.s 112))) none]
  [1, 2, 8, 11, 12, 13, 14, 15, 16] []) (.seq (.region [.mk (some 113) (.p (.mv (.s 14))) none, .mk (some 114) (.p (.mv (.s 16))) none, .mk (some 115) (.p (.bin .add (.s 113) (.s
  114))) none, .mk (some 14) (.p (.mv (.s 115))) none] [1, 2, 8, 11, 12, 13, 14, 15] []) (.seq (.seq (.region [.mk (some 116) (.p (.mv (.s 11))) none, .mk (some 117) (.e (.call
  42 [.s 116])) none, .mk (some 118) (.p (.bin .eql (.s 117) (.c (.int .i64 0)))) none] [1, 2, 8, 11, 12, 13, 14, 15, 118] []) (.cond (.s 118) (.seq (.region [.mk
  (some 119) (.p (.mv (.s 14))) none, .mk (some 120) (.p (.bin .sub (.s 119) (.c (.int .i64 1)))) none, .mk (some 4) (.p (.mv (.c (.string ⟨#[]⟩)))) none, .mk (some 5) (.p (.mv (.s
  120))) none, .mk (some 6) (.p (.mv (.c (.int .i64 12)))) none] [4, 5, 6] []) .ret) .skip)) (.seq (.region [.mk (some 19) (.p (.mv (.c (.slice none 0 0)))) none] [1, 2, 8, 11, 12,
  13, 14, 15, 19] []) (.seq (.region [.mk (some 121) (.p (.mv (.s 19))) none, .mk (some 122) (.p (.mv (.s 8))) none, .mk (some 123) (.p (.mv (.s 12))) none, .mk (some 124) (.p (.sl
  1 (.s 122) none (some (.s 123)) none)) none, .mk (some 125) (.e (.append 1 4 (.s 121) (.s 124))) none, .mk (some 19) (.p (.mv (.s 125))) none] [1, 2, 8, 11, 12, 13, 14, 15, 19]
  []) (.seq (.region [.mk (some 126) (.p (.mv (.s 19))) none, .mk (some 127) (.p (.mv (.s 11))) none, .mk (some 128) (.e (.litL 128 1 1 [.int .i32 0] [(0, 1, .s 127)])) none, .mk
  (some 129) (.e (.append 1 4 (.s 126) (.s 128))) none, .mk (some 19) (.p (.mv (.s 129))) none] [1, 2, 8, 11, 12, 13, 14, 15, 19] []) (.seq (.region [.mk (some 130) (.p (.mv (.s
  19))) none, .mk (some 131) (.p (.mv (.s 8))) none, .mk (some 132) (.p (.mv (.s 12))) none, .mk (some 133) (.p (.sl 1 (.s 131) (some (.s 132)) none none)) none, .mk (some 134) (.e
  (.append 1 4 (.s 130) (.s 133))) none, .mk (some 8) (.p (.mv (.s 134))) none] [1, 2, 8, 11, 12, 13, 14, 15] []) (.seq (.region [.mk (some 135) (.r (.load (some 7) (.s 2))) none,
  .mk (some 136) (.p (.mv (.s 15))) none, .mk (some 137) (.p (.mv (.s 8))) none, .mk (some 138) (.p (.len (.s 137))) none, .mk (some 139) (.p (.mv (.s 13))) none, .mk (some 140) (.e
  (.call 46 [.s 135, .s 136, .s 138, .s 139])) none, .mk (some 10) (.p (.mv (.s 140))) none] [1, 2, 8, 10, 11, 12, 14] []) (.region [.mk (some 13) (.p (.mv (.c
  (.bool false)))) none] [1, 2, 8, 10, 11, 12, 13, 14] [])))))))))))))))))) (.seq (.region [.mk (some 142) (.p (.mv (.s 8))) none, .mk (some 143) (.e (.call 48 [.s
  142])) none, .mk (some 141) (.p (.mv (.s 143))) none, .mk (some 144) (.p (.ext 0 (.s 141))) none, .mk (some 145) (.p (.ext 1 (.s 141))) none, .mk (some 20) (.p (.mv (.s 144)))
  none, .mk (some 21) (.p (.mv (.s 145))) none] [20] []) (.seq (.region [.mk (some 146) (.p (.mv (.s 20))) none, .mk (some 4) (.p (.mv (.s 146))) none, .mk (some 5) (.p (.mv (.c
  (.int .i64 0)))) none, .mk (some 6) (.p (.mv (.c (.int .i64 0)))) none] [4, 5, 6] []) .ret))))))))))))))))
theorem fn_guiseref17_Decode : (autoPrg Try.prog).fn 21 = some LF_guiseref17_Decode := by kernel_rfl

def LF_guiseref1_Spots : LFunc :=
  .mk 1 [.tmp 2] (.seq (.region [.mk (some 2) (.p (.mv (.c (.slice none 0 0)))) none] [0] []) (.seq (.region [.mk (some 3) (.p (.mv (.c (.slice none 0 0)))) none] [0, 3] []) (.seq
  (.region [.mk (some 4) (.p (.mv (.c (.int .i64 0)))) none] [0, 3, 4] []) (.seq (.block 0 (.loop (.seq (.seq (.region [.mk (some 8) (.p (.mv (.s 4))) none, .mk (some 9) (.p (.mv
  (.s 0))) none, .mk (some 10) (.p (.slen (.s 9))) none, .mk (some 11) (.p (.bin .lss (.s 8) (.s 10))) none] [0, 3, 4, 11] []) (.cond (.s 11) .skip (.exit 0))) (.block 1 (.seq
  (.region [.mk (some 13) (.p (.mv (.s 0))) none, .mk (some 14) (.p (.mv (.s 4))) none, .mk (some 15) (.p (.slS (.s 13) (some (.s 14)) none)) none, .mk (some 16) (.e (.call
  65 [.s 15])) none, .mk (some 12) (.p (.mv (.s 16))) none, .mk (some 17) (.p (.ext 0 (.s 12))) none, .mk (some 18) (.p (.ext 1 (.s 12))) none, .mk (some 5) (.p
  (.mv (.s 17))) none, .mk (some 6) (.p (.mv (.s 18))) none] [0, 3, 4, 5, 6] []) (.seq (.region [.mk (some 19) (.p (.mv (.s 6))) none, .mk (some 20) (.p (.mv (.s 4))) none, .mk
  (some 21) (.p (.mv (.s 5))) none, .mk (some 22) (.p (.build [.int .i32 0, .int .i64 0, .int .i64 0, .bool false] [(0, 1, .s 19), (1, 1, .s 20), (2, 1, .s 21)])) none, .mk (some 7)
  (.e (.newL 7 [.int .i32 0, .int .i64 0, .int .i64 0, .bool false])) none, .mk none (.e (.store 4 (.s 7) (.s 22))) none] [0, 3, 4, 5, 7] []) (.seq (.seq (.region [.mk (some 23) (.p
  (.mv (.s 5))) none, .mk (some 24) (.p (.bin .eql (.s 23) (.c (.int .i64 0)))) none] [0, 3, 4, 7, 24] []) (.cond (.s 24) (.region [.mk (some 25) (.p (.mv (.s 4))) none, .mk (some
  26) (.p (.build [.int .i32 0, .int .i64 0, .int .i64 0, .bool false] [(0, 1, .c (.int .i32 65533)), (1, 1, .s 25), (2, 1, .c (.int .i64 1)), (3, 1, .c (.bool true))])) none, .mk
  none (.e (.store 4 (.s 7) (.s 26))) none] [0, 3, 4, 7] []) .skip)) (.seq (.region [.mk (some 27) (.p (.mv (.s 3))) none, .mk (some 28) (.r (.load (some 4) (.s 7))) none, .mk (some
  29) (.e (.litL 29 1 4 [.int .i32 0, .int .i64 0, .int .i64 0, .bool false] [(0, 4, .s 28)])) none, .mk (some 30) (.e (.append 4 32 (.s 27) (.s 29))) none, .mk (some 3) (.p (.mv
  (.s 30))) none] [0, 3, 4, 7] []) (.region [.mk (some 31) (.p (.mv (.s 4))) none, .mk (some 32) (.p (.faddr 2 (.s 7))) none, .mk (some 33) (.r (.load none (.s 32))) none, .mk (some
  34) (.p (.bin .add (.s 31) (.s 33))) none, .mk (some 4) (.p (.mv (.s 34))) none] [0, 3, 4] []))))))))) (.seq (.region [.mk (some 35) (.p (.mv (.s 3))) none, .mk (some 2) (.p (.mv
  (.s 35))) none] [2] []) .ret)))))
theorem fn_guiseref1_Spots : (autoPrg Try.prog).fn 43 = some LF_guiseref1_Spots := by kernel_rfl

def LF_guiseref17_basic : LFunc :=
  .mk 1 [.tmp 2] (.seq (.region [.mk (some 2) (.p (.mv (.c (.bool false)))) none] [0] []) (.seq (.region [.mk (some 3) (.p (.mv (.s 0))) none, .mk (some 4) (.p (.bin .eql (.s 3) (.c
  (.int .i32 45)))) none, .mk (some 5) (.p (.mv (.s 4))) none, .mk (some 6) (.p (.mv (.s 0))) (some (5, false)), .mk (some 7) (.p (.bin .geq (.s 6) (.c (.int .i32 97)))) (some (5,
  false)), .mk (some 8) (.p (.mv (.s 7))) (some (5, false)), .mk (some 9) (.p (.mv (.s 0))) (some (8, true)), .mk (some 10) (.p (.bin .leq (.s 9) (.c (.int .i32 122)))) (some (8,
  true)), .mk (some 11) (.p (.pick (.s 8) (.s 10) (.c (.bool false)))) (some (5, false)), .mk (some 12) (.p (.pick (.s 5) (.c (.bool true)) (.s 11))) none, .mk (some 13) (.p (.mv
  (.s 12))) none, .mk (some 14) (.p (.mv (.s 0))) (some (13, false)), .mk (some 15) (.p (.bin .geq (.s 14) (.c (.int .i32 48)))) (some (13, false)), .mk (some 16) (.p (.mv (.s 15)))
  (some (13, false)), .mk (some 17) (.p (.mv (.s 0))) (some (16, true)), .mk (some 18) (.p (.bin .leq (.s 17) (.c (.int .i32 57)))) (some (16, true)), .mk (some 19) (.p (.pick (.s
  16) (.s 18) (.c (.bool false)))) (some (13, false)), .mk (some 20) (.p (.pick (.s 13) (.c (.bool true)) (.s 19))) none, .mk (some 2) (.p (.mv (.s 20))) none] [2] []) .ret))
theorem fn_guiseref17_basic : (autoPrg Try.prog).fn 44 = some LF_guiseref17_basic := by kernel_rfl

def LF_guiseref17_written : LFunc :=
  .mk 3 [.tmp 6] (.seq (.region [.mk (some 3) (.e (.boxL 3 7 (.s 0))) none, .mk (some 6) (.p (.mv (.c (.slice none 0 0)))) none] [1, 2, 3] []) (.seq (.region [.mk (some 7) (.p (.mv
  (.c (.slice none 0 0)))) none] [1, 2, 3, 7] []) (.seq (.region [.mk (some 8) (.p (.mv (.c (.int .i64 1)))) none] [1, 2, 3, 7, 8] []) (.seq (.region [.mk (some 10) (.r (.load (some
  7) (.s 3))) none, .mk (some 11) (.p (.mv (.s 1))) none, .mk (some 12) (.p (.mv (.s 8))) none, .mk (some 13) (.e (.call 66 [.s 10, .s 11, .s 12])) none, .mk
  (some 9) (.p (.mv (.s 13))) none] [1, 2, 3, 7, 8, 9] []) (.seq (.block 0 (.loop (.seq (.seq (.region [.mk (some 14) (.p (.mv (.s 2))) none, .mk (some 15) (.p (.mv (.s 9))) none,
  .mk (some 16) (.p (.bin .geq (.s 14) (.s 15))) none] [1, 2, 3, 7, 8, 9, 16] []) (.cond (.s 16) .skip (.exit 0))) (.block 1 (.seq (.region [.mk (some 17) (.p (.mv (.s 7))) none,
  .mk (some 18) (.p (.mv (.s 9))) none, .mk (some 19) (.p (.mv (.s 2))) none, .mk (some 20) (.p (.mv (.s 9))) none, .mk (some 21) (.p (.bin .sub (.s 19) (.s 20))) none, .mk (some
  22) (.p (.faddr 0 (.s 3))) none, .mk (some 23) (.r (.load none (.s 22))) none, .mk (some 24) (.p (.mv (.s 9))) none, .mk (some 25) (.p (.bin .sub (.s 23) (.s 24))) none, .mk (some
  26) (.p (.bin .rem (.s 21) (.s 25))) none, .mk (some 27) (.p (.bin .add (.s 18) (.s 26))) none, .mk (some 28) (.e (.call 67 [.s 27])) none, .mk (some 29) (.e
  (.litL 29 1 1 [.int .u8 0] [(0, 1, .s 28)])) none, .mk (some 30) (.e (.append 1 1 (.s 17) (.s 29))) none, .mk (some 7) (.p (.mv (.s 30))) none] [1, 2, 3, 7, 8, 9] []) (.seq
  (.region [.mk (some 31) (.p (.mv (.s 2))) none, .mk (some 32) (.p (.mv (.s 9))) none, .mk (some 33) (.p (.bin .sub (.s 31) (.s 32))) none, .mk (some 34) (.p (.faddr 0 (.s 3)))
  none, .mk (some 35) (.r (.load none (.s 34))) none, .mk (some 36) (.p (.mv (.s 9))) none, .mk (some 37) (.p (.bin .sub (.s 35) (.s 36))) none, .mk (some 38) (.p (.bin .quo (.s 33)
  (.s 37))) none, .mk (some 2) (.p (.mv (.s 38))) none] [1, 2, 3, 7, 8] []) (.seq (.region [.mk (some 39) (.p (.mv (.s 8))) none, .mk (some 40) (.p (.bin .add (.s 39) (.c (.int .i64
  1)))) none, .mk (some 8) (.p (.mv (.s 40))) none] [1, 2, 3, 7, 8] []) (.region [.mk (some 41) (.r (.load (some 7) (.s 3))) none, .mk (some 42) (.p (.mv (.s 1))) none, .mk (some
  43) (.p (.mv (.s 8))) none, .mk (some 44) (.e (.call 66 [.s 41, .s 42, .s 43])) none, .mk (some 9) (.p (.mv (.s 44))) none] [1, 2, 3, 7, 8, 9] []))))))))
  (.seq (.region [.mk (some 45) (.p (.mv (.s 7))) none, .mk (some 46) (.p (.mv (.s 2))) none, .mk (some 47) (.e (.call 67 [.s 46])) none, .mk (some 48) (.e (.litL
  48 1 1 [.int .u8 0] [(0, 1, .s 47)])) none, .mk (some 49) (.e (.append 1 1 (.s 45) (.s 48))) none, .mk (some 6) (.p (.mv (.s 49))) none] [6] []) .ret))))))
theorem fn_guiseref17_written : (autoPrg Try.prog).fn 45 = some LF_guiseref17_written := by kernel_rfl

def LF_guiseref17_adapted : LFunc :=
  .mk 4 [.tmp 8] (.seq (.region [.mk (some 4) (.e (.boxL 4 7 (.s 0))) none, .mk (some 8) (.p (.mv (.c (.int .i64 0)))) none] [1, 2, 3, 4] []) (.seq (.region [.mk (some 11) (.p (.mv
  (.s 1))) none, .mk (some 12) (.p (.bin .quo (.s 11) (.c (.int .i64 2)))) none, .mk (some 9) (.p (.mv (.s 12))) none] [1, 2, 3, 4, 9] []) (.seq (.seq (.region [.mk (some 13) (.p
  (.mv (.s 3))) none] [1, 2, 4, 9, 13] []) (.cond (.s 13) (.region [.mk (some 14) (.p (.mv (.s 1))) none, .mk (some 15) (.p (.faddr 4 (.s 4))) none, .mk (some 16) (.r (.load none
  (.s 15))) none, .mk (some 17) (.p (.bin .quo (.s 14) (.s 16))) none, .mk (some 9) (.p (.mv (.s 17))) none] [2, 4, 9] []) .skip)) (.seq (.region [.mk (some 18) (.p (.mv (.s 9)))
  none, .mk (some 19) (.p (.mv (.s 9))) none, .mk (some 20) (.p (.mv (.s 2))) none, .mk (some 21) (.p (.bin .quo (.s 19) (.s 20))) none, .mk (some 22) (.p (.bin .add (.s 18) (.s
  21))) none, .mk (some 9) (.p (.mv (.s 22))) none] [4, 9] []) (.seq (.region [.mk (some 10) (.p (.mv (.c (.int .i64 0)))) none] [4, 9, 10] []) (.seq (.block 0 (.loop (.seq (.seq
  (.region [.mk (some 23) (.p (.mv (.s 9))) none, .mk (some 24) (.p (.faddr 0 (.s 4))) none, .mk (some 25) (.r (.load none (.s 24))) none, .mk (some 26) (.p (.faddr 1 (.s 4))) none,
  .mk (some 27) (.r (.load none (.s 26))) none, .mk (some 28) (.p (.bin .sub (.s 25) (.s 27))) none, .mk (some 29) (.p (.faddr 2 (.s 4))) none, .mk (some 30) (.r (.load none (.s
  29))) none, .mk (some 31) (.p (.bin .mul (.s 28) (.s 30))) none, .mk (some 32) (.p (.bin .quo (.s 31) (.c (.int .i64 2)))) none, .mk (some 33) (.p (.bin .gtr (.s 23) (.s 32)))
  none] [4, 9, 10, 33] []) (.cond (.s 33) .skip (.exit 0))) (.block 1 (.seq (.region [.mk (some 34) (.p (.mv (.s 9))) none, .mk (some 35) (.p (.faddr 0 (.s 4))) none, .mk (some 36)
  (.r (.load none (.s 35))) none, .mk (some 37) (.p (.faddr 1 (.s 4))) none, .mk (some 38) (.r (.load none (.s 37))) none, .mk (some 39) (.p (.bin .sub (.s 36) (.s 38))) none, .mk
  (some 40) (.p (.bin .quo (.s 34) (.s 39))) none, .mk (some 9) (.p (.mv (.s 40))) none] [4, 9, 10] []) (.region [.mk (some 41) (.p (.mv (.s 10))) none, .mk (some 42) (.p (.bin .add
  (.s 41) (.c (.int .i64 1)))) none, .mk (some 10) (.p (.mv (.s 42))) none] [4, 9, 10] [])))))) (.seq (.region [.mk (some 43) (.p (.mv (.s 10))) none, .mk (some 44) (.p (.faddr 0
  (.s 4))) none, .mk (some 45) (.r (.load none (.s 44))) none, .mk (some 46) (.p (.bin .mul (.s 43) (.s 45))) none, .mk (some 47) (.p (.faddr 0 (.s 4))) none, .mk (some 48) (.r
  (.load none (.s 47))) none, .mk (some 49) (.p (.faddr 1 (.s 4))) none, .mk (some 50) (.r (.load none (.s 49))) none, .mk (some 51) (.p (.bin .sub (.s 48) (.s 50))) none, .mk (some
  52) (.p (.bin .add (.s 51) (.c (.int .i64 1)))) none, .mk (some 53) (.p (.mv (.s 9))) none, .mk (some 54) (.p (.bin .mul (.s 52) (.s 53))) none, .mk (some 55) (.p (.mv (.s 9)))
  none, .mk (some 56) (.p (.faddr 3 (.s 4))) none, .mk (some 57) (.r (.load none (.s 56))) none, .mk (some 58) (.p (.bin .add (.s 55) (.s 57))) none, .mk (some 59) (.p (.bin .quo
  (.s 54) (.s 58))) none, .mk (some 60) (.p (.bin .add (.s 46) (.s 59))) none, .mk (some 8) (.p (.mv (.s 60))) none] [8] []) .ret)))))))
theorem fn_guiseref17_adapted : (autoPrg Try.prog).fn 46 = some LF_guiseref17_adapted := by kernel_rfl

def LF_guiseref17_number : LFunc :=
  .mk 7 [.tmp 14, .tmp 15, .tmp 16] (.seq (.region [.mk (some 7) (.e (.boxL 7 7 (.s 0))) none, .mk (some 14) (.p (.mv (.c (.int .i64 0)))) none, .mk (some 15) (.p (.mv (.c (.int
  .i64 0)))) none, .mk (some 16) (.p (.mv (.c (.int .i64 0)))) none] [1, 2, 3, 4, 5, 6, 7] []) (.seq (.region [.mk (some 17) (.p (.mv (.c (.int .i64 0)))) none] [1, 2, 3, 4, 5, 6,
  7, 17] []) (.seq (.region [.mk (some 18) (.p (.mv (.c (.int .i64 1)))) none] [1, 2, 3, 4, 5, 6, 7, 17, 18] []) (.seq (.region [.mk (some 19) (.p (.mv (.c (.int .i64 1)))) none]
  [1, 2, 3, 4, 5, 6, 7, 17, 18, 19] []) (.block 0 (.loop (.block 1 (.seq (.region [.mk (some 23) (.p (.mv (.s 2))) none, .mk (some 24) (.p (.mv (.s 19))) none, .mk (some 25) (.p
  (.bin .add (.s 23) (.s 24))) none, .mk (some 26) (.p (.bin .sub (.s 25) (.c (.int .i64 1)))) none, .mk (some 20) (.p (.mv (.s 26))) none] [1, 2, 3, 4, 5, 6, 7, 17, 18, 19, 20] [])
  (.seq (.seq (.region [.mk (some 27) (.p (.mv (.s 20))) none, .mk (some 28) (.p (.mv (.s 1))) none, .mk (some 29) (.p (.slen (.s 28))) none, .mk (some 30) (.p (.bin .geq (.s 27)
  (.s 29))) none] [1, 2, 3, 4, 5, 6, 7, 17, 18, 19, 20, 30] []) (.cond (.s 30) (.seq (.region [.mk (some 31) (.p (.mv (.s 20))) none, .mk (some 14) (.p (.mv (.c (.int .i64 0))))
  none, .mk (some 15) (.p (.mv (.s 31))) none, .mk (some 16) (.p (.mv (.c (.int .i64 21)))) none] [14, 15, 16] []) .ret) .skip)) (.seq (.region [.mk (some 32) (.r (.load (some 7)
  (.s 7))) none, .mk (some 33) (.p (.mv (.s 1))) none, .mk (some 34) (.p (.mv (.s 20))) none, .mk (some 35) (.p (.idxS (.s 33) (.s 34))) none, .mk (some 36) (.e (.call
  68 [.s 32, .s 35])) none, .mk (some 21) (.p (.mv (.s 36))) none] [1, 2, 3, 4, 5, 6, 7, 17, 18, 19, 20, 21] []) (.seq (.seq (.region [.mk (some 37) (.p (.mv (.s
  21))) none, .mk (some 38) (.p (.bin .lss (.s 37) (.c (.int .i64 0)))) none] [1, 2, 3, 4, 5, 6, 7, 17, 18, 19, 20, 21, 38] []) (.cond (.s 38) (.seq (.region [.mk (some 39) (.p (.mv
  (.s 20))) none, .mk (some 14) (.p (.mv (.c (.int .i64 0)))) none, .mk (some 15) (.p (.mv (.s 39))) none, .mk (some 16) (.p (.mv (.c (.int .i64 50)))) none] [14, 15, 16] []) .ret)
  .skip)) (.seq (.region [.mk (some 40) (.p (.mv (.s 17))) none, .mk (some 41) (.p (.mv (.s 21))) none, .mk (some 42) (.p (.mv (.s 18))) none, .mk (some 43) (.p (.bin .mul (.s 41)
  (.s 42))) none, .mk (some 44) (.p (.bin .add (.s 40) (.s 43))) none, .mk (some 17) (.p (.mv (.s 44))) none] [1, 2, 3, 4, 5, 6, 7, 17, 18, 19, 20, 21] []) (.seq (.seq (.region [.mk
  (some 45) (.p (.mv (.s 5))) none, .mk (some 46) (.p (.conv .i64 (.s 45))) none, .mk (some 47) (.p (.mv (.s 6))) none, .mk (some 48) (.p (.bin .add (.s 47) (.c (.int .i64 1))))
  none, .mk (some 49) (.p (.mv (.s 17))) none, .mk (some 50) (.p (.bin .add (.s 48) (.s 49))) none, .mk (some 51) (.p (.mv (.s 4))) none, .mk (some 52) (.p (.bin .add (.s 51) (.c
  (.int .i64 1)))) none, .mk (some 53) (.p (.bin .quo (.s 50) (.s 52))) none, .mk (some 54) (.p (.bin .add (.s 46) (.s 53))) none, .mk (some 55) (.p (.bin .gtr (.s 54) (.c (.int
  .i64 1114111)))) none] [1, 2, 3, 4, 5, 6, 7, 17, 18, 19, 20, 21, 55] []) (.cond (.s 55) (.seq (.region [.mk (some 56) (.p (.mv (.s 20))) none, .mk (some 14) (.p (.mv (.c (.int
  .i64 0)))) none, .mk (some 15) (.p (.mv (.s 56))) none, .mk (some 16) (.p (.mv (.c (.int .i64 51)))) none] [14, 15, 16] []) .ret) .skip)) (.seq (.region [.mk (some 57) (.r (.load
  (some 7) (.s 7))) none, .mk (some 58) (.p (.mv (.s 3))) none, .mk (some 59) (.p (.mv (.s 19))) none, .mk (some 60) (.e (.call 66 [.s 57, .s 58, .s 59]))
  none, .mk (some 22) (.p (.mv (.s 60))) none] [1, 2, 3, 4, 5, 6, 7, 17, 18, 19, 21, 22] []) (.seq (.seq (.region [.mk (some 61) (.p (.mv (.s 21))) none, .mk (some 62) (.p (.mv (.s
  22))) none, .mk (some 63) (.p (.bin .lss (.s 61) (.s 62))) none] [1, 2, 3, 4, 5, 6, 7, 17, 18, 19, 22, 63] []) (.cond (.s 63) (.seq (.region [.mk (some 64) (.p (.mv (.s 17)))
  none, .mk (some 65) (.p (.mv (.s 19))) none, .mk (some 14) (.p (.mv (.s 64))) none, .mk (some 15) (.p (.mv (.s 65))) none, .mk (some 16) (.p (.mv (.c (.int .i64 0)))) none] [14,
  15, 16] []) .ret) .skip)) (.seq (.region [.mk (some 66) (.p (.mv (.s 18))) none, .mk (some 67) (.p (.faddr 0 (.s 7))) none, .mk (some 68) (.r (.load none (.s 67))) none, .mk (some
  69) (.p (.mv (.s 22))) none, .mk (some 70) (.p (.bin .sub (.s 68) (.s 69))) none, .mk (some 71) (.p (.bin .mul (.s 66) (.s 70))) none, .mk (some 18) (.p (.mv (.s 71))) none] [1,
  2, 3, 4, 5, 6, 7, 17, 18, 19] []) (.region [.mk (some 72) (.p (.mv (.s 19))) none, .mk (some 73) (.p (.bin .add (.s 72) (.c (.int .i64 1)))) none, .mk (some 19) (.p (.mv (.s 73)))
  none] [1, 2, 3, 4, 5, 6, 7, 17, 18, 19] [])))))))))))))))))
theorem fn_guiseref17_number : (autoPrg Try.prog).fn 47 = some LF_guiseref17_number := by kernel_rfl

def LF_guiseref1_Text : LFunc :=
  .mk 1 [.tmp 2, .tmp 3] (.seq (.region [.mk (some 2) (.p (.mv (.c (.string ⟨#[]⟩)))) none, .mk (some 3) (.p (.mv (.c (.int .i64 0)))) none] [0] []) (.seq (.region [.mk (some 4) (.p
  (.mv (.c (.slice none 0 0)))) none] [0, 4] []) (.seq (.seq (.region [.mk (some 5) (.p (.mv (.c (.int .i64 0)))) none] [0, 4, 5] []) (.block 0 (.loop (.seq (.seq (.region [.mk
  (some 6) (.p (.mv (.s 5))) none, .mk (some 7) (.p (.mv (.s 0))) none, .mk (some 8) (.p (.len (.s 7))) none, .mk (some 9) (.p (.bin .lss (.s 6) (.s 8))) none] [0, 4, 5, 9] [])
  (.cond (.s 9) .skip (.exit 0))) (.seq (.block 1 (.seq (.seq (.region [.mk (some 12) (.p (.mv (.s 0))) none, .mk (some 13) (.p (.mv (.s 5))) none, .mk (some 14) (.p (.iaddr 1 (.s
  12) (.s 13))) none, .mk (some 15) (.r (.load none (.s 14))) none, .mk (some 16) (.e (.call 42 [.s 15])) none, .mk (some 17) (.p (.bin .eql (.s 16) (.c (.int .i64
  0)))) none] [0, 4, 5, 17] []) (.cond (.s 17) (.seq (.region [.mk (some 2) (.p (.mv (.c (.string ⟨#[]⟩)))) none, .mk (some 3) (.p (.mv (.c (.int .i64 12)))) none] [2, 3] []) .ret)
  .skip)) (.region [.mk (some 18) (.p (.mv (.s 4))) none, .mk (some 19) (.p (.mv (.s 0))) none, .mk (some 20) (.p (.mv (.s 5))) none, .mk (some 21) (.p (.iaddr 1 (.s 19) (.s 20)))
  none, .mk (some 22) (.r (.load none (.s 21))) none, .mk (some 23) (.e (.call 69 [.s 22])) none, .mk (some 24) (.e (.append 1 1 (.s 18) (.s 23))) none, .mk (some
  4) (.p (.mv (.s 24))) none] [0, 4, 5] []))) (.region [.mk (some 10) (.p (.mv (.s 5))) none, .mk (some 11) (.p (.bin .add (.s 10) (.c (.int .i64 1)))) none, .mk (some 5) (.p (.mv
  (.s 11))) none] [0, 4, 5] [])))))) (.seq (.region [.mk (some 25) (.p (.mv (.s 4))) none, .mk (some 26) (.r (.b2s (.s 25))) none, .mk (some 2) (.p (.mv (.s 26))) none, .mk (some 3)
  (.p (.mv (.c (.int .i64 0)))) none] [2, 3] []) .ret))))
theorem fn_guiseref1_Text : (autoPrg Try.prog).fn 48 = some LF_guiseref1_Text := by kernel_rfl

def LF_guiseref1_Sequence : LFunc :=
  .mk 1 [.tmp 2, .tmp 3] (.seq (.region [.mk (some 2) (.p (.mv (.c (.int .i64 0)))) none, .mk (some 3) (.p (.mv (.c (.int .i32 0)))) none] [0] []) (.seq (.seq (.region [.mk (some
  10) (.p (.mv (.s 0))) none, .mk (some 11) (.p (.slen (.s 10))) none, .mk (some 12) (.p (.bin .eql (.s 11) (.c (.int .i64 0)))) none] [0, 12] []) (.cond (.s 12) (.seq (.region [.mk
  (some 2) (.p (.mv (.c (.int .i64 0)))) none, .mk (some 3) (.p (.mv (.c (.int .i32 0)))) none] [2, 3] []) .ret) .skip)) (.seq (.region [.mk (some 13) (.p (.mv (.s 0))) none, .mk
  (some 14) (.p (.idxS (.s 13) (.c (.int .i64 0)))) none, .mk (some 4) (.p (.mv (.s 14))) none] [0, 4] []) (.seq (.seq (.region [.mk (some 15) (.p (.mv (.s 4))) none, .mk (some 16)
  (.p (.bin .lss (.s 15) (.c (.int .u8 128)))) none] [0, 4, 16] []) (.cond (.s 16) (.seq (.region [.mk (some 17) (.p (.mv (.s 4))) none, .mk (some 18) (.p (.conv .i32 (.s 17)))
  none, .mk (some 2) (.p (.mv (.c (.int .i64 1)))) none, .mk (some 3) (.p (.mv (.s 18))) none] [2, 3] []) .ret) .skip)) (.seq (.region [.mk (some 20) (.p (.mv (.s 4))) none, .mk
  (some 21) (.e (.call 78 [.s 20])) none, .mk (some 19) (.p (.mv (.s 21))) none, .mk (some 22) (.p (.ext 0 (.s 19))) none, .mk (some 23) (.p (.ext 1 (.s 19)))
  none, .mk (some 5) (.p (.mv (.s 22))) none, .mk (some 6) (.p (.mv (.s 23))) none] [0, 4, 5, 6] []) (.seq (.seq (.region [.mk (some 24) (.p (.mv (.s 5))) none, .mk (some 25) (.p
  (.bin .eql (.s 24) (.c (.int .u8 0)))) none, .mk (some 26) (.p (.mv (.s 25))) none, .mk (some 27) (.p (.mv (.s 0))) (some (26, false)), .mk (some 28) (.p (.slen (.s 27))) (some
  (26, false)), .mk (some 29) (.p (.bin .lss (.s 28) (.c (.int .i64 2)))) (some (26, false)), .mk (some 30) (.p (.pick (.s 26) (.c (.bool true)) (.s 29))) none, .mk (some 31) (.p
  (.mv (.s 30))) none, .mk (some 32) (.p (.mv (.s 0))) (some (31, false)), .mk (some 33) (.p (.idxS (.s 32) (.c (.int .i64 1)))) (some (31, false)), .mk (some 34) (.p (.mv (.s 5)))
  (some (31, false)), .mk (some 35) (.p (.bin .lss (.s 33) (.s 34))) (some (31, false)), .mk (some 36) (.p (.pick (.s 31) (.c (.bool true)) (.s 35))) none, .mk (some 37) (.p (.mv
  (.s 36))) none, .mk (some 38) (.p (.mv (.s 0))) (some (37, false)), .mk (some 39) (.p (.idxS (.s 38) (.c (.int .i64 1)))) (some (37, false)), .mk (some 40) (.p (.mv (.s 6))) (some
  (37, false)), .mk (some 41) (.p (.bin .gtr (.s 39) (.s 40))) (some (37, false)), .mk (some 42) (.p (.pick (.s 37) (.c (.bool true)) (.s 41))) none] [0, 4, 42] []) (.cond (.s 42)
  (.seq (.region [.mk (some 2) (.p (.mv (.c (.int .i64 0)))) none, .mk (some 3) (.p (.mv (.c (.int .i32 0)))) none] [2, 3] []) .ret) .skip)) (.seq (.region [.mk (some 7) (.p (.mv
  (.c (.int .i64 2)))) none] [0, 4, 7] []) (.seq (.region [.mk (some 43) (.p (.mv (.s 4))) none, .mk (some 44) (.p (.bin .and (.s 43) (.c (.int .u8 31)))) none, .mk (some 45) (.p
  (.conv .i32 (.s 44))) none, .mk (some 8) (.p (.mv (.s 45))) none] [0, 4, 7, 8] []) (.seq (.seq (.region [.mk (some 46) (.p (.mv (.s 4))) none, .mk (some 47) (.p (.bin .geq (.s 46)
  (.c (.int .u8 224)))) none] [0, 4, 7, 8, 47] []) (.cond (.s 47) (.seq (.region [.mk (some 7) (.p (.mv (.c (.int .i64 3)))) none] [0, 4, 7] []) (.region [.mk (some 48) (.p (.mv (.s
  4))) none, .mk (some 49) (.p (.bin .and (.s 48) (.c (.int .u8 15)))) none, .mk (some 50) (.p (.conv .i32 (.s 49))) none, .mk (some 8) (.p (.mv (.s 50))) none] [0, 4, 7, 8] []))
  .skip)) (.seq (.seq (.region [.mk (some 51) (.p (.mv (.s 4))) none, .mk (some 52) (.p (.bin .geq (.s 51) (.c (.int .u8 240)))) none] [0, 4, 7, 8, 52] []) (.cond (.s 52) (.seq
  (.region [.mk (some 7) (.p (.mv (.c (.int .i64 4)))) none] [0, 4, 7] []) (.region [.mk (some 53) (.p (.mv (.s 4))) none, .mk (some 54) (.p (.bin .and (.s 53) (.c (.int .u8 7))))
  none, .mk (some 55) (.p (.conv .i32 (.s 54))) none, .mk (some 8) (.p (.mv (.s 55))) none] [0, 7, 8] [])) .skip)) (.seq (.seq (.region [.mk (some 9) (.p (.mv (.c (.int .i64 1))))
  none] [0, 7, 8, 9] []) (.block 0 (.loop (.seq (.seq (.region [.mk (some 56) (.p (.mv (.s 9))) none, .mk (some 57) (.p (.mv (.s 7))) none, .mk (some 58) (.p (.bin .lss (.s 56) (.s
  57))) none] [0, 7, 8, 9, 58] []) (.cond (.s 58) .skip (.exit 0))) (.seq (.block 1 (.seq (.seq (.region [.mk (some 61) (.p (.mv (.s 9))) none, .mk (some 62) (.p (.mv (.s 0))) none,
  .mk (some 63) (.p (.slen (.s 62))) none, .mk (some 64) (.p (.bin .geq (.s 61) (.s 63))) none, .mk (some 65) (.p (.mv (.s 64))) none, .mk (some 66) (.p (.mv (.s 0))) (some (65,
  false)), .mk (some 67) (.p (.mv (.s 9))) (some (65, false)), .mk (some 68) (.p (.idxS (.s 66) (.s 67))) (some (65, false)), .mk (some 69) (.p (.bin .lss (.s 68) (.c (.int .u8
  128)))) (some (65, false)), .mk (some 70) (.p (.pick (.s 65) (.c (.bool true)) (.s 69))) none, .mk (some 71) (.p (.mv (.s 70))) none, .mk (some 72) (.p (.mv (.s 0))) (some (71,
  false)), .mk (some 73) (.p (.mv (.s 9))) (some (71, false)), .mk (some 74) (.p (.idxS (.s 72) (.s 73))) (some (71, false)), .mk (some 75) (.p (.bin .gtr (.s 74) (.c (.int .u8
  191)))) (some (71, false)), .mk (some 76) (.p (.pick (.s 71) (.c (.bool true)) (.s 75))) none] [0, 7, 8, 9, 76] []) (.cond (.s 76) (.seq (.region [.mk (some 2) (.p (.mv (.c (.int
  .i64 0)))) none, .mk (some 3) (.p (.mv (.c (.int .i32 0)))) none] [2, 3] []) .ret) .skip)) (.region [.mk (some 77) (.p (.mv (.s 8))) none, .mk (some 78) (.p (.bin .shl (.s 77) (.c
  (.int .u64 6)))) none, .mk (some 79) (.p (.mv (.s 0))) none, .mk (some 80) (.p (.mv (.s 9))) none, .mk (some 81) (.p (.idxS (.s 79) (.s 80))) none, .mk (some 82) (.p (.bin .and
  (.s 81) (.c (.int .u8 63)))) none, .mk (some 83) (.p (.conv .i32 (.s 82))) none, .mk (some 84) (.p (.bin .or (.s 78) (.s 83))) none, .mk (some 8) (.p (.mv (.s 84))) none] [0, 7,
  8, 9] []))) (.region [.mk (some 59) (.p (.mv (.s 9))) none, .mk (some 60) (.p (.bin .add (.s 59) (.c (.int .i64 1)))) none, .mk (some 9) (.p (.mv (.s 60))) none] [0, 7, 8, 9]
  [])))))) (.seq (.region [.mk (some 85) (.p (.mv (.s 7))) none, .mk (some 86) (.p (.mv (.s 8))) none, .mk (some 2) (.p (.mv (.s 85))) none, .mk (some 3) (.p (.mv (.s 86))) none]
  [2, 3] []) .ret))))))))))))
theorem fn_guiseref1_Sequence : (autoPrg Try.prog).fn 65 = some LF_guiseref1_Sequence := by kernel_rfl

def LF_guiseref17_threshold : LFunc :=
  .mk 3 [.tmp 6] (.seq (.region [.mk (some 3) (.e (.boxL 3 7 (.s 0))) none, .mk (some 6) (.p (.mv (.c (.int .i64 0)))) none] [1, 2, 3] []) (.seq (.region [.mk (some 8) (.p (.mv (.s
  2))) none, .mk (some 9) (.p (.faddr 0 (.s 3))) none, .mk (some 10) (.r (.load none (.s 9))) none, .mk (some 11) (.p (.bin .mul (.s 8) (.s 10))) none, .mk (some 12) (.p (.mv (.s
  1))) none, .mk (some 13) (.p (.bin .sub (.s 11) (.s 12))) none, .mk (some 7) (.p (.mv (.s 13))) none] [3, 7] []) (.seq (.seq (.region [.mk (some 14) (.p (.mv (.s 7))) none, .mk
  (some 15) (.p (.faddr 1 (.s 3))) none, .mk (some 16) (.r (.load none (.s 15))) none, .mk (some 17) (.p (.bin .lss (.s 14) (.s 16))) none] [3, 7, 17] []) (.cond (.s 17) (.region
  [.mk (some 18) (.p (.faddr 1 (.s 3))) none, .mk (some 19) (.r (.load none (.s 18))) none, .mk (some 7) (.p (.mv (.s 19))) none] [3, 7] []) .skip)) (.seq (.seq (.region [.mk (some
  20) (.p (.mv (.s 7))) none, .mk (some 21) (.p (.faddr 2 (.s 3))) none, .mk (some 22) (.r (.load none (.s 21))) none, .mk (some 23) (.p (.bin .gtr (.s 20) (.s 22))) none] [3, 7,
  23] []) (.cond (.s 23) (.region [.mk (some 24) (.p (.faddr 2 (.s 3))) none, .mk (some 25) (.r (.load none (.s 24))) none, .mk (some 7) (.p (.mv (.s 25))) none] [7] []) .skip))
  (.seq (.region [.mk (some 26) (.p (.mv (.s 7))) none, .mk (some 6) (.p (.mv (.s 26))) none] [6] []) .ret)))))
theorem fn_guiseref17_threshold : (autoPrg Try.prog).fn 66 = some LF_guiseref17_threshold := by kernel_rfl

def LF_guiseref17_digit : LFunc :=
  .mk 1 [.tmp 2] (.seq (.region [.mk (some 2) (.p (.mv (.c (.int .u8 0)))) none] [0] []) (.seq (.seq (.region [.mk (some 3) (.p (.mv (.s 0))) none, .mk (some 4) (.p (.bin .lss (.s
  3) (.c (.int .i64 26)))) none] [0, 4] []) (.cond (.s 4) (.seq (.region [.mk (some 5) (.p (.mv (.s 0))) none, .mk (some 6) (.p (.bin .add (.c (.int .i64 97)) (.s 5))) none, .mk
  (some 7) (.p (.conv .u8 (.s 6))) none, .mk (some 2) (.p (.mv (.s 7))) none] [2] []) .ret) .skip)) (.seq (.region [.mk (some 8) (.p (.mv (.s 0))) none, .mk (some 9) (.p (.bin .add
  (.c (.int .i64 48)) (.s 8))) none, .mk (some 10) (.p (.bin .sub (.s 9) (.c (.int .i64 26)))) none, .mk (some 11) (.p (.conv .u8 (.s 10))) none, .mk (some 2) (.p (.mv (.s 11)))
  none] [2] []) .ret)))
theorem fn_guiseref17_digit : (autoPrg Try.prog).fn 67 = some LF_guiseref17_digit := by kernel_rfl

def LF_guiseref17_value : LFunc :=
  .mk 2 [.tmp 4] (.seq (.region [.mk (some 2) (.e (.boxL 2 7 (.s 0))) none, .mk (some 4) (.p (.mv (.c (.int .i64 0)))) none] [1, 2] []) (.seq (.region [.mk (some 5) (.p (.mv (.c
  (.int .i64 (-1))))) none] [1, 2, 5] []) (.seq (.seq (.region [.mk (some 6) (.p (.mv (.s 1))) none, .mk (some 7) (.p (.bin .geq (.s 6) (.c (.int .u8 97)))) none, .mk (some 8) (.p
  (.mv (.s 7))) none, .mk (some 9) (.p (.mv (.s 1))) (some (8, true)), .mk (some 10) (.p (.bin .leq (.s 9) (.c (.int .u8 122)))) (some (8, true)), .mk (some 11) (.p (.pick (.s 8)
  (.s 10) (.c (.bool false)))) none] [1, 2, 5, 11] []) (.cond (.s 11) (.region [.mk (some 12) (.p (.mv (.s 1))) none, .mk (some 13) (.p (.bin .sub (.s 12) (.c (.int .u8 97)))) none,
  .mk (some 14) (.p (.conv .i64 (.s 13))) none, .mk (some 5) (.p (.mv (.s 14))) none] [1, 2, 5] []) .skip)) (.seq (.seq (.region [.mk (some 15) (.p (.mv (.s 1))) none, .mk (some 16)
  (.p (.bin .geq (.s 15) (.c (.int .u8 48)))) none, .mk (some 17) (.p (.mv (.s 16))) none, .mk (some 18) (.p (.mv (.s 1))) (some (17, true)), .mk (some 19) (.p (.bin .leq (.s 18)
  (.c (.int .u8 57)))) (some (17, true)), .mk (some 20) (.p (.pick (.s 17) (.s 19) (.c (.bool false)))) none] [1, 2, 5, 20] []) (.cond (.s 20) (.region [.mk (some 21) (.p (.mv (.s
  1))) none, .mk (some 22) (.p (.bin .sub (.s 21) (.c (.int .u8 48)))) none, .mk (some 23) (.p (.conv .i64 (.s 22))) none, .mk (some 24) (.p (.bin .add (.s 23) (.c (.int .i64 26))))
  none, .mk (some 5) (.p (.mv (.s 24))) none] [2, 5] []) .skip)) (.seq (.seq (.region [.mk (some 25) (.p (.mv (.s 5))) none, .mk (some 26) (.p (.faddr 0 (.s 2))) none, .mk (some 27)
  (.r (.load none (.s 26))) none, .mk (some 28) (.p (.bin .geq (.s 25) (.s 27))) none] [5, 28] []) (.cond (.s 28) (.seq (.region [.mk (some 4) (.p (.mv (.c (.int .i64 (-1))))) none]
  [4] []) .ret) .skip)) (.seq (.region [.mk (some 29) (.p (.mv (.s 5))) none, .mk (some 4) (.p (.mv (.s 29))) none] [4] []) .ret))))))
theorem fn_guiseref17_value : (autoPrg Try.prog).fn 68 = some LF_guiseref17_value := by kernel_rfl

def LF_guiseref1_Bytes : LFunc :=
  .mk 1 [.tmp 2] (.seq (.region [.mk (some 2) (.p (.mv (.c (.slice none 0 0)))) none] [0] []) (.seq (.seq (.region [.mk (some 3) (.p (.mv (.s 0))) none, .mk (some 4) (.e (.call
  42 [.s 3])) none] [0, 4] []) (.block 0 (.seq (.region [.mk (some 6) (.p (.bin .eql (.s 4) (.c (.int .i64 1)))) none, .mk (some 5) (.p (.mv (.s 6))) none] [0, 4,
  5] []) (.cond (.s 5) (.seq (.region [.mk (some 7) (.p (.mv (.s 0))) none, .mk (some 8) (.p (.conv .u8 (.s 7))) none, .mk (some 9) (.e (.litH 1 1 [.int .u8 0] [(0, 1, .s 8)]))
  none, .mk (some 2) (.p (.mv (.s 9))) none] [2] []) .ret) (.seq (.region [.mk (some 11) (.p (.bin .eql (.s 4) (.c (.int .i64 2)))) none, .mk (some 10) (.p (.mv (.s 11))) none] [0,
  4, 10] []) (.cond (.s 10) (.seq (.region [.mk (some 12) (.p (.mv (.s 0))) none, .mk (some 13) (.p (.bin .shr (.s 12) (.c (.int .u64 6)))) none, .mk (some 14) (.p (.bin .or (.c
  (.int .i32 192)) (.s 13))) none, .mk (some 15) (.p (.conv .u8 (.s 14))) none, .mk (some 16) (.p (.mv (.s 0))) none, .mk (some 17) (.p (.bin .and (.s 16) (.c (.int .i32 63))))
  none, .mk (some 18) (.p (.bin .or (.c (.int .i32 128)) (.s 17))) none, .mk (some 19) (.p (.conv .u8 (.s 18))) none, .mk (some 20) (.e (.litH 2 1 [.int .u8 0] [(0, 1, .s 15), (1,
  1, .s 19)])) none, .mk (some 2) (.p (.mv (.s 20))) none] [2] []) .ret) (.seq (.region [.mk (some 22) (.p (.bin .eql (.s 4) (.c (.int .i64 3)))) none, .mk (some 21) (.p (.mv (.s
  22))) none] [0, 4, 21] []) (.cond (.s 21) (.seq (.region [.mk (some 23) (.p (.mv (.s 0))) none, .mk (some 24) (.p (.bin .shr (.s 23) (.c (.int .u64 12)))) none, .mk (some 25) (.p
  (.bin .or (.c (.int .i32 224)) (.s 24))) none, .mk (some 26) (.p (.conv .u8 (.s 25))) none, .mk (some 27) (.p (.mv (.s 0))) none, .mk (some 28) (.p (.bin .shr (.s 27) (.c (.int
  .u64 6)))) none, .mk (some 29) (.p (.bin .and (.s 28) (.c (.int .i32 63)))) none, .mk (some 30) (.p (.bin .or (.c (.int .i32 128)) (.s 29))) none, .mk (some 31) (.p (.conv .u8 (.s
  30))) none, .mk (some 32) (.p (.mv (.s 0))) none, .mk (some 33) (.p (.bin .and (.s 32) (.c (.int .i32 63)))) none, .mk (some 34) (.p (.bin .or (.c (.int .i32 128)) (.s 33))) none,
  .mk (some 35) (.p (.conv .u8 (.s 34))) none, .mk (some 36) (.e (.litH 3 1 [.int .u8 0] [(0, 1, .s 26), (1, 1, .s 31), (2, 1, .s 35)])) none, .mk (some 2) (.p (.mv (.s 36))) none]
  [2] []) .ret) (.seq (.region [.mk (some 38) (.p (.bin .eql (.s 4) (.c (.int .i64 4)))) none, .mk (some 37) (.p (.mv (.s 38))) none] [0, 37] []) (.cond (.s 37) (.seq (.region [.mk
  (some 39) (.p (.mv (.s 0))) none, .mk (some 40) (.p (.bin .shr (.s 39) (.c (.int .u64 18)))) none, .mk (some 41) (.p (.bin .or (.c (.int .i32 240)) (.s 40))) none, .mk (some 42)
  (.p (.conv .u8 (.s 41))) none, .mk (some 43) (.p (.mv (.s 0))) none, .mk (some 44) (.p (.bin .shr (.s 43) (.c (.int .u64 12)))) none, .mk (some 45) (.p (.bin .and (.s 44) (.c
  (.int .i32 63)))) none, .mk (some 46) (.p (.bin .or (.c (.int .i32 128)) (.s 45))) none, .mk (some 47) (.p (.conv .u8 (.s 46))) none, .mk (some 48) (.p (.mv (.s 0))) none, .mk
  (some 49) (.p (.bin .shr (.s 48) (.c (.int .u64 6)))) none, .mk (some 50) (.p (.bin .and (.s 49) (.c (.int .i32 63)))) none, .mk (some 51) (.p (.bin .or (.c (.int .i32 128)) (.s
  50))) none, .mk (some 52) (.p (.conv .u8 (.s 51))) none, .mk (some 53) (.p (.mv (.s 0))) none, .mk (some 54) (.p (.bin .and (.s 53) (.c (.int .i32 63)))) none, .mk (some 55) (.p
  (.bin .or (.c (.int .i32 128)) (.s 54))) none, .mk (some 56) (.p (.conv .u8 (.s 55))) none, .mk (some 57) (.e (.litH 4 1 [.int .u8 0] [(0, 1, .s 42), (1, 1, .s 47), (2, 1, .s 52),
  (3, 1, .s 56)])) none, .mk (some 2) (.p (.mv (.s 57))) none] [2] []) .ret) .skip)))))))))) (.seq (.region [.mk (some 2) (.p (.mv (.c (.slice none 0 0)))) none] [2] []) .ret)))
theorem fn_guiseref1_Bytes : (autoPrg Try.prog).fn 69 = some LF_guiseref1_Bytes := by kernel_rfl

def LF_guiseref1_second : LFunc :=
  .mk 1 [.tmp 2, .tmp 3] (.seq (.region [.mk (some 2) (.p (.mv (.c (.int .u8 0)))) none, .mk (some 3) (.p (.mv (.c (.int .u8 0)))) none] [0] []) (.seq (.block 0 (.seq (.seq (.region
  [.mk (some 5) (.p (.mv (.s 0))) none, .mk (some 6) (.p (.bin .geq (.s 5) (.c (.int .u8 194)))) none, .mk (some 7) (.p (.mv (.s 6))) none, .mk (some 8) (.p (.mv (.s 0))) (some (7,
  true)), .mk (some 9) (.p (.bin .leq (.s 8) (.c (.int .u8 223)))) (some (7, true)), .mk (some 10) (.p (.pick (.s 7) (.s 9) (.c (.bool false)))) none, .mk (some 4) (.p (.mv (.s
  10))) none] [0, 4] []) (.cond (.s 4) .skip (.seq (.region [.mk (some 11) (.p (.mv (.s 0))) none, .mk (some 12) (.p (.bin .geq (.s 11) (.c (.int .u8 225)))) none, .mk (some 13) (.p
  (.mv (.s 12))) none, .mk (some 14) (.p (.mv (.s 0))) (some (13, true)), .mk (some 15) (.p (.bin .leq (.s 14) (.c (.int .u8 236)))) (some (13, true)), .mk (some 16) (.p (.pick (.s
  13) (.s 15) (.c (.bool false)))) none, .mk (some 4) (.p (.mv (.s 16))) none] [0, 4] []) (.cond (.s 4) .skip (.seq (.region [.mk (some 17) (.p (.mv (.s 0))) none, .mk (some 18) (.p
  (.bin .eql (.s 17) (.c (.int .u8 238)))) none, .mk (some 4) (.p (.mv (.s 18))) none] [0, 4] []) (.cond (.s 4) .skip (.seq (.region [.mk (some 19) (.p (.mv (.s 0))) none, .mk (some
  20) (.p (.bin .eql (.s 19) (.c (.int .u8 239)))) none, .mk (some 4) (.p (.mv (.s 20))) none] [0, 4] []) (.cond (.s 4) .skip (.region [.mk (some 21) (.p (.mv (.s 0))) none, .mk
  (some 22) (.p (.bin .geq (.s 21) (.c (.int .u8 241)))) none, .mk (some 23) (.p (.mv (.s 22))) none, .mk (some 24) (.p (.mv (.s 0))) (some (23, true)), .mk (some 25) (.p (.bin .leq
  (.s 24) (.c (.int .u8 243)))) (some (23, true)), .mk (some 26) (.p (.pick (.s 23) (.s 25) (.c (.bool false)))) none, .mk (some 4) (.p (.mv (.s 26))) none] [0, 4] [])))))))))
  (.cond (.s 4) (.seq (.region [.mk (some 2) (.p (.mv (.c (.int .u8 128)))) none, .mk (some 3) (.p (.mv (.c (.int .u8 191)))) none] [2, 3] []) .ret) (.seq (.region [.mk (some 28)
  (.p (.mv (.s 0))) none, .mk (some 29) (.p (.bin .eql (.s 28) (.c (.int .u8 224)))) none, .mk (some 27) (.p (.mv (.s 29))) none] [0, 27] []) (.cond (.s 27) (.seq (.region [.mk
  (some 2) (.p (.mv (.c (.int .u8 160)))) none, .mk (some 3) (.p (.mv (.c (.int .u8 191)))) none] [2, 3] []) .ret) (.seq (.region [.mk (some 31) (.p (.mv (.s 0))) none, .mk (some
  32) (.p (.bin .eql (.s 31) (.c (.int .u8 237)))) none, .mk (some 30) (.p (.mv (.s 32))) none] [0, 30] []) (.cond (.s 30) (.seq (.region [.mk (some 2) (.p (.mv (.c (.int .u8
  128)))) none, .mk (some 3) (.p (.mv (.c (.int .u8 159)))) none] [2, 3] []) .ret) (.seq (.region [.mk (some 34) (.p (.mv (.s 0))) none, .mk (some 35) (.p (.bin .eql (.s 34) (.c
  (.int .u8 240)))) none, .mk (some 33) (.p (.mv (.s 35))) none] [0, 33] []) (.cond (.s 33) (.seq (.region [.mk (some 2) (.p (.mv (.c (.int .u8 144)))) none, .mk (some 3) (.p (.mv
  (.c (.int .u8 191)))) none] [2, 3] []) .ret) (.seq (.region [.mk (some 37) (.p (.mv (.s 0))) none, .mk (some 38) (.p (.bin .eql (.s 37) (.c (.int .u8 244)))) none, .mk (some 36)
  (.p (.mv (.s 38))) none] [36] []) (.cond (.s 36) (.seq (.region [.mk (some 2) (.p (.mv (.c (.int .u8 128)))) none, .mk (some 3) (.p (.mv (.c (.int .u8 143)))) none] [2, 3] [])
  .ret) .skip))))))))))) (.seq (.region [.mk (some 2) (.p (.mv (.c (.int .u8 0)))) none, .mk (some 3) (.p (.mv (.c (.int .u8 0)))) none] [2, 3] []) .ret)))
theorem fn_guiseref1_second : (autoPrg Try.prog).fn 78 = some LF_guiseref1_second := by kernel_rfl

end Go.Proofs.Ytmfpkgcphlilmaa.AM
