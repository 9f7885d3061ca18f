/- Lifted functions, each a constant. -/
import Derived.Test.YtmfpkgcphlilmaaUtfL
set_option linter.unusedVariables false
namespace Go.Proofs.Ytmfpkgcphlilmaa.AM
open Go

def LF_boot_Right : LFunc :=
  .mk 1 [.tmp 2] (.seq (.region [.mk (some 1) (.e (.boxL 1 7 (.s 0))) none, .mk (some 2) (.p (.mv (.c (.bool false)))) none] [1] []) (.seq (.region [.mk (some 3) (.p (.mv (.c (.func
  (.func 26) (Array.mk []) (Array.mk []))))) none] [1, 3] []) (.seq (.region [.mk (some 4) (.p (.mv (.s 3))) none, .mk (some 5) (.p (.faddr 0 (.s 1))) none, .mk (some
  6) (.r (.load none (.s 5))) none, .mk (some 7) (.e (.callv (.s 4) [.s 6, .c (.int .i64 3), .c (.int .i64 36)])) none, .mk (some 8) (.p (.mv (.s 7))) none, .mk (some 9) (.p (.mv
  (.s 3))) (some (8, true)), .mk (some 10) (.p (.faddr 1 (.s 1))) (some (8, true)), .mk (some 11) (.r (.load none (.s 10))) (some (8, true)), .mk (some 12) (.p (.faddr 2 (.s 1)))
  (some (8, true)), .mk (some 13) (.r (.load none (.s 12))) (some (8, true)), .mk (some 14) (.e (.callv (.s 9) [.s 11, .c (.int .i64 1), .s 13])) (some (8, true)), .mk (some 15) (.p
  (.pick (.s 8) (.s 14) (.c (.bool false)))) none, .mk (some 16) (.p (.mv (.s 15))) none, .mk (some 17) (.p (.faddr 2 (.s 1))) (some (16, true)), .mk (some 18) (.r (.load none (.s
  17))) (some (16, true)), .mk (some 19) (.p (.faddr 0 (.s 1))) (some (16, true)), .mk (some 20) (.r (.load none (.s 19))) (some (16, true)), .mk (some 21) (.p (.bin .sub (.s 20)
  (.c (.int .i64 2)))) (some (16, true)), .mk (some 22) (.p (.bin .leq (.s 18) (.s 21))) (some (16, true)), .mk (some 23) (.p (.pick (.s 16) (.s 22) (.c (.bool false)))) none, .mk
  (some 24) (.p (.mv (.s 23))) none, .mk (some 25) (.p (.mv (.s 3))) (some (24, true)), .mk (some 26) (.p (.faddr 3 (.s 1))) (some (24, true)), .mk (some 27) (.r (.load none (.s
  26))) (some (24, true)), .mk (some 28) (.e (.callv (.s 25) [.s 27, .c (.int .i64 1), .c (.int .i64 1000)])) (some (24, true)), .mk (some 29) (.p (.pick (.s 24) (.s 28) (.c (.bool
  false)))) none, .mk (some 30) (.p (.mv (.s 29))) none, .mk (some 31) (.p (.mv (.s 3))) (some (30, true)), .mk (some 32) (.p (.faddr 4 (.s 1))) (some (30, true)), .mk (some 33) (.r
  (.load none (.s 32))) (some (30, true)), .mk (some 34) (.e (.callv (.s 31) [.s 33, .c (.int .i64 2), .c (.int .i64 10000)])) (some (30, true)), .mk (some 35) (.p (.pick (.s 30)
  (.s 34) (.c (.bool false)))) none, .mk (some 36) (.p (.mv (.s 35))) none, .mk (some 37) (.p (.mv (.s 3))) (some (36, true)), .mk (some 38) (.p (.faddr 5 (.s 1))) (some (36,
  true)), .mk (some 39) (.r (.load none (.s 38))) (some (36, true)), .mk (some 40) (.e (.callv (.s 37) [.s 39, .c (.int .i64 0), .c (.int .i64 1000)])) (some (36, true)), .mk (some
  41) (.p (.pick (.s 36) (.s 40) (.c (.bool false)))) none, .mk (some 42) (.p (.mv (.s 41))) none, .mk (some 43) (.p (.faddr 6 (.s 1))) (some (42, true)), .mk (some 44) (.r (.load
  none (.s 43))) (some (42, true)), .mk (some 45) (.p (.bin .geq (.s 44) (.c (.int .i32 128)))) (some (42, true)), .mk (some 46) (.p (.pick (.s 42) (.s 45) (.c (.bool false))))
  none, .mk (some 47) (.p (.mv (.s 46))) none, .mk (some 48) (.p (.faddr 6 (.s 1))) (some (47, true)), .mk (some 49) (.r (.load none (.s 48))) (some (47, true)), .mk (some 50) (.e
  (.call 27 [.s 49])) (some (47, true)), .mk (some 51) (.p (.pick (.s 47) (.s 50) (.c (.bool false)))) none, .mk (some 2) (.p (.mv (.s 51))) none] [2] []) .ret)))
theorem fn_boot_Right : (autoPrg Try.prog).fn 15 = some LF_boot_Right := by kernel_rfl

def LF_boot_Right_1 : LFunc :=
  .mk 3 [.tmp 6] (.seq (.region [.mk (some 6) (.p (.mv (.c (.bool false)))) none] [0, 1, 2] []) (.seq (.region [.mk (some 7) (.p (.mv (.s 1))) none, .mk (some 8) (.p (.mv (.s 0)))
  none, .mk (some 9) (.p (.bin .leq (.s 7) (.s 8))) none, .mk (some 10) (.p (.mv (.s 9))) none, .mk (some 11) (.p (.mv (.s 0))) (some (10, true)), .mk (some 12) (.p (.mv (.s 2)))
  (some (10, true)), .mk (some 13) (.p (.bin .leq (.s 11) (.s 12))) (some (10, true)), .mk (some 14) (.p (.pick (.s 10) (.s 13) (.c (.bool false)))) none, .mk (some 6) (.p (.mv (.s
  14))) none] [6] []) .ret))
theorem fn_boot_Right_1 : (autoPrg Try.prog).fn 26 = some LF_boot_Right_1 := by kernel_rfl

def LF_boot_Encode : LFunc :=
  .mk 2 [.cell 4 none, .cell 5 none] (.seq (.region [.mk (some 2) (.e (.boxH 7 (.s 0))) none, .mk (some 4) (.e (.newH [.string ⟨#[]⟩])) none, .mk (some 5) (.e (.newH [.int .i64 0]))
  none] [1, 2, 4, 5] []) (.seq (.block 0 (.seq (.region [.mk (some 19) (.r (.load (some 7) (.s 2))) none, .mk (some 20) (.e (.call 15 [.s 19])) none, .mk (some 21) (.p
  (.un .not (.s 20))) none, .mk (some 18) (.p (.mv (.s 21))) none] [1, 2, 4, 5, 18] []) (.cond (.s 18) (.seq (.region [.mk none (.e (.store 1 (.s 4) (.c (.string ⟨#[]⟩)))) none, .mk
  none (.e (.store 1 (.s 5) (.c (.int .i64 1)))) none] [4, 5] []) .ret) (.seq (.region [.mk (some 23) (.p (.mv (.s 1))) none, .mk (some 24) (.p (.slen (.s 23))) none, .mk (some 25)
  (.p (.bin .gtr (.s 24) (.c (.int .i64 65536)))) none, .mk (some 22) (.p (.mv (.s 25))) none] [1, 2, 4, 5, 22] []) (.cond (.s 22) (.seq (.region [.mk none (.e (.store 1 (.s 4) (.c
  (.string ⟨#[]⟩)))) none, .mk none (.e (.store 1 (.s 5) (.c (.int .i64 3)))) none] [4, 5] []) .ret) .skip))))) (.seq (.region [.mk (some 6) (.e (.newH [.slice none 0 0])) none] [1,
  2, 4, 5, 6] []) (.seq (.region [.mk (some 7) (.e (.newH [.slice none 0 0])) none] [1, 2, 4, 5, 6, 7] []) (.seq (.region [.mk (some 8) (.e (.newH [.int .i64 0])) none, .mk none (.e
  (.store 1 (.s 8) (.c (.int .i64 0)))) none] [1, 2, 4, 5, 6, 7, 8] []) (.seq (.region [.mk (some 9) (.e (.newH [.slice none 0 0])) none] [1, 2, 4, 5, 6, 7, 8, 9] []) (.seq (.seq
  (.region [.mk (some 26) (.p (.mv (.s 1))) none, .mk (some 27) (.e (.call 28 [.s 26])) none] [2, 4, 5, 6, 7, 8, 9, 27] []) (.block 1 (.rangeF (.s 27) [28, 29] (.region
  [.mk (some 11) (.e (.newL 11 [.int .i32 0, .int .i64 0, .bool false])) none, .mk none (.e (.store 3 (.s 11) (.s 29))) none] [2, 4, 5, 6, 7, 8, 9, 11] []) (.block 2 (.seq (.block 3
  (.seq (.region [.mk (some 31) (.r (.load none (.s 8))) none, .mk (some 32) (.p (.bin .geq (.s 31) (.c (.int .i64 4096)))) none, .mk (some 30) (.p (.mv (.s 32))) none] [2, 4, 5, 6,
  7, 8, 9, 11, 30] []) (.cond (.s 30) (.seq (.region [.mk none (.e (.store 1 (.s 4) (.c (.string ⟨#[]⟩)))) none, .mk none (.e (.store 1 (.s 5) (.c (.int .i64 4)))) none] [] [])
  .ret) (.seq (.region [.mk (some 34) (.p (.faddr 2 (.s 11))) none, .mk (some 35) (.r (.load none (.s 34))) none, .mk (some 33) (.p (.mv (.s 35))) none] [2, 4, 5, 6, 7, 8, 9, 11,
  33] []) (.cond (.s 33) (.seq (.region [.mk none (.e (.store 1 (.s 4) (.c (.string ⟨#[]⟩)))) none, .mk none (.e (.store 1 (.s 5) (.c (.int .i64 10)))) none] [] []) .ret) (.seq
  (.region [.mk (some 37) (.p (.faddr 0 (.s 11))) none, .mk (some 38) (.r (.load none (.s 37))) none, .mk (some 39) (.p (.faddr 6 (.s 2))) none, .mk (some 40) (.r (.load none (.s
  39))) none, .mk (some 41) (.p (.bin .geq (.s 38) (.s 40))) none, .mk (some 36) (.p (.mv (.s 41))) none] [4, 5, 6, 7, 8, 9, 11, 36] []) (.cond (.s 36) (.region [.mk (some 42) (.r
  (.load none (.s 7))) none, .mk (some 43) (.p (.faddr 0 (.s 11))) none, .mk (some 44) (.r (.load none (.s 43))) none, .mk (some 45) (.r (.load none (.s 8))) none, .mk (some 46) (.p
  (.build [.int .i32 0, .int .i64 0] [(0, 1, .s 44), (1, 1, .s 45)])) none, .mk (some 47) (.e (.litL 47 1 2 [.int .i32 0, .int .i64 0] [(0, 2, .s 46)])) none, .mk (some 48) (.e
  (.append 2 16 (.s 42) (.s 47))) none, .mk none (.e (.store 1 (.s 7) (.s 48))) none] [8] []) (.seq (.region [.mk (some 50) (.p (.faddr 0 (.s 11))) none, .mk (some 51) (.r (.load
  none (.s 50))) none, .mk (some 52) (.e (.call 29 [.s 51])) none, .mk (some 49) (.p (.mv (.s 52))) none] [4, 5, 6, 8, 9, 11, 49] []) (.cond (.s 49) (.seq (.region [.mk
  (some 53) (.r (.load none (.s 6))) none, .mk (some 54) (.p (.faddr 0 (.s 11))) none, .mk (some 55) (.r (.load none (.s 54))) none, .mk (some 56) (.p (.conv .u8 (.s 55))) none, .mk
  (some 57) (.e (.litL 57 1 1 [.int .u8 0] [(0, 1, .s 56)])) none, .mk (some 58) (.e (.append 1 1 (.s 53) (.s 57))) none, .mk none (.e (.store 1 (.s 6) (.s 58))) none] [8, 9] [])
  (.region [.mk (some 59) (.r (.load none (.s 9))) none, .mk (some 60) (.r (.load none (.s 8))) none, .mk (some 61) (.e (.litL 61 1 1 [.int .i64 0] [(0, 1, .s 60)])) none, .mk (some
  62) (.e (.append 1 8 (.s 59) (.s 61))) none, .mk none (.e (.store 1 (.s 9) (.s 62))) none] [8] [])) (.seq (.region [.mk none (.e (.store 1 (.s 4) (.c (.string ⟨#[]⟩)))) none, .mk
  none (.e (.store 1 (.s 5) (.c (.int .i64 50)))) none] [] []) .ret)))))))))) (.region [.mk (some 63) (.r (.load none (.s 8))) none, .mk (some 64) (.p (.bin .add (.s 63) (.c (.int
  .i64 1)))) none, .mk none (.e (.store 1 (.s 8) (.s 64))) none] [] [])))))) (.seq (.seq (.region [.mk (some 65) (.r (.load none (.s 6))) none, .mk (some 66) (.p (.len (.s 65)))
  none, .mk (some 67) (.p (.bin .gtr (.s 66) (.c (.int .i64 0)))) none] [2, 4, 5, 6, 7, 9, 67] []) (.cond (.s 67) (.region [.mk (some 68) (.r (.load none (.s 6))) none, .mk (some
  69) (.e (.litL 69 1 1 [.int .u8 0] [(0, 1, .c (.int .u8 45))])) none, .mk (some 70) (.e (.append 1 1 (.s 68) (.s 69))) none, .mk none (.e (.store 1 (.s 6) (.s 70))) none] [2, 4,
  5, 6, 7, 9] []) .skip)) (.seq (.region [.mk (some 71) (.r (.load none (.s 7))) none, .mk (some 72) (.e (.call 30 [.s 71, .c (.func
  (.func 31) (Array.mk []) (Array.mk []))])) none] [2, 4, 5, 6, 7, 9] []) (.seq (.region [.mk (some 73) (.r (.load (some 7) (.s 2))) none, .mk (some 74) (.e (.call
  33 [.s 73])) none, .mk (some 12) (.e (.newH [.int .i64 0, .int .i64 0, .int .i64 0, .int .i64 0, .int .i64 0, .int .i64 0, .int .i32 0, .int .i64 0, .int .i32 0, .int
  .i64 0, .int .i64 0])) none, .mk none (.e (.store 11 (.s 12) (.s 74))) none] [4, 5, 6, 7, 9, 12] []) (.seq (.seq (.region [.mk (some 75) (.r (.load none (.s 7))) none, .mk (some
  76) (.p (.len (.s 75))) none, .mk (some 77) (.p (.mv (.c (.int .i64 0)))) none] [4, 5, 6, 9, 12, 75, 76, 77] []) (.block 4 (.loop (.seq (.region [.mk (some 78) (.p (.bin .lss (.s
  77) (.s 76))) none] [4, 5, 6, 9, 12, 75, 76, 77, 78] []) (.seq (.cond (.s 78) .skip (.exit 4)) (.seq (.block 5 (.seq (.region [.mk (some 79) (.p (.iaddr 2 (.s 75) (.s 77))) none,
  .mk (some 80) (.r (.load (some 2) (.s 79))) none, .mk (some 14) (.e (.newL 14 [.int .i32 0, .int .i64 0])) none, .mk none (.e (.store 2 (.s 14) (.s 80))) none] [4, 5, 6, 9, 12,
  14, 75, 76, 77] []) (.seq (.region [.mk (some 82) (.r (.load none (.s 9))) none, .mk (some 83) (.p (.faddr 1 (.s 14))) none, .mk (some 84) (.r (.load none (.s 83))) none, .mk
  (some 85) (.e (.call 34 [.s 82, .s 84])) none, .mk (some 81) (.p (.mv (.s 85))) none, .mk (some 86) (.p (.ext 0 (.s 81))) none, .mk (some 87) (.p
  (.ext 1 (.s 81))) none, .mk (some 15) (.p (.mv (.s 86))) none, .mk (some 16) (.p (.mv (.s 87))) none] [4, 5, 6, 9, 12, 14, 15, 75, 76, 77] []) (.seq (.region [.mk (some 88) (.p
  (.faddr 0 (.s 14))) none, .mk (some 89) (.r (.load none (.s 88))) none, .mk (some 90) (.p (.faddr 8 (.s 12))) none, .mk (some 91) (.r (.load none (.s 90))) none, .mk (some 92) (.p
  (.bin .sub (.s 89) (.s 91))) none, .mk (some 93) (.p (.conv .i64 (.s 92))) none, .mk (some 94) (.r (.load none (.s 9))) none, .mk (some 95) (.p (.len (.s 94))) none, .mk (some 96)
  (.p (.bin .add (.s 95) (.c (.int .i64 1)))) none, .mk (some 97) (.p (.bin .mul (.s 93) (.s 96))) none, .mk (some 98) (.p (.mv (.s 15))) none, .mk (some 99) (.p (.bin .add (.s 97)
  (.s 98))) none, .mk (some 100) (.p (.faddr 9 (.s 12))) none, .mk (some 101) (.r (.load none (.s 100))) none, .mk (some 102) (.p (.bin .sub (.s 99) (.s 101))) none, .mk (some 17)
  (.p (.mv (.s 102))) none] [4, 5, 6, 9, 12, 14, 15, 17, 75, 76, 77] []) (.seq (.region [.mk (some 103) (.r (.load none (.s 6))) none, .mk (some 104) (.p (.mv (.s 17))) none, .mk
  (some 105) (.e (.call 35 [.s 12, .s 103, .s 104])) none, .mk none (.e (.store 1 (.s 6) (.s 105))) none] [4, 5, 6, 9, 12, 14, 15, 17, 75, 76, 77] []) (.seq
  (.region [.mk (some 106) (.r (.load none (.s 9))) none, .mk (some 107) (.p (.mv (.s 15))) none, .mk (some 108) (.p (.faddr 1 (.s 14))) none, .mk (some 109) (.r (.load none (.s
  108))) none, .mk (some 110) (.e (.litH 1 1 [.int .i64 0] [(0, 1, .s 109)])) none, .mk (some 111) (.e (.call 36 [.s 106, .s 107, .s 110])) none, .mk none
  (.e (.store 1 (.s 9) (.s 111))) none] [4, 5, 6, 9, 12, 14, 15, 17, 75, 76, 77] []) (.seq (.region [.mk (some 112) (.p (.mv (.s 17))) none, .mk (some 113) (.r (.load none (.s 9)))
  none, .mk (some 114) (.p (.len (.s 113))) none, .mk (some 115) (.e (.call 37 [.s 12, .s 112, .s 114])) none] [4, 5, 6, 9, 12, 14, 15, 75, 76, 77] []) (.seq
  (.region [.mk (some 116) (.p (.faddr 0 (.s 14))) none, .mk (some 117) (.r (.load none (.s 116))) none, .mk (some 118) (.p (.mv (.s 15))) none, .mk (some 119) (.p (.bin .add (.s
  118) (.c (.int .i64 1)))) none, .mk (some 120) (.p (.faddr 8 (.s 12))) none, .mk none (.e (.store 1 (.s 120) (.s 117))) none, .mk (some 121) (.p (.faddr 9 (.s 12))) none, .mk none
  (.e (.store 1 (.s 121) (.s 119))) none] [4, 5, 6, 9, 12, 75, 76, 77] []) (.seq (.region [.mk (some 122) (.r (.load none (.s 6))) none, .mk (some 123) (.p (.len (.s 122))) none,
  .mk (some 124) (.p (.bin .gtr (.s 123) (.c (.int .i64 65536)))) none] [4, 5, 6, 9, 12, 75, 76, 77, 124] []) (.cond (.s 124) (.seq (.region [.mk none (.e (.store 1 (.s 4) (.c
  (.string ⟨#[]⟩)))) none, .mk none (.e (.store 1 (.s 5) (.c (.int .i64 3)))) none] [4, 5] []) .ret) .skip)))))))))) (.region [.mk (some 125) (.p (.bin .add (.s 77) (.c (.int .i64
  1)))) none, .mk (some 77) (.p (.mv (.s 125))) none] [4, 5, 6, 9, 12, 75, 76, 77] []))))))) (.seq (.region [.mk (some 126) (.r (.load none (.s 6))) none, .mk (some 127) (.r (.b2s
  (.s 126))) none, .mk none (.e (.store 1 (.s 4) (.s 127))) none, .mk none (.e (.store 1 (.s 5) (.c (.int .i64 0)))) none] [4, 5] []) .ret))))))))))))
theorem fn_boot_Encode : (autoPrg Try.prog).fn 16 = some LF_boot_Encode := by kernel_rfl

def LF_boot_Encode_1 : LFunc :=
  .mk 2 [.tmp 4] (.seq (.region [.mk (some 2) (.e (.boxL 2 2 (.s 0))) none, .mk (some 3) (.e (.boxL 3 2 (.s 1))) none, .mk (some 4) (.p (.mv (.c (.int .i64 0)))) none] [2, 3] [])
  (.seq (.region [.mk (some 5) (.p (.faddr 0 (.s 2))) none, .mk (some 6) (.r (.load none (.s 5))) none, .mk (some 7) (.p (.faddr 0 (.s 3))) none, .mk (some 8) (.r (.load none (.s
  7))) none, .mk (some 9) (.e (.call 32 [.s 6, .s 8])) none, .mk (some 4) (.p (.mv (.s 9))) none] [4] []) .ret))
theorem fn_boot_Encode_1 : (autoPrg Try.prog).fn 31 = some LF_boot_Encode_1 := by kernel_rfl

def LF_cmp_Compare_rune : LFunc :=
  .mk 2 [.tmp 4] (.seq (.region [.mk (some 4) (.p (.mv (.c (.int .i64 0)))) none] [0, 1] []) (.seq (.region [.mk (some 7) (.p (.mv (.s 0))) none, .mk (some 8) (.e (.call
  55 [.s 7])) none, .mk (some 5) (.p (.mv (.s 8))) none] [0, 1, 5] []) (.seq (.region [.mk (some 9) (.p (.mv (.s 1))) none, .mk (some 10) (.e (.call
  55 [.s 9])) none, .mk (some 6) (.p (.mv (.s 10))) none] [0, 1, 5, 6] []) (.seq (.seq (.region [.mk (some 11) (.p (.mv (.s 5))) none] [0, 1, 6, 11] []) (.cond (.s
  11) (.seq (.seq (.region [.mk (some 12) (.p (.mv (.s 6))) none] [12] []) (.cond (.s 12) (.seq (.region [.mk (some 4) (.p (.mv (.c (.int .i64 0)))) none] [4] []) .ret) .skip))
  (.seq (.region [.mk (some 4) (.p (.mv (.c (.int .i64 (-1))))) none] [4] []) .ret)) .skip)) (.seq (.seq (.region [.mk (some 13) (.p (.mv (.s 6))) none] [0, 1, 13] []) (.cond (.s
  13) (.seq (.region [.mk (some 4) (.p (.mv (.c (.int .i64 1)))) none] [4] []) .ret) .skip)) (.seq (.seq (.region [.mk (some 14) (.p (.mv (.s 0))) none, .mk (some 15) (.p (.mv (.s
  1))) none, .mk (some 16) (.p (.bin .lss (.s 14) (.s 15))) none] [0, 1, 16] []) (.cond (.s 16) (.seq (.region [.mk (some 4) (.p (.mv (.c (.int .i64 (-1))))) none] [4] []) .ret)
  .skip)) (.seq (.seq (.region [.mk (some 17) (.p (.mv (.s 0))) none, .mk (some 18) (.p (.mv (.s 1))) none, .mk (some 19) (.p (.bin .gtr (.s 17) (.s 18))) none] [19] []) (.cond (.s
  19) (.seq (.region [.mk (some 4) (.p (.mv (.c (.int .i64 1)))) none] [4] []) .ret) .skip)) (.seq (.region [.mk (some 4) (.p (.mv (.c (.int .i64 0)))) none] [4] []) .ret))))))))
theorem fn_cmp_Compare_rune : (autoPrg Try.prog).fn 32 = some LF_cmp_Compare_rune := by kernel_rfl

def LF_cmp_isNaN_rune : LFunc :=
  .mk 1 [.tmp 2] (.seq (.region [.mk (some 2) (.p (.mv (.c (.bool false)))) none] [0] []) (.seq (.region [.mk (some 3) (.p (.mv (.s 0))) none, .mk (some 4) (.p (.mv (.s 0))) none,
  .mk (some 5) (.p (.bin .neq (.s 3) (.s 4))) none, .mk (some 2) (.p (.mv (.s 5))) none] [2] []) .ret))
theorem fn_cmp_isNaN_rune : (autoPrg Try.prog).fn 55 = some LF_cmp_isNaN_rune := by kernel_rfl

def LF_boot_begin : LFunc :=
  .mk 1 [.cell 2 (some 11)] (.seq (.region [.mk (some 1) (.e (.boxL 1 7 (.s 0))) none, .mk (some 2) (.e (.newL 2 [.int .i64 0, .int .i64 0, .int .i64 0, .int .i64 0, .int .i64 0,
  .int .i64 0, .int .i32 0, .int .i64 0, .int .i32 0, .int .i64 0, .int .i64 0])) none] [1, 2] []) (.seq (.region [.mk (some 3) (.r (.load (some 7) (.s 1))) none, .mk (some 4) (.p
  (.faddr 5 (.s 1))) none, .mk (some 5) (.r (.load none (.s 4))) none, .mk (some 6) (.p (.faddr 6 (.s 1))) none, .mk (some 7) (.r (.load none (.s 6))) none, .mk (some 8) (.p (.build
  [.int .i64 0, .int .i64 0, .int .i64 0, .int .i64 0, .int .i64 0, .int .i64 0, .int .i32 0, .int .i64 0, .int .i32 0, .int .i64 0, .int .i64 0] [(0, 7, .s 3), (7, 1, .s 5), (8, 1,
  .s 7)])) none, .mk none (.e (.store 11 (.s 2) (.s 8))) none] [2] []) .ret))
theorem fn_boot_begin : (autoPrg Try.prog).fn 33 = some LF_boot_begin := by kernel_rfl

def LF_slices_BinarySearch_int_int : LFunc :=
  .mk 2 [.tmp 4, .tmp 5] (.seq (.region [.mk (some 4) (.p (.mv (.c (.int .i64 0)))) none, .mk (some 5) (.p (.mv (.c (.bool false)))) none] [0, 1] []) (.seq (.region [.mk (some 10)
  (.p (.mv (.s 0))) none, .mk (some 11) (.p (.len (.s 10))) none, .mk (some 6) (.p (.mv (.s 11))) none] [0, 1, 6] []) (.seq (.region [.mk (some 12) (.p (.mv (.s 6))) none, .mk (some
  7) (.p (.mv (.c (.int .i64 0)))) none, .mk (some 8) (.p (.mv (.s 12))) none] [0, 1, 6, 7, 8] []) (.seq (.block 0 (.loop (.seq (.seq (.region [.mk (some 13) (.p (.mv (.s 7))) none,
  .mk (some 14) (.p (.mv (.s 8))) none, .mk (some 15) (.p (.bin .lss (.s 13) (.s 14))) none] [0, 1, 6, 7, 8, 15] []) (.cond (.s 15) .skip (.exit 0))) (.block 1 (.seq (.region [.mk
  (some 16) (.p (.mv (.s 7))) none, .mk (some 17) (.p (.mv (.s 8))) none, .mk (some 18) (.p (.bin .add (.s 16) (.s 17))) none, .mk (some 19) (.p (.conv .u64 (.s 18))) none, .mk
  (some 20) (.p (.bin .shr (.s 19) (.c (.int .u64 1)))) none, .mk (some 21) (.p (.conv .i64 (.s 20))) none, .mk (some 9) (.p (.mv (.s 21))) none] [0, 1, 6, 7, 8, 9] []) (.seq
  (.region [.mk (some 22) (.p (.mv (.s 0))) none, .mk (some 23) (.p (.mv (.s 9))) none, .mk (some 24) (.p (.iaddr 1 (.s 22) (.s 23))) none, .mk (some 25) (.r (.load none (.s 24)))
  none, .mk (some 26) (.p (.mv (.s 1))) none, .mk (some 27) (.e (.call 56 [.s 25, .s 26])) none] [0, 1, 6, 7, 8, 9, 27] []) (.cond (.s 27) (.region [.mk (some 28) (.p
  (.mv (.s 9))) none, .mk (some 29) (.p (.bin .add (.s 28) (.c (.int .i64 1)))) none, .mk (some 7) (.p (.mv (.s 29))) none] [0, 1, 6, 7, 8] []) (.region [.mk (some 30) (.p (.mv (.s
  9))) none, .mk (some 8) (.p (.mv (.s 30))) none] [0, 1, 6, 7, 8] [])))))))) (.seq (.region [.mk (some 31) (.p (.mv (.s 7))) none, .mk (some 32) (.p (.mv (.s 7))) none, .mk (some
  33) (.p (.mv (.s 6))) none, .mk (some 34) (.p (.bin .lss (.s 32) (.s 33))) none, .mk (some 35) (.p (.mv (.s 34))) none, .mk (some 36) (.p (.mv (.s 0))) (some (35, true)), .mk
  (some 37) (.p (.mv (.s 7))) (some (35, true)), .mk (some 38) (.p (.iaddr 1 (.s 36) (.s 37))) (some (35, true)), .mk (some 39) (.r (.load none (.s 38))) (some (35, true)), .mk
  (some 40) (.p (.mv (.s 1))) (some (35, true)), .mk (some 41) (.p (.bin .eql (.s 39) (.s 40))) (some (35, true)), .mk (some 42) (.p (.mv (.s 41))) (some (35, true)), .mk (some 43)
  (.p (.mv (.s 0))) (some (42, false)), .mk (some 44) (.p (.mv (.s 7))) (some (42, false)), .mk (some 45) (.p (.iaddr 1 (.s 43) (.s 44))) (some (42, false)), .mk (some 46) (.r
  (.load none (.s 45))) (some (42, false)), .mk (some 47) (.e (.call 57 [.s 46])) (some (42, false)), .mk (some 48) (.p (.mv (.s 47))) (some (42, false)), .mk
  (some 49) (.p (.mv (.s 1))) (some (48, true)), .mk (some 50) (.e (.call 57 [.s 49])) (some (48, true)), .mk (some 51) (.p (.pick (.s 48) (.s 50) (.c (.bool
  false)))) (some (42, false)), .mk (some 52) (.p (.pick (.s 42) (.c (.bool true)) (.s 51))) (some (35, true)), .mk (some 53) (.p (.pick (.s 35) (.s 52) (.c (.bool false)))) none,
  .mk (some 4) (.p (.mv (.s 31))) none, .mk (some 5) (.p (.mv (.s 53))) none] [4, 5] []) .ret)))))
theorem fn_slices_BinarySearch_int_int : (autoPrg Try.prog).fn 34 = some LF_slices_BinarySearch_int_int := by kernel_rfl

def LF_cmp_Less_int : LFunc :=
  .mk 2 [.tmp 4] (.seq (.region [.mk (some 4) (.p (.mv (.c (.bool false)))) none] [0, 1] []) (.seq (.region [.mk (some 5) (.p (.mv (.s 0))) none, .mk (some 6) (.e (.call
  74 [.s 5])) none, .mk (some 7) (.p (.mv (.s 6))) none, .mk (some 8) (.p (.mv (.s 1))) (some (7, true)), .mk (some 9) (.e (.call 74 [.s 8])) (some
  (7, true)), .mk (some 10) (.p (.un .not (.s 9))) (some (7, true)), .mk (some 11) (.p (.pick (.s 7) (.s 10) (.c (.bool false)))) none, .mk (some 12) (.p (.mv (.s 11))) none, .mk
  (some 13) (.p (.mv (.s 0))) (some (12, false)), .mk (some 14) (.p (.mv (.s 1))) (some (12, false)), .mk (some 15) (.p (.bin .lss (.s 13) (.s 14))) (some (12, false)), .mk (some
  16) (.p (.pick (.s 12) (.c (.bool true)) (.s 15))) none, .mk (some 4) (.p (.mv (.s 16))) none] [4] []) .ret))
theorem fn_cmp_Less_int : (autoPrg Try.prog).fn 56 = some LF_cmp_Less_int := by kernel_rfl

def LF_slices_isNaN_int : LFunc :=
  .mk 1 [.tmp 2] (.seq (.region [.mk (some 2) (.p (.mv (.c (.bool false)))) none] [0] []) (.seq (.region [.mk (some 3) (.p (.mv (.s 0))) none, .mk (some 4) (.p (.mv (.s 0))) none,
  .mk (some 5) (.p (.bin .neq (.s 3) (.s 4))) none, .mk (some 2) (.p (.mv (.s 5))) none] [2] []) .ret))
theorem fn_slices_isNaN_int : (autoPrg Try.prog).fn 57 = some LF_slices_isNaN_int := by kernel_rfl

def LF_cmp_isNaN_int : LFunc :=
  .mk 1 [.tmp 2] (.seq (.region [.mk (some 2) (.p (.mv (.c (.bool false)))) none] [0] []) (.seq (.region [.mk (some 3) (.p (.mv (.s 0))) none, .mk (some 4) (.p (.mv (.s 0))) none,
  .mk (some 5) (.p (.bin .neq (.s 3) (.s 4))) none, .mk (some 2) (.p (.mv (.s 5))) none] [2] []) .ret))
theorem fn_cmp_isNaN_int : (autoPrg Try.prog).fn 74 = some LF_cmp_isNaN_int := by kernel_rfl

def LF_boot_state_write : LFunc :=
  .mk 3 [.tmp 6] (.seq (.region [.mk (some 6) (.p (.mv (.c (.slice none 0 0)))) none] [0, 1, 2] []) (.seq (.region [.mk (some 7) (.p (.mv (.c (.int .i64 1)))) none] [0, 1, 2, 7] [])
  (.block 0 (.loop (.seq (.block 1 (.seq (.region [.mk (some 11) (.p (.mv (.s 0))) none, .mk (some 12) (.p (.mv (.s 7))) none, .mk (some 13) (.e (.call 58
  [.s 11, .s 12])) none, .mk (some 8) (.p (.mv (.s 13))) none] [0, 1, 2, 7, 8] []) (.seq (.seq (.region [.mk (some 14) (.p (.mv (.s 2))) none, .mk (some 15) (.p (.mv (.s 8))) none,
  .mk (some 16) (.p (.bin .lss (.s 14) (.s 15))) none] [0, 1, 2, 7, 8, 16] []) (.cond (.s 16) (.seq (.region [.mk (some 17) (.p (.mv (.s 1))) none, .mk (some 18) (.p (.mv (.s 2)))
  none, .mk (some 19) (.p (.idxS (.c (.string ⟨#[97, 98, 99, 100, 101, 102, 103, 104, 105, 106, 107, 108, 109, 110, 111, 112, 113, 114, 115, 116, 117, 118, 119, 120, 121, 122, 48,
  49, 50, 51, 52, 53, 54, 55, 56, 57]⟩)) (.s 18))) none, .mk (some 20) (.e (.litL 20 1 1 [.int .u8 0] [(0, 1, .s 19)])) none, .mk (some 21) (.e (.append 1 1 (.s 17) (.s 20))) none,
  .mk (some 6) (.p (.mv (.s 21))) none] [6] []) .ret) .skip)) (.seq (.region [.mk (some 22) (.p (.mv (.s 2))) none, .mk (some 23) (.p (.mv (.s 8))) none, .mk (some 24) (.p (.bin
  .sub (.s 22) (.s 23))) none, .mk (some 2) (.p (.mv (.s 24))) none] [0, 1, 2, 7, 8] []) (.seq (.region [.mk (some 25) (.p (.mv (.s 1))) none, .mk (some 26) (.p (.mv (.s 8))) none,
  .mk (some 27) (.p (.mv (.s 2))) none, .mk (some 28) (.p (.mv (.s 0))) none, .mk (some 29) (.p (.nilck (.s 28))) none, .mk (some 30) (.p (.faddr 0 (.s 29))) none, .mk (some 31) (.p
  (.faddr 0 (.s 30))) none, .mk (some 32) (.r (.load none (.s 31))) none, .mk (some 33) (.p (.mv (.s 8))) none, .mk (some 34) (.p (.bin .sub (.s 32) (.s 33))) none, .mk (some 35)
  (.p (.bin .rem (.s 27) (.s 34))) none, .mk (some 36) (.p (.bin .add (.s 26) (.s 35))) none, .mk (some 37) (.p (.idxS (.c (.string ⟨#[97, 98, 99, 100, 101, 102, 103, 104, 105, 106,
  107, 108, 109, 110, 111, 112, 113, 114, 115, 116, 117, 118, 119, 120, 121, 122, 48, 49, 50, 51, 52, 53, 54, 55, 56, 57]⟩)) (.s 36))) none, .mk (some 38) (.e (.litL 38 1 1 [.int
  .u8 0] [(0, 1, .s 37)])) none, .mk (some 39) (.e (.append 1 1 (.s 25) (.s 38))) none, .mk (some 1) (.p (.mv (.s 39))) none] [0, 1, 2, 7, 8] []) (.region [.mk (some 40) (.p (.mv
  (.s 2))) none, .mk (some 41) (.p (.mv (.s 0))) none, .mk (some 42) (.p (.nilck (.s 41))) none, .mk (some 43) (.p (.faddr 0 (.s 42))) none, .mk (some 44) (.p (.faddr 0 (.s 43)))
  none, .mk (some 45) (.r (.load none (.s 44))) none, .mk (some 46) (.p (.mv (.s 8))) none, .mk (some 47) (.p (.bin .sub (.s 45) (.s 46))) none, .mk (some 48) (.p (.bin .quo (.s 40)
  (.s 47))) none, .mk (some 2) (.p (.mv (.s 48))) none] [0, 1, 2, 7] [])))))) (.region [.mk (some 9) (.p (.mv (.s 7))) none, .mk (some 10) (.p (.bin .add (.s 9) (.c (.int .i64 1))))
  none, .mk (some 7) (.p (.mv (.s 10))) none] [0, 1, 2, 7] []))))))
theorem fn_boot_state_write : (autoPrg Try.prog).fn 35 = some LF_boot_state_write := by kernel_rfl

def LF_boot_state_adapt : LFunc :=
  .mk 3 [] (.seq (.region [.mk (some 6) (.p (.mv (.c (.int .i64 2)))) none] [0, 1, 2, 6] []) (.seq (.seq (.region [.mk (some 9) (.p (.mv (.s 0))) none, .mk (some 10) (.p (.nilck (.s
  9))) none, .mk (some 11) (.p (.faddr 10 (.s 10))) none, .mk (some 12) (.r (.load none (.s 11))) none, .mk (some 13) (.p (.bin .eql (.s 12) (.c (.int .i64 0)))) none] [0, 1, 2, 6,
  13] []) (.cond (.s 13) (.region [.mk (some 14) (.p (.mv (.s 0))) none, .mk (some 15) (.p (.nilck (.s 14))) none, .mk (some 16) (.p (.faddr 0 (.s 15))) none, .mk (some 17) (.p
  (.faddr 4 (.s 16))) none, .mk (some 18) (.r (.load none (.s 17))) none, .mk (some 6) (.p (.mv (.s 18))) none] [0, 1, 2, 6] []) .skip)) (.seq (.region [.mk (some 19) (.p (.mv (.s
  0))) none, .mk (some 20) (.p (.nilck (.s 19))) none, .mk (some 21) (.p (.faddr 10 (.s 20))) none, .mk (some 22) (.r (.load none (.s 21))) none, .mk (some 23) (.p (.bin .add (.s
  22) (.c (.int .i64 1)))) none, .mk (some 24) (.p (.nilck (.s 19))) none, .mk (some 25) (.p (.faddr 10 (.s 24))) none, .mk none (.e (.store 1 (.s 25) (.s 23))) none] [0, 1, 2, 6]
  []) (.seq (.region [.mk (some 26) (.p (.mv (.s 1))) none, .mk (some 27) (.p (.mv (.s 6))) none, .mk (some 28) (.p (.bin .quo (.s 26) (.s 27))) none, .mk (some 1) (.p (.mv (.s
  28))) none] [0, 1, 2] []) (.seq (.region [.mk (some 29) (.p (.mv (.s 1))) none, .mk (some 30) (.p (.mv (.s 1))) none, .mk (some 31) (.p (.mv (.s 2))) none, .mk (some 32) (.p (.bin
  .quo (.s 30) (.s 31))) none, .mk (some 33) (.p (.bin .add (.s 29) (.s 32))) none, .mk (some 1) (.p (.mv (.s 33))) none] [0, 1] []) (.seq (.region [.mk (some 34) (.p (.mv (.s 0)))
  none, .mk (some 35) (.p (.nilck (.s 34))) none, .mk (some 36) (.p (.faddr 0 (.s 35))) none, .mk (some 37) (.p (.faddr 0 (.s 36))) none, .mk (some 38) (.r (.load none (.s 37)))
  none, .mk (some 39) (.p (.mv (.s 0))) none, .mk (some 40) (.p (.nilck (.s 39))) none, .mk (some 41) (.p (.faddr 0 (.s 40))) none, .mk (some 42) (.p (.faddr 1 (.s 41))) none, .mk
  (some 43) (.r (.load none (.s 42))) none, .mk (some 44) (.p (.bin .sub (.s 38) (.s 43))) none, .mk (some 7) (.p (.mv (.s 44))) none] [0, 1, 7] []) (.seq (.region [.mk (some 8) (.p
  (.mv (.c (.int .i64 0)))) none] [0, 1, 7, 8] []) (.seq (.block 0 (.loop (.seq (.seq (.region [.mk (some 45) (.p (.mv (.s 1))) none, .mk (some 46) (.p (.mv (.s 7))) none, .mk (some
  47) (.p (.mv (.s 0))) none, .mk (some 48) (.p (.nilck (.s 47))) none, .mk (some 49) (.p (.faddr 0 (.s 48))) none, .mk (some 50) (.p (.faddr 2 (.s 49))) none, .mk (some 51) (.r
  (.load none (.s 50))) none, .mk (some 52) (.p (.bin .mul (.s 46) (.s 51))) none, .mk (some 53) (.p (.bin .quo (.s 52) (.c (.int .i64 2)))) none, .mk (some 54) (.p (.bin .gtr (.s
  45) (.s 53))) none] [0, 1, 7, 8, 54] []) (.cond (.s 54) .skip (.exit 0))) (.seq (.block 1 (.region [.mk (some 57) (.p (.mv (.s 1))) none, .mk (some 58) (.p (.mv (.s 7))) none, .mk
  (some 59) (.p (.bin .quo (.s 57) (.s 58))) none, .mk (some 1) (.p (.mv (.s 59))) none] [0, 1, 7, 8] [])) (.region [.mk (some 55) (.p (.mv (.s 8))) none, .mk (some 56) (.p (.bin
  .add (.s 55) (.c (.int .i64 1)))) none, .mk (some 8) (.p (.mv (.s 56))) none] [0, 1, 7, 8] []))))) (.region [.mk (some 60) (.p (.mv (.s 0))) none, .mk (some 61) (.p (.mv (.s 8)))
  none, .mk (some 62) (.p (.mv (.s 0))) none, .mk (some 63) (.p (.nilck (.s 62))) none, .mk (some 64) (.p (.faddr 0 (.s 63))) none, .mk (some 65) (.p (.faddr 0 (.s 64))) none, .mk
  (some 66) (.r (.load none (.s 65))) none, .mk (some 67) (.p (.bin .mul (.s 61) (.s 66))) none, .mk (some 68) (.p (.mv (.s 7))) none, .mk (some 69) (.p (.bin .add (.s 68) (.c (.int
  .i64 1)))) none, .mk (some 70) (.p (.mv (.s 1))) none, .mk (some 71) (.p (.bin .mul (.s 69) (.s 70))) none, .mk (some 72) (.p (.mv (.s 1))) none, .mk (some 73) (.p (.mv (.s 0)))
  none, .mk (some 74) (.p (.nilck (.s 73))) none, .mk (some 75) (.p (.faddr 0 (.s 74))) none, .mk (some 76) (.p (.faddr 3 (.s 75))) none, .mk (some 77) (.r (.load none (.s 76)))
  none, .mk (some 78) (.p (.bin .add (.s 72) (.s 77))) none, .mk (some 79) (.p (.bin .quo (.s 71) (.s 78))) none, .mk (some 80) (.p (.bin .add (.s 67) (.s 79))) none, .mk (some 81)
  (.p (.nilck (.s 60))) none, .mk (some 82) (.p (.faddr 7 (.s 81))) none, .mk none (.e (.store 1 (.s 82) (.s 80))) none] [] [])))))))))
theorem fn_boot_state_adapt : (autoPrg Try.prog).fn 37 = some LF_boot_state_adapt := by kernel_rfl

def LF_boot_state_threshold : LFunc :=
  .mk 2 [.tmp 4] (.seq (.region [.mk (some 4) (.p (.mv (.c (.int .i64 0)))) none] [0, 1] []) (.seq (.region [.mk (some 5) (.p (.mv (.s 1))) none, .mk (some 6) (.p (.mv (.s 0)))
  none, .mk (some 7) (.p (.nilck (.s 6))) none, .mk (some 8) (.p (.faddr 0 (.s 7))) none, .mk (some 9) (.p (.faddr 0 (.s 8))) none, .mk (some 10) (.r (.load none (.s 9))) none, .mk
  (some 11) (.p (.bin .mul (.s 5) (.s 10))) none, .mk (some 12) (.p (.mv (.s 0))) none, .mk (some 13) (.p (.nilck (.s 12))) none, .mk (some 14) (.p (.faddr 7 (.s 13))) none, .mk
  (some 15) (.r (.load none (.s 14))) none, .mk (some 16) (.p (.bin .sub (.s 11) (.s 15))) none, .mk (some 17) (.p (.mv (.s 0))) none, .mk (some 18) (.p (.nilck (.s 17))) none, .mk
  (some 19) (.p (.faddr 0 (.s 18))) none, .mk (some 20) (.p (.faddr 1 (.s 19))) none, .mk (some 21) (.r (.load none (.s 20))) none, .mk (some 22) (.p (.mm true [.s 16, .s 21]))
  none, .mk (some 23) (.p (.mv (.s 0))) none, .mk (some 24) (.p (.nilck (.s 23))) none, .mk (some 25) (.p (.faddr 0 (.s 24))) none, .mk (some 26) (.p (.faddr 2 (.s 25))) none, .mk
  (some 27) (.r (.load none (.s 26))) none, .mk (some 28) (.p (.mm false [.s 22, .s 27])) none, .mk (some 4) (.p (.mv (.s 28))) none] [4] []) .ret))
theorem fn_boot_state_threshold : (autoPrg Try.prog).fn 58 = some LF_boot_state_threshold := by kernel_rfl

def LF_boot_Decode : LFunc :=
  .mk 2 [.tmp 4, .tmp 5, .tmp 6] (.seq (.region [.mk (some 2) (.e (.boxL 2 7 (.s 0))) none, .mk (some 4) (.p (.mv (.c (.string ⟨#[]⟩)))) none, .mk (some 5) (.p (.mv (.c (.int .i64
  0)))) none, .mk (some 6) (.p (.mv (.c (.int .i64 0)))) none] [1, 2] []) (.seq (.region [.mk (some 16) (.p (.mv (.s 1))) none, .mk (some 17) (.e (.call 38
  [.s 16, .c (.int .u8 45)])) none, .mk (some 7) (.p (.mv (.s 17))) none] [1, 2, 7] []) (.seq (.block 0 (.seq (.region [.mk (some 19) (.r (.load (some 7) (.s 2))) none, .mk (some
  20) (.e (.call 15 [.s 19])) none, .mk (some 21) (.p (.un .not (.s 20))) none, .mk (some 18) (.p (.mv (.s 21))) none] [1, 2, 7, 18] []) (.cond (.s 18) (.seq (.region
  [.mk (some 22) (.e (.call 39 [.c (.int .i64 0), .c (.int .i64 1)])) none, .mk (some 23) (.p (.ext 0 (.s 22))) none, .mk (some 24) (.p (.ext 1 (.s 22))) none, .mk (some
  25) (.p (.ext 2 (.s 22))) none, .mk (some 4) (.p (.mv (.s 23))) none, .mk (some 5) (.p (.mv (.s 24))) none, .mk (some 6) (.p (.mv (.s 25))) none] [4, 5, 6] []) .ret) (.seq
  (.region [.mk (some 27) (.p (.mv (.s 1))) none, .mk (some 28) (.p (.slen (.s 27))) none, .mk (some 29) (.p (.bin .gtr (.s 28) (.c (.int .i64 65536)))) none, .mk (some 26) (.p (.mv
  (.s 29))) none] [1, 2, 7, 26] []) (.cond (.s 26) (.seq (.region [.mk (some 30) (.e (.call 39 [.c (.int .i64 0), .c (.int .i64 3)])) none, .mk (some 31) (.p (.ext 0 (.s
  30))) none, .mk (some 32) (.p (.ext 1 (.s 30))) none, .mk (some 33) (.p (.ext 2 (.s 30))) none, .mk (some 4) (.p (.mv (.s 31))) none, .mk (some 5) (.p (.mv (.s 32))) none, .mk
  (some 6) (.p (.mv (.s 33))) none] [4, 5, 6] []) .ret) (.seq (.region [.mk (some 35) (.p (.mv (.s 7))) none, .mk (some 36) (.p (.bin .eql (.s 35) (.c (.int .i64 0)))) none, .mk
  (some 34) (.p (.mv (.s 36))) none] [1, 2, 7, 34] []) (.cond (.s 34) (.seq (.region [.mk (some 37) (.e (.call 39 [.c (.int .i64 0), .c (.int .i64 52)])) none, .mk (some
  38) (.p (.ext 0 (.s 37))) none, .mk (some 39) (.p (.ext 1 (.s 37))) none, .mk (some 40) (.p (.ext 2 (.s 37))) none, .mk (some 4) (.p (.mv (.s 38))) none, .mk (some 5) (.p (.mv (.s
  39))) none, .mk (some 6) (.p (.mv (.s 40))) none] [4, 5, 6] []) .ret) .skip))))))) (.seq (.region [.mk (some 8) (.p (.mv (.c (.slice none 0 0)))) none] [1, 2, 7, 8] []) (.seq
  (.seq (.region [.mk (some 41) (.p (.mv (.s 7))) none, .mk (some 42) (.p (.mm true [.s 41, .c (.int .i64 0)])) none, .mk (some 43) (.p (.mv (.c (.int .i64 0)))) none] [1, 2, 7, 8,
  42, 43] []) (.block 1 (.loop (.seq (.region [.mk (some 44) (.p (.bin .lss (.s 43) (.s 42))) none] [1, 2, 7, 8, 42, 43, 44] []) (.seq (.cond (.s 44) .skip (.exit 1)) (.seq (.block
  2 (.seq (.region [.mk (some 45) (.p (.mv (.s 43))) none, .mk (some 9) (.p (.mv (.s 45))) none] [1, 2, 7, 8, 9, 42, 43] []) (.seq (.block 3 (.seq (.region [.mk (some 47) (.p (.mv
  (.s 9))) none, .mk (some 48) (.p (.bin .geq (.s 47) (.c (.int .i64 4096)))) none, .mk (some 46) (.p (.mv (.s 48))) none] [1, 2, 7, 8, 9, 42, 43, 46] []) (.cond (.s 46) (.seq
  (.region [.mk (some 49) (.p (.mv (.s 9))) none, .mk (some 50) (.e (.call 39 [.s 49, .c (.int .i64 4)])) none, .mk (some 51) (.p (.ext 0 (.s 50))) none, .mk (some 52)
  (.p (.ext 1 (.s 50))) none, .mk (some 53) (.p (.ext 2 (.s 50))) none, .mk (some 4) (.p (.mv (.s 51))) none, .mk (some 5) (.p (.mv (.s 52))) none, .mk (some 6) (.p (.mv (.s 53)))
  none] [4, 5, 6] []) .ret) (.seq (.region [.mk (some 55) (.p (.mv (.s 1))) none, .mk (some 56) (.p (.mv (.s 9))) none, .mk (some 57) (.p (.idxS (.s 55) (.s 56))) none, .mk (some
  58) (.p (.conv .i32 (.s 57))) none, .mk (some 59) (.e (.call 29 [.s 58])) none, .mk (some 60) (.p (.un .not (.s 59))) none, .mk (some 54) (.p (.mv (.s 60))) none] [1,
  2, 7, 8, 9, 42, 43, 54] []) (.cond (.s 54) (.seq (.region [.mk (some 61) (.p (.mv (.s 9))) none, .mk (some 62) (.e (.call 39 [.s 61, .c (.int .i64 50)])) none, .mk
  (some 63) (.p (.ext 0 (.s 62))) none, .mk (some 64) (.p (.ext 1 (.s 62))) none, .mk (some 65) (.p (.ext 2 (.s 62))) none, .mk (some 4) (.p (.mv (.s 63))) none, .mk (some 5) (.p
  (.mv (.s 64))) none, .mk (some 6) (.p (.mv (.s 65))) none] [4, 5, 6] []) .ret) .skip))))) (.region [.mk (some 66) (.p (.mv (.s 8))) none, .mk (some 67) (.p (.mv (.s 1))) none, .mk
  (some 68) (.p (.mv (.s 9))) none, .mk (some 69) (.p (.idxS (.s 67) (.s 68))) none, .mk (some 70) (.p (.conv .i32 (.s 69))) none, .mk (some 71) (.e (.litL 71 1 1 [.int .i32 0] [(0,
  1, .s 70)])) none, .mk (some 72) (.e (.append 1 4 (.s 66) (.s 71))) none, .mk (some 8) (.p (.mv (.s 72))) none] [1, 2, 7, 8, 42, 43] [])))) (.region [.mk (some 73) (.p (.bin .add
  (.s 43) (.c (.int .i64 1)))) none, .mk (some 43) (.p (.mv (.s 73))) none] [1, 2, 7, 8, 42, 43] []))))))) (.seq (.region [.mk (some 74) (.r (.load (some 7) (.s 2))) none, .mk (some
  75) (.e (.call 33 [.s 74])) none, .mk (some 10) (.e (.newH [.int .i64 0, .int .i64 0, .int .i64 0, .int .i64 0, .int .i64 0, .int .i64 0, .int .i32 0, .int .i64 0,
  .int .i32 0, .int .i64 0, .int .i64 0])) none, .mk none (.e (.store 11 (.s 10) (.s 75))) none] [1, 7, 8, 10] []) (.seq (.seq (.region [.mk (some 76) (.p (.mv (.s 7))) none, .mk
  (some 77) (.p (.bin .add (.s 76) (.c (.int .i64 1)))) none, .mk (some 11) (.p (.mv (.s 77))) none] [1, 8, 10, 11] []) (.block 4 (.loop (.seq (.seq (.region [.mk (some 78) (.p (.mv
  (.s 11))) none, .mk (some 79) (.p (.mv (.s 1))) none, .mk (some 80) (.p (.slen (.s 79))) none, .mk (some 81) (.p (.bin .lss (.s 78) (.s 80))) none] [1, 8, 10, 11, 81] []) (.cond
  (.s 81) .skip (.exit 4))) (.block 5 (.seq (.seq (.region [.mk (some 82) (.p (.mv (.s 8))) none, .mk (some 83) (.p (.len (.s 82))) none, .mk (some 84) (.p (.bin .geq (.s 83) (.c
  (.int .i64 4096)))) none] [1, 8, 10, 11, 84] []) (.cond (.s 84) (.seq (.region [.mk (some 85) (.p (.mv (.s 11))) none, .mk (some 86) (.e (.call 39 [.s 85, .c (.int
  .i64 4)])) none, .mk (some 87) (.p (.ext 0 (.s 86))) none, .mk (some 88) (.p (.ext 1 (.s 86))) none, .mk (some 89) (.p (.ext 2 (.s 86))) none, .mk (some 4) (.p (.mv (.s 87)))
  none, .mk (some 5) (.p (.mv (.s 88))) none, .mk (some 6) (.p (.mv (.s 89))) none] [4, 5, 6] []) .ret) .skip)) (.seq (.region [.mk (some 91) (.p (.mv (.s 1))) none, .mk (some 92)
  (.p (.mv (.s 11))) none, .mk (some 93) (.p (.mv (.s 8))) none, .mk (some 94) (.p (.len (.s 93))) none, .mk (some 95) (.e (.call 40 [.s 10, .s 91, .s 92, .s
  94])) none, .mk (some 90) (.p (.mv (.s 95))) none, .mk (some 96) (.p (.ext 0 (.s 90))) none, .mk (some 97) (.p (.ext 1 (.s 90))) none, .mk (some 98) (.p (.ext 2 (.s 90))) none,
  .mk (some 12) (.p (.mv (.s 96))) none, .mk (some 13) (.p (.mv (.s 97))) none, .mk (some 14) (.p (.mv (.s 98))) none] [1, 8, 10, 12, 13, 14] []) (.seq (.seq (.region [.mk (some 99)
  (.p (.mv (.s 14))) none, .mk (some 100) (.p (.bin .neq (.s 99) (.c (.int .i64 0)))) none] [1, 8, 10, 12, 13, 14, 100] []) (.cond (.s 100) (.seq (.region [.mk (some 101) (.p (.mv
  (.s 13))) none, .mk (some 102) (.p (.mv (.s 14))) none, .mk (some 103) (.e (.call 39 [.s 101, .s 102])) none, .mk (some 104) (.p (.ext 0 (.s 103))) none, .mk (some
  105) (.p (.ext 1 (.s 103))) none, .mk (some 106) (.p (.ext 2 (.s 103))) none, .mk (some 4) (.p (.mv (.s 104))) none, .mk (some 5) (.p (.mv (.s 105))) none, .mk (some 6) (.p (.mv
  (.s 106))) none] [4, 5, 6] []) .ret) .skip)) (.seq (.region [.mk (some 107) (.p (.mv (.s 12))) none, .mk (some 108) (.p (.faddr 9 (.s 10))) none, .mk (some 109) (.r (.load none
  (.s 108))) none, .mk (some 110) (.p (.bin .add (.s 107) (.s 109))) none, .mk (some 12) (.p (.mv (.s 110))) none] [1, 8, 10, 12, 13] []) (.seq (.region [.mk (some 111) (.p (.faddr
  8 (.s 10))) none, .mk (some 112) (.r (.load none (.s 111))) none, .mk (some 113) (.p (.mv (.s 12))) none, .mk (some 114) (.p (.mv (.s 8))) none, .mk (some 115) (.p (.len (.s
  114))) none, .mk (some 116) (.p (.bin .add (.s 115) (.c (.int .i64 1)))) none, .mk (some 117) (.p (.bin .quo (.s 113) (.s 116))) none, .mk (some 118) (.p (.conv .i32 (.s 117)))
  none, .mk (some 119) (.p (.bin .add (.s 112) (.s 118))) none, .mk (some 120) (.p (.faddr 8 (.s 10))) none, .mk none (.e (.store 1 (.s 120) (.s 119))) none] [1, 8, 10, 12, 13] [])
  (.seq (.region [.mk (some 121) (.p (.mv (.s 12))) none, .mk (some 122) (.p (.mv (.s 8))) none, .mk (some 123) (.p (.len (.s 122))) none, .mk (some 124) (.p (.bin .add (.s 123) (.c
  (.int .i64 1)))) none, .mk (some 125) (.p (.bin .rem (.s 121) (.s 124))) none, .mk (some 15) (.p (.mv (.s 125))) none] [1, 8, 10, 12, 13, 15] []) (.seq (.seq (.region [.mk (some
  126) (.p (.faddr 8 (.s 10))) none, .mk (some 127) (.r (.load none (.s 126))) none, .mk (some 128) (.e (.call 27 [.s 127])) none, .mk (some 129) (.p (.un .not (.s
  128))) none] [1, 8, 10, 12, 13, 15, 129] []) (.cond (.s 129) (.seq (.region [.mk (some 130) (.p (.mv (.s 13))) none, .mk (some 131) (.p (.bin .sub (.s 130) (.c (.int .i64 1))))
  none, .mk (some 132) (.e (.call 39 [.s 131, .c (.int .i64 12)])) none, .mk (some 133) (.p (.ext 0 (.s 132))) none, .mk (some 134) (.p (.ext 1 (.s 132))) none, .mk
  (some 135) (.p (.ext 2 (.s 132))) none, .mk (some 4) (.p (.mv (.s 133))) none, .mk (some 5) (.p (.mv (.s 134))) none, .mk (some 6) (.p (.mv (.s 135))) none] [4, 5, 6] []) .ret)
  .skip)) (.seq (.region [.mk (some 136) (.p (.mv (.s 8))) none, .mk (some 137) (.p (.mv (.s 15))) none, .mk (some 138) (.p (.faddr 8 (.s 10))) none, .mk (some 139) (.r (.load none
  (.s 138))) none, .mk (some 140) (.e (.litH 1 1 [.int .i32 0] [(0, 1, .s 139)])) none, .mk (some 141) (.e (.call 41 [.s 136, .s 137, .s 140])) none, .mk
  (some 8) (.p (.mv (.s 141))) none] [1, 8, 10, 12, 13, 15] []) (.seq (.region [.mk (some 142) (.p (.mv (.s 12))) none, .mk (some 143) (.p (.faddr 9 (.s 10))) none, .mk (some 144)
  (.r (.load none (.s 143))) none, .mk (some 145) (.p (.bin .sub (.s 142) (.s 144))) none, .mk (some 146) (.p (.mv (.s 8))) none, .mk (some 147) (.p (.len (.s 146))) none, .mk (some
  148) (.e (.call 37 [.s 10, .s 145, .s 147])) none] [1, 8, 10, 13, 15] []) (.seq (.region [.mk (some 149) (.p (.mv (.s 15))) none, .mk (some 150) (.p (.bin
  .add (.s 149) (.c (.int .i64 1)))) none, .mk (some 151) (.p (.faddr 9 (.s 10))) none, .mk none (.e (.store 1 (.s 151) (.s 150))) none] [1, 8, 10, 13] []) (.region [.mk (some 152)
  (.p (.mv (.s 13))) none, .mk (some 11) (.p (.mv (.s 152))) none] [1, 8, 10, 11] [])))))))))))))))) (.seq (.region [.mk (some 153) (.p (.mv (.s 8))) none, .mk (some 154) (.r (.r2s
  (.s 153))) none, .mk (some 4) (.p (.mv (.s 154))) none, .mk (some 5) (.p (.mv (.c (.int .i64 0)))) none, .mk (some 6) (.p (.mv (.c (.int .i64 0)))) none] [4, 5, 6] [])
  .ret))))))))
theorem fn_boot_Decode : (autoPrg Try.prog).fn 17 = some LF_boot_Decode := by kernel_rfl

def LF_boot_wrong : LFunc :=
  .mk 2 [.tmp 4, .tmp 5, .tmp 6] (.seq (.region [.mk (some 4) (.p (.mv (.c (.string ⟨#[]⟩)))) none, .mk (some 5) (.p (.mv (.c (.int .i64 0)))) none, .mk (some 6) (.p (.mv (.c (.int
  .i64 0)))) none] [0, 1] []) (.seq (.region [.mk (some 7) (.p (.mv (.s 0))) none, .mk (some 8) (.p (.mv (.s 1))) none, .mk (some 4) (.p (.mv (.c (.string ⟨#[]⟩)))) none, .mk (some
  5) (.p (.mv (.s 7))) none, .mk (some 6) (.p (.mv (.s 8))) none] [4, 5, 6] []) .ret))
theorem fn_boot_wrong : (autoPrg Try.prog).fn 39 = some LF_boot_wrong := by kernel_rfl

def LF_boot_state_read : LFunc :=
  .mk 4 [.tmp 8, .tmp 9, .tmp 10] (.seq (.region [.mk (some 8) (.p (.mv (.c (.int .i64 0)))) none, .mk (some 9) (.p (.mv (.c (.int .i64 0)))) none, .mk (some 10) (.p (.mv (.c (.int
  .i64 0)))) none] [0, 1, 2, 3] []) (.seq (.region [.mk (some 11) (.p (.mv (.c (.int .i64 0)))) none, .mk (some 12) (.p (.mv (.c (.int .i64 1)))) none] [0, 1, 2, 3, 11, 12] [])
  (.seq (.region [.mk (some 13) (.p (.mv (.c (.int .i64 1)))) none] [0, 1, 2, 3, 11, 12, 13] []) (.block 0 (.loop (.seq (.block 1 (.seq (.region [.mk (some 19) (.p (.mv (.s 2)))
  none, .mk (some 20) (.p (.mv (.s 13))) none, .mk (some 21) (.p (.bin .add (.s 19) (.s 20))) none, .mk (some 22) (.p (.bin .sub (.s 21) (.c (.int .i64 1)))) none, .mk (some 14) (.p
  (.mv (.s 22))) none] [0, 1, 2, 3, 11, 12, 13, 14] []) (.seq (.seq (.region [.mk (some 23) (.p (.mv (.s 14))) none, .mk (some 24) (.p (.mv (.s 1))) none, .mk (some 25) (.p (.slen
  (.s 24))) none, .mk (some 26) (.p (.bin .geq (.s 23) (.s 25))) none] [0, 1, 2, 3, 11, 12, 13, 14, 26] []) (.cond (.s 26) (.seq (.region [.mk (some 27) (.p (.mv (.s 14))) none, .mk
  (some 8) (.p (.mv (.c (.int .i64 0)))) none, .mk (some 9) (.p (.mv (.s 27))) none, .mk (some 10) (.p (.mv (.c (.int .i64 21)))) none] [8, 9, 10] []) .ret) .skip)) (.seq (.region
  [.mk (some 28) (.p (.mv (.s 0))) none, .mk (some 29) (.p (.nilck (.s 28))) none, .mk (some 30) (.p (.faddr 0 (.s 29))) none, .mk (some 31) (.p (.faddr 0 (.s 30))) none, .mk (some
  32) (.r (.load none (.s 31))) none, .mk (some 33) (.p (.slS (.c (.string ⟨#[97, 98, 99, 100, 101, 102, 103, 104, 105, 106, 107, 108, 109, 110, 111, 112, 113, 114, 115, 116, 117,
  118, 119, 120, 121, 122, 48, 49, 50, 51, 52, 53, 54, 55, 56, 57]⟩)) none (some (.s 32)))) none, .mk (some 34) (.p (.mv (.s 1))) none, .mk (some 35) (.p (.mv (.s 14))) none, .mk
  (some 36) (.p (.idxS (.s 34) (.s 35))) none, .mk (some 37) (.e (.call 62 [.s 33, .s 36])) none, .mk (some 15) (.p (.mv (.s 37))) none] [0, 1, 2, 3, 11, 12, 13,
  14, 15] []) (.seq (.seq (.region [.mk (some 38) (.p (.mv (.s 15))) none, .mk (some 39) (.p (.bin .lss (.s 38) (.c (.int .i64 0)))) none] [0, 1, 2, 3, 11, 12, 13, 14, 15, 39] [])
  (.cond (.s 39) (.seq (.region [.mk (some 40) (.p (.mv (.s 14))) none, .mk (some 8) (.p (.mv (.c (.int .i64 0)))) none, .mk (some 9) (.p (.mv (.s 40))) none, .mk (some 10) (.p (.mv
  (.c (.int .i64 50)))) none] [8, 9, 10] []) .ret) .skip)) (.seq (.region [.mk (some 41) (.p (.mv (.s 11))) none, .mk (some 42) (.p (.mv (.s 15))) none, .mk (some 43) (.p (.mv (.s
  12))) none, .mk (some 44) (.p (.bin .mul (.s 42) (.s 43))) none, .mk (some 45) (.p (.bin .add (.s 41) (.s 44))) none, .mk (some 11) (.p (.mv (.s 45))) none] [0, 1, 2, 3, 11, 12,
  13, 14, 15] []) (.seq (.seq (.region [.mk (some 46) (.p (.mv (.s 0))) none, .mk (some 47) (.p (.nilck (.s 46))) none, .mk (some 48) (.p (.faddr 8 (.s 47))) none, .mk (some 49) (.r
  (.load none (.s 48))) none, .mk (some 50) (.p (.conv .i64 (.s 49))) none, .mk (some 51) (.p (.mv (.s 0))) none, .mk (some 52) (.p (.nilck (.s 51))) none, .mk (some 53) (.p (.faddr
  9 (.s 52))) none, .mk (some 54) (.r (.load none (.s 53))) none, .mk (some 55) (.p (.mv (.s 11))) none, .mk (some 56) (.p (.bin .add (.s 54) (.s 55))) none, .mk (some 57) (.p (.mv
  (.s 3))) none, .mk (some 58) (.p (.bin .add (.s 57) (.c (.int .i64 1)))) none, .mk (some 59) (.p (.bin .quo (.s 56) (.s 58))) none, .mk (some 60) (.p (.bin .add (.s 50) (.s 59)))
  none, .mk (some 61) (.p (.bin .gtr (.s 60) (.c (.int .i64 1114111)))) none] [0, 1, 2, 3, 11, 12, 13, 14, 15, 61] []) (.cond (.s 61) (.seq (.region [.mk (some 62) (.p (.mv (.s
  14))) none, .mk (some 8) (.p (.mv (.c (.int .i64 0)))) none, .mk (some 9) (.p (.mv (.s 62))) none, .mk (some 10) (.p (.mv (.c (.int .i64 51)))) none] [8, 9, 10] []) .ret) .skip))
  (.seq (.region [.mk (some 63) (.p (.mv (.s 0))) none, .mk (some 64) (.p (.mv (.s 13))) none, .mk (some 65) (.e (.call 58 [.s 63, .s 64])) none, .mk (some
  16) (.p (.mv (.s 65))) none] [0, 1, 2, 3, 11, 12, 13, 14, 15, 16] []) (.seq (.seq (.region [.mk (some 66) (.p (.mv (.s 15))) none, .mk (some 67) (.p (.mv (.s 16))) none, .mk (some
  68) (.p (.bin .lss (.s 66) (.s 67))) none] [0, 1, 2, 3, 11, 12, 13, 14, 16, 68] []) (.cond (.s 68) (.seq (.region [.mk (some 69) (.p (.mv (.s 11))) none, .mk (some 70) (.p (.mv
  (.s 14))) none, .mk (some 71) (.p (.bin .add (.s 70) (.c (.int .i64 1)))) none, .mk (some 8) (.p (.mv (.s 69))) none, .mk (some 9) (.p (.mv (.s 71))) none, .mk (some 10) (.p (.mv
  (.c (.int .i64 0)))) none] [8, 9, 10] []) .ret) .skip)) (.region [.mk (some 72) (.p (.mv (.s 12))) none, .mk (some 73) (.p (.mv (.s 0))) none, .mk (some 74) (.p (.nilck (.s 73)))
  none, .mk (some 75) (.p (.faddr 0 (.s 74))) none, .mk (some 76) (.p (.faddr 0 (.s 75))) none, .mk (some 77) (.r (.load none (.s 76))) none, .mk (some 78) (.p (.mv (.s 16))) none,
  .mk (some 79) (.p (.bin .sub (.s 77) (.s 78))) none, .mk (some 80) (.p (.bin .mul (.s 72) (.s 79))) none, .mk (some 12) (.p (.mv (.s 80))) none] [0, 1, 2, 3, 11, 12, 13]
  [])))))))))) (.region [.mk (some 17) (.p (.mv (.s 13))) none, .mk (some 18) (.p (.bin .add (.s 17) (.c (.int .i64 1)))) none, .mk (some 13) (.p (.mv (.s 18))) none] [0, 1, 2, 3,
  11, 12, 13] [])))))))
theorem fn_boot_state_read : (autoPrg Try.prog).fn 40 = some LF_boot_state_read := by kernel_rfl

def LF_boot_basic : LFunc :=
  .mk 1 [.tmp 2] (.seq (.region [.mk (some 2) (.p (.mv (.c (.bool false)))) none] [0] []) (.seq (.region [.mk (some 3) (.p (.mv (.s 0))) none, .mk (some 4) (.p (.bin .eql (.s 3) (.c
  (.int .i32 45)))) none, .mk (some 5) (.p (.mv (.s 4))) none, .mk (some 6) (.p (.mv (.s 0))) (some (5, false)), .mk (some 7) (.p (.bin .lss (.s 6) (.c (.int .i32 128)))) (some (5,
  false)), .mk (some 8) (.p (.mv (.s 7))) (some (5, false)), .mk (some 9) (.p (.mv (.s 0))) (some (8, true)), .mk (some 10) (.e (.call 53 [.c (.string ⟨#[97,
  98, 99, 100, 101, 102, 103, 104, 105, 106, 107, 108, 109, 110, 111, 112, 113, 114, 115, 116, 117, 118, 119, 120, 121, 122, 48, 49, 50, 51, 52, 53, 54, 55, 56, 57]⟩), .s 9])) (some
  (8, true)), .mk (some 11) (.p (.pick (.s 8) (.s 10) (.c (.bool false)))) (some (5, false)), .mk (some 12) (.p (.pick (.s 5) (.c (.bool true)) (.s 11))) none, .mk (some 2) (.p (.mv
  (.s 12))) none] [2] []) .ret))
theorem fn_boot_basic : (autoPrg Try.prog).fn 29 = some LF_boot_basic := by kernel_rfl

def LF_strings_ContainsRune : LFunc :=
  .mk 2 [.tmp 4] (.seq (.region [.mk (some 4) (.p (.mv (.c (.bool false)))) none] [0, 1] []) (.seq (.region [.mk (some 5) (.p (.mv (.s 0))) none, .mk (some 6) (.p (.mv (.s 1)))
  none, .mk (some 7) (.e (.call 71 [.s 5, .s 6])) none, .mk (some 8) (.p (.bin .geq (.s 7) (.c (.int .i64 0)))) none, .mk (some 4) (.p (.mv (.s 8))) none] [4] [])
  .ret))
theorem fn_strings_ContainsRune : (autoPrg Try.prog).fn 53 = some LF_strings_ContainsRune := by kernel_rfl

def LF_strings_LastIndexByte : LFunc :=
  .mk 2 [.tmp 4] (.seq (.region [.mk (some 4) (.p (.mv (.c (.int .i64 0)))) none] [0, 1] []) (.seq (.region [.mk (some 5) (.p (.mv (.s 0))) none, .mk (some 6) (.p (.mv (.s 1)))
  none, .mk (some 7) (.e (.call 61 [.s 5, .s 6])) none, .mk (some 4) (.p (.mv (.s 7))) none] [4] []) .ret))
theorem fn_strings_LastIndexByte : (autoPrg Try.prog).fn 38 = some LF_strings_LastIndexByte := by kernel_rfl

def LF_internal_bytealg_LastIndexByteString : LFunc :=
  .mk 2 [.tmp 4] (.seq (.region [.mk (some 4) (.p (.mv (.c (.int .i64 0)))) none] [0, 1] []) (.seq (.seq (.region [.mk (some 6) (.p (.mv (.s 0))) none, .mk (some 7) (.p (.slen (.s
  6))) none, .mk (some 8) (.p (.bin .sub (.s 7) (.c (.int .i64 1)))) none, .mk (some 5) (.p (.mv (.s 8))) none] [0, 1, 5] []) (.block 0 (.loop (.seq (.seq (.region [.mk (some 9) (.p
  (.mv (.s 5))) none, .mk (some 10) (.p (.bin .geq (.s 9) (.c (.int .i64 0)))) none] [0, 1, 5, 10] []) (.cond (.s 10) .skip (.exit 0))) (.seq (.block 1 (.seq (.region [.mk (some 13)
  (.p (.mv (.s 0))) none, .mk (some 14) (.p (.mv (.s 5))) none, .mk (some 15) (.p (.idxS (.s 13) (.s 14))) none, .mk (some 16) (.p (.mv (.s 1))) none, .mk (some 17) (.p (.bin .eql
  (.s 15) (.s 16))) none] [0, 1, 5, 17] []) (.cond (.s 17) (.seq (.region [.mk (some 18) (.p (.mv (.s 5))) none, .mk (some 4) (.p (.mv (.s 18))) none] [4] []) .ret) .skip)))
  (.region [.mk (some 11) (.p (.mv (.s 5))) none, .mk (some 12) (.p (.bin .sub (.s 11) (.c (.int .i64 1)))) none, .mk (some 5) (.p (.mv (.s 12))) none] [0, 1, 5] [])))))) (.seq
  (.region [.mk (some 4) (.p (.mv (.c (.int .i64 (-1))))) none] [4] []) .ret)))
theorem fn_internal_bytealg_LastIndexByteString : (autoPrg Try.prog).fn 61 = some LF_internal_bytealg_LastIndexByteString := by kernel_rfl

def LF_strings_IndexByte : LFunc :=
  .mk 2 [.tmp 4] (.seq (.region [.mk (some 4) (.p (.mv (.c (.int .i64 0)))) none] [0, 1] []) (.seq (.region [.mk (some 5) (.p (.mv (.s 0))) none, .mk (some 6) (.p (.mv (.s 1)))
  none, .mk (some 7) (.e (.call 76 [.s 5, .s 6])) none, .mk (some 4) (.p (.mv (.s 7))) none] [4] []) .ret))
theorem fn_strings_IndexByte : (autoPrg Try.prog).fn 62 = some LF_strings_IndexByte := by kernel_rfl

def LF_internal_stringslite_IndexByte : LFunc :=
  .mk 2 [.tmp 4] (.seq (.region [.mk (some 4) (.p (.mv (.c (.int .i64 0)))) none] [0, 1] []) (.seq (.region [.mk (some 5) (.p (.mv (.s 0))) none, .mk (some 6) (.p (.mv (.s 1)))
  none, .mk (some 7) (.p (.idxB (.s 5) (.s 6))) none, .mk (some 4) (.p (.mv (.s 7))) none] [4] []) .ret))
theorem fn_internal_stringslite_IndexByte : (autoPrg Try.prog).fn 76 = some LF_internal_stringslite_IndexByte := by kernel_rfl


end Go.Proofs.Ytmfpkgcphlilmaa.AM
