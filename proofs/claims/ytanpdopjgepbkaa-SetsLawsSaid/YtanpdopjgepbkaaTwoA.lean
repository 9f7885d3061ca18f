/- Lifted functions, each a constant: the laws of two and three sets. -/
import Derived.Test.YtanpdopjgepbkaaSA
set_option linter.unusedVariables false
namespace Go.Proofs.Ytanpdopjgepbkaa.AM
open Go

def LF12 : LFunc :=
  .mk 2 [.tmp 4] (.seq (.region [.mk (some 4) (.p (.mv (.c (.bool false)))) none] [0, 1] []) (.seq (.seq (.region [.mk (some 16) (.e (.call 14 [])) none, .mk (some 17) (.p (.un .not
  (.s 16))) none] [0, 1, 17] []) (.cond (.s 17) (.seq (.region [.mk (some 4) (.p (.mv (.c (.bool false)))) none] [4] []) .ret) .skip)) (.seq (.region [.mk (some 19) (.p (.mv (.s
  0))) none, .mk (some 20) (.e (.call 15 [.s 19])) none, .mk (some 21) (.e (.call 17 [.s 20])) none, .mk (some 18) (.p (.mv (.s 21))) none, .mk (some 22) (.p (.ext 0 (.s 18))) none,
  .mk (some 23) (.p (.ext 1 (.s 18))) none, .mk (some 24) (.p (.ext 2 (.s 18))) none, .mk (some 5) (.p (.mv (.s 22))) none, .mk (some 6) (.p (.mv (.s 23))) none, .mk (some 7) (.p
  (.mv (.s 24))) none] [1, 5, 6, 7] []) (.seq (.region [.mk (some 26) (.p (.mv (.s 1))) none, .mk (some 27) (.e (.call 15 [.s 26])) none, .mk (some 28) (.e (.call 17 [.s 27])) none,
  .mk (some 25) (.p (.mv (.s 28))) none, .mk (some 29) (.p (.ext 0 (.s 25))) none, .mk (some 30) (.p (.ext 1 (.s 25))) none, .mk (some 31) (.p (.ext 2 (.s 25))) none, .mk (some 8)
  (.p (.mv (.s 29))) none, .mk (some 9) (.p (.mv (.s 30))) none, .mk (some 10) (.p (.mv (.s 31))) none] [5, 6, 7, 8, 9, 10] []) (.seq (.seq (.region [.mk (some 32) (.p (.mv (.s 7)))
  none, .mk (some 33) (.p (.un .not (.s 32))) none, .mk (some 34) (.p (.mv (.s 33))) none, .mk (some 35) (.p (.mv (.s 10))) (some (34, false)), .mk (some 36) (.p (.un .not (.s 35)))
  (some (34, false)), .mk (some 37) (.p (.pick (.s 34) (.c (.bool true)) (.s 36))) none, .mk (some 38) (.p (.mv (.s 37))) none, .mk (some 39) (.p (.mv (.s 5))) (some (38, false)),
  .mk (some 40) (.p (.eqk false .ptr (.s 39) (.c (.pointer none)))) (some (38, false)), .mk (some 41) (.p (.pick (.s 38) (.c (.bool true)) (.s 40))) none] [5, 6, 7, 8, 9, 10, 41]
  []) (.cond (.s 41) (.seq (.region [.mk (some 42) (.p (.mv (.s 7))) none, .mk (some 43) (.p (.mv (.s 42))) none, .mk (some 44) (.p (.mv (.s 10))) (some (43, true)), .mk (some 45)
  (.p (.pick (.s 43) (.s 44) (.c (.bool false)))) none, .mk (some 4) (.p (.mv (.s 45))) none] [4] []) .ret) .skip)) (.seq (.region [.mk (some 46) (.p (.mv (.s 5))) none, .mk (some
  47) (.p (.mv (.s 8))) none, .mk (some 48) (.e (.call 51 [.s 46, .s 47])) none, .mk (some 11) (.p (.mv (.s 48))) none] [5, 6, 8, 9, 11] []) (.seq (.region [.mk (some 49) (.p (.mv
  (.s 5))) none, .mk (some 50) (.p (.mv (.s 8))) none, .mk (some 51) (.e (.call 52 [.s 49, .s 50])) none, .mk (some 12) (.p (.mv (.s 51))) none] [5, 6, 8, 9, 11, 12] []) (.seq
  (.region [.mk (some 52) (.p (.mv (.s 5))) none, .mk (some 53) (.p (.mv (.s 8))) none, .mk (some 54) (.e (.call 53 [.s 52, .s 53])) none, .mk (some 13) (.p (.mv (.s 54))) none] [5,
  6, 8, 9, 11, 12, 13] []) (.seq (.region [.mk (some 55) (.p (.mv (.s 5))) none, .mk (some 56) (.e (.call 54 [.s 55])) none, .mk (some 14) (.p (.mv (.s 56))) none] [5, 6, 8, 9, 11,
  12, 13, 14] []) (.seq (.seq (.region [.mk (some 57) (.p (.mv (.s 11))) none, .mk (some 58) (.p (.eqk false .ptr (.s 57) (.c (.pointer none)))) none, .mk (some 59) (.p (.mv (.s
  58))) none, .mk (some 60) (.p (.mv (.s 12))) (some (59, false)), .mk (some 61) (.p (.eqk false .ptr (.s 60) (.c (.pointer none)))) (some (59, false)), .mk (some 62) (.p (.pick (.s
  59) (.c (.bool true)) (.s 61))) none, .mk (some 63) (.p (.mv (.s 62))) none, .mk (some 64) (.p (.mv (.s 13))) (some (63, false)), .mk (some 65) (.p (.eqk false .ptr (.s 64) (.c
  (.pointer none)))) (some (63, false)), .mk (some 66) (.p (.pick (.s 63) (.c (.bool true)) (.s 65))) none, .mk (some 67) (.p (.mv (.s 66))) none, .mk (some 68) (.p (.mv (.s 14)))
  (some (67, false)), .mk (some 69) (.p (.eqk false .ptr (.s 68) (.c (.pointer none)))) (some (67, false)), .mk (some 70) (.p (.pick (.s 67) (.c (.bool true)) (.s 69))) none, .mk
  (some 71) (.p (.mv (.s 70))) none, .mk (some 72) (.p (.mv (.s 5))) (some (71, false)), .mk (some 73) (.p (.mv (.s 8))) (some (71, false)), .mk (some 74) (.e (.call 55 [.s 72, .s
  73])) (some (71, false)), .mk (some 75) (.p (.mv (.s 6))) (some (71, false)), .mk (some 76) (.p (.mv (.s 9))) (some (71, false)), .mk (some 77) (.e (.call 19 [.s 75, .s 76]))
  (some (71, false)), .mk (some 78) (.p (.eqk true .bool (.s 74) (.s 77))) (some (71, false)), .mk (some 79) (.p (.pick (.s 71) (.c (.bool true)) (.s 78))) none] [5, 6, 9, 11, 12,
  13, 14, 79] []) (.cond (.s 79) (.seq (.region [.mk (some 4) (.p (.mv (.c (.bool false)))) none] [4] []) .ret) .skip)) (.seq (.region [.mk (some 80) (.p (.mv (.s 6))) none, .mk
  (some 81) (.e (.append 2 8 (.c (.slice none 0 0)) (.s 80))) none, .mk (some 82) (.p (.mv (.s 9))) none, .mk (some 83) (.e (.append 2 8 (.s 81) (.s 82))) none, .mk (some 15) (.p
  (.mv (.s 83))) none] [5, 6, 9, 11, 12, 13, 14, 15] []) (.seq (.region [.mk (some 84) (.p (.mv (.s 11))) none, .mk (some 85) (.e (.call 18 [.s 84])) none, .mk (some 86) (.p (.mv
  (.s 15))) none, .mk (some 87) (.e (.call 36 [.s 86])) none, .mk (some 88) (.e (.call 19 [.s 85, .s 87])) none, .mk (some 89) (.p (.mv (.s 88))) none, .mk (some 90) (.p (.mv (.s
  12))) (some (89, true)), .mk (some 91) (.e (.call 18 [.s 90])) (some (89, true)), .mk (some 92) (.p (.mv (.s 6))) (some (89, true)), .mk (some 93) (.p (.mv (.s 9))) (some (89,
  true)), .mk (some 94) (.e (.call 56 [.s 92, .s 93])) (some (89, true)), .mk (some 95) (.e (.call 19 [.s 91, .s 94])) (some (89, true)), .mk (some 96) (.p (.pick (.s 89) (.s 95)
  (.c (.bool false)))) none, .mk (some 97) (.p (.mv (.s 96))) none, .mk (some 98) (.p (.mv (.s 13))) (some (97, true)), .mk (some 99) (.e (.call 18 [.s 98])) (some (97, true)), .mk
  (some 100) (.p (.mv (.s 6))) (some (97, true)), .mk (some 101) (.p (.mv (.s 9))) (some (97, true)), .mk (some 102) (.e (.call 57 [.s 101])) (some (97, true)), .mk (some 103) (.e
  (.call 56 [.s 100, .s 102])) (some (97, true)), .mk (some 104) (.e (.call 19 [.s 99, .s 103])) (some (97, true)), .mk (some 105) (.p (.pick (.s 97) (.s 104) (.c (.bool false))))
  none, .mk (some 106) (.p (.mv (.s 105))) none, .mk (some 107) (.p (.mv (.s 14))) (some (106, true)), .mk (some 108) (.e (.call 18 [.s 107])) (some (106, true)), .mk (some 109) (.p
  (.mv (.s 6))) (some (106, true)), .mk (some 110) (.e (.call 57 [.s 109])) (some (106, true)), .mk (some 111) (.e (.call 19 [.s 108, .s 110])) (some (106, true)), .mk (some 112)
  (.p (.pick (.s 106) (.s 111) (.c (.bool false)))) none, .mk (some 113) (.p (.mv (.s 112))) none, .mk (some 114) (.p (.mv (.s 5))) (some (113, true)), .mk (some 115) (.e (.call 18
  [.s 114])) (some (113, true)), .mk (some 116) (.p (.mv (.s 6))) (some (113, true)), .mk (some 117) (.e (.call 19 [.s 115, .s 116])) (some (113, true)), .mk (some 118) (.p (.pick
  (.s 113) (.s 117) (.c (.bool false)))) none, .mk (some 4) (.p (.mv (.s 118))) none] [4] []) .ret))))))))))))
theorem fn12 : (autoPrg Try.prog).fn 12 = some LF12 := by kernel_rfl

def LF11 : LFunc :=
  .mk 3 [.tmp 6] (.seq (.region [.mk (some 6) (.p (.mv (.c (.bool false)))) none] [0, 1, 2] []) (.seq (.region [.mk (some 13) (.p (.mv (.s 0))) none, .mk (some 14) (.e (.call 15 [.s
  13])) none, .mk (some 15) (.e (.call 43 [.s 14])) none, .mk (some 7) (.p (.mv (.s 15))) none] [1, 2, 7] []) (.seq (.region [.mk (some 16) (.p (.mv (.s 1))) none, .mk (some 17) (.e
  (.call 15 [.s 16])) none, .mk (some 18) (.e (.call 43 [.s 17])) none, .mk (some 8) (.p (.mv (.s 18))) none] [2, 7, 8] []) (.seq (.seq (.region [.mk (some 19) (.e (.call 14 []))
  none, .mk (some 20) (.p (.un .not (.s 19))) none, .mk (some 21) (.p (.mv (.s 20))) none, .mk (some 22) (.p (.mv (.s 7))) (some (21, false)), .mk (some 23) (.p (.eqk false .ptr (.s
  22) (.c (.pointer none)))) (some (21, false)), .mk (some 24) (.p (.pick (.s 21) (.c (.bool true)) (.s 23))) none, .mk (some 25) (.p (.mv (.s 24))) none, .mk (some 26) (.p (.mv (.s
  8))) (some (25, false)), .mk (some 27) (.p (.eqk false .ptr (.s 26) (.c (.pointer none)))) (some (25, false)), .mk (some 28) (.p (.pick (.s 25) (.c (.bool true)) (.s 27))) none]
  [2, 7, 8, 28] []) (.cond (.s 28) (.seq (.region [.mk (some 6) (.p (.mv (.c (.bool false)))) none] [6] []) .ret) .skip)) (.seq (.region [.mk (some 29) (.p (.mv (.s 7))) none, .mk
  (some 30) (.p (.build [.bool false, .pointer none] [(1, 1, .s 29)])) none, .mk (some 31) (.e (.boxH 2 (.s 30))) none, .mk (some 9) (.p (.mv (.s 31))) none] [2, 7, 8, 9] []) (.seq
  (.region [.mk (some 32) (.p (.mv (.s 2))) none, .mk (some 33) (.p (.bin .geq (.s 32) (.c (.int .i32 0)))) none, .mk (some 34) (.p (.mv (.s 33))) none, .mk (some 35) (.p (.mv (.s
  2))) (some (34, true)), .mk (some 36) (.p (.bin .leq (.s 35) (.c (.int .i32 1114111)))) (some (34, true)), .mk (some 37) (.p (.pick (.s 34) (.s 36) (.c (.bool false)))) none, .mk
  (some 38) (.p (.mv (.s 37))) none, .mk (some 39) (.p (.mv (.s 2))) (some (38, true)), .mk (some 40) (.p (.bin .lss (.s 39) (.c (.int .i32 55296)))) (some (38, true)), .mk (some
  41) (.p (.mv (.s 40))) (some (38, true)), .mk (some 42) (.p (.mv (.s 2))) (some (41, false)), .mk (some 43) (.p (.bin .gtr (.s 42) (.c (.int .i32 57343)))) (some (41, false)), .mk
  (some 44) (.p (.pick (.s 41) (.c (.bool true)) (.s 43))) (some (38, true)), .mk (some 45) (.p (.pick (.s 38) (.s 44) (.c (.bool false)))) none, .mk (some 10) (.p (.mv (.s 45)))
  none] [2, 7, 8, 9, 10] []) (.seq (.region [.mk (some 46) (.p (.mv (.s 7))) none, .mk (some 47) (.p (.mv (.s 2))) none, .mk (some 48) (.e (.call 22 [.s 46, .s 47])) none, .mk (some
  11) (.p (.mv (.s 48))) none] [2, 7, 8, 9, 10, 11] []) (.seq (.region [.mk (some 49) (.p (.mv (.s 8))) none, .mk (some 50) (.p (.mv (.s 2))) none, .mk (some 51) (.e (.call 22 [.s
  49, .s 50])) none, .mk (some 12) (.p (.mv (.s 51))) none] [2, 7, 8, 9, 10, 11, 12] []) (.seq (.region [.mk (some 52) (.p (.mv (.s 10))) none, .mk (some 53) (.p (.mv (.s 52)))
  none, .mk (some 54) (.p (.mv (.s 11))) (some (53, false)), .mk (some 55) (.p (.un .not (.s 54))) (some (53, false)), .mk (some 56) (.p (.mv (.s 55))) (some (53, false)), .mk (some
  57) (.p (.mv (.s 12))) (some (56, true)), .mk (some 58) (.p (.un .not (.s 57))) (some (56, true)), .mk (some 59) (.p (.pick (.s 56) (.s 58) (.c (.bool false)))) (some (53,
  false)), .mk (some 60) (.p (.pick (.s 53) (.c (.bool true)) (.s 59))) none, .mk (some 61) (.p (.mv (.s 60))) none, .mk (some 62) (.p (.mv (.s 9))) (some (61, true)), .mk (some 63)
  (.p (.mv (.s 7))) (some (61, true)), .mk (some 64) (.p (.mv (.s 8))) (some (61, true)), .mk (some 65) (.e (.call 47 [.s 62, .s 63, .s 64])) (some (61, true)), .mk (some 66) (.p
  (.mv (.s 2))) (some (61, true)), .mk (some 67) (.e (.call 22 [.s 65, .s 66])) (some (61, true)), .mk (some 68) (.p (.mv (.s 11))) (some (61, true)), .mk (some 69) (.p (.mv (.s
  68))) (some (61, true)), .mk (some 70) (.p (.mv (.s 12))) (some (69, false)), .mk (some 71) (.p (.pick (.s 69) (.c (.bool true)) (.s 70))) (some (61, true)), .mk (some 72) (.p
  (.eqk false .bool (.s 67) (.s 71))) (some (61, true)), .mk (some 73) (.p (.pick (.s 61) (.s 72) (.c (.bool false)))) none, .mk (some 74) (.p (.mv (.s 73))) none, .mk (some 75) (.p
  (.mv (.s 9))) (some (74, true)), .mk (some 76) (.p (.mv (.s 7))) (some (74, true)), .mk (some 77) (.p (.mv (.s 8))) (some (74, true)), .mk (some 78) (.e (.call 48 [.s 75, .s 76,
  .s 77])) (some (74, true)), .mk (some 79) (.p (.mv (.s 2))) (some (74, true)), .mk (some 80) (.e (.call 22 [.s 78, .s 79])) (some (74, true)), .mk (some 81) (.p (.mv (.s 11)))
  (some (74, true)), .mk (some 82) (.p (.mv (.s 81))) (some (74, true)), .mk (some 83) (.p (.mv (.s 12))) (some (82, true)), .mk (some 84) (.p (.pick (.s 82) (.s 83) (.c (.bool
  false)))) (some (74, true)), .mk (some 85) (.p (.eqk false .bool (.s 80) (.s 84))) (some (74, true)), .mk (some 86) (.p (.pick (.s 74) (.s 85) (.c (.bool false)))) none, .mk (some
  87) (.p (.mv (.s 86))) none, .mk (some 88) (.p (.mv (.s 9))) (some (87, true)), .mk (some 89) (.p (.mv (.s 7))) (some (87, true)), .mk (some 90) (.p (.mv (.s 8))) (some (87,
  true)), .mk (some 91) (.e (.call 49 [.s 88, .s 89, .s 90])) (some (87, true)), .mk (some 92) (.p (.mv (.s 2))) (some (87, true)), .mk (some 93) (.e (.call 22 [.s 91, .s 92]))
  (some (87, true)), .mk (some 94) (.p (.mv (.s 11))) (some (87, true)), .mk (some 95) (.p (.mv (.s 94))) (some (87, true)), .mk (some 96) (.p (.mv (.s 12))) (some (95, true)), .mk
  (some 97) (.p (.un .not (.s 96))) (some (95, true)), .mk (some 98) (.p (.pick (.s 95) (.s 97) (.c (.bool false)))) (some (87, true)), .mk (some 99) (.p (.eqk false .bool (.s 93)
  (.s 98))) (some (87, true)), .mk (some 100) (.p (.pick (.s 87) (.s 99) (.c (.bool false)))) none, .mk (some 101) (.p (.mv (.s 100))) none, .mk (some 102) (.p (.mv (.s 9))) (some
  (101, true)), .mk (some 103) (.p (.mv (.s 7))) (some (101, true)), .mk (some 104) (.e (.call 50 [.s 102, .s 103])) (some (101, true)), .mk (some 105) (.p (.mv (.s 2))) (some (101,
  true)), .mk (some 106) (.e (.call 22 [.s 104, .s 105])) (some (101, true)), .mk (some 107) (.p (.mv (.s 10))) (some (101, true)), .mk (some 108) (.p (.mv (.s 107))) (some (101,
  true)), .mk (some 109) (.p (.mv (.s 11))) (some (108, true)), .mk (some 110) (.p (.un .not (.s 109))) (some (108, true)), .mk (some 111) (.p (.pick (.s 108) (.s 110) (.c (.bool
  false)))) (some (101, true)), .mk (some 112) (.p (.eqk false .bool (.s 106) (.s 111))) (some (101, true)), .mk (some 113) (.p (.pick (.s 101) (.s 112) (.c (.bool false)))) none,
  .mk (some 114) (.p (.mv (.s 113))) none, .mk (some 115) (.p (.mv (.s 9))) (some (114, true)), .mk (some 116) (.p (.nilck (.s 115))) (some (114, true)), .mk (some 117) (.p (.faddr
  0 (.s 116))) (some (114, true)), .mk (some 118) (.r (.load none (.s 117))) (some (114, true)), .mk (some 119) (.p (.un .not (.s 118))) (some (114, true)), .mk (some 120) (.p
  (.pick (.s 114) (.s 119) (.c (.bool false)))) none, .mk (some 6) (.p (.mv (.s 120))) none] [6] []) .ret)))))))))
theorem fn11 : (autoPrg Try.prog).fn 11 = some LF11 := by kernel_rfl

def LF13 : LFunc :=
  .mk 3 [.tmp 6] (.seq (.region [.mk (some 6) (.p (.mv (.c (.bool false)))) none] [0, 1, 2] []) (.seq (.region [.mk (some 18) (.p (.mv (.s 0))) none, .mk (some 19) (.e (.call 15 [.s
  18])) none, .mk (some 20) (.e (.call 43 [.s 19])) none, .mk (some 7) (.p (.mv (.s 20))) none] [1, 2, 7] []) (.seq (.region [.mk (some 21) (.p (.mv (.s 1))) none, .mk (some 22) (.e
  (.call 15 [.s 21])) none, .mk (some 23) (.e (.call 43 [.s 22])) none, .mk (some 8) (.p (.mv (.s 23))) none] [2, 7, 8] []) (.seq (.region [.mk (some 24) (.p (.mv (.s 2))) none, .mk
  (some 25) (.e (.call 15 [.s 24])) none, .mk (some 26) (.e (.call 43 [.s 25])) none, .mk (some 9) (.p (.mv (.s 26))) none] [7, 8, 9] []) (.seq (.seq (.region [.mk (some 27) (.e
  (.call 14 [])) none, .mk (some 28) (.p (.un .not (.s 27))) none, .mk (some 29) (.p (.mv (.s 28))) none, .mk (some 30) (.p (.mv (.s 7))) (some (29, false)), .mk (some 31) (.p (.eqk
  false .ptr (.s 30) (.c (.pointer none)))) (some (29, false)), .mk (some 32) (.p (.pick (.s 29) (.c (.bool true)) (.s 31))) none, .mk (some 33) (.p (.mv (.s 32))) none, .mk (some
  34) (.p (.mv (.s 8))) (some (33, false)), .mk (some 35) (.p (.eqk false .ptr (.s 34) (.c (.pointer none)))) (some (33, false)), .mk (some 36) (.p (.pick (.s 33) (.c (.bool true))
  (.s 35))) none, .mk (some 37) (.p (.mv (.s 36))) none, .mk (some 38) (.p (.mv (.s 9))) (some (37, false)), .mk (some 39) (.p (.eqk false .ptr (.s 38) (.c (.pointer none)))) (some
  (37, false)), .mk (some 40) (.p (.pick (.s 37) (.c (.bool true)) (.s 39))) none] [7, 8, 9, 40] []) (.cond (.s 40) (.seq (.region [.mk (some 6) (.p (.mv (.c (.bool false)))) none]
  [6] []) .ret) .skip)) (.seq (.region [.mk (some 41) (.p (.mv (.s 7))) none, .mk (some 42) (.p (.build [.bool false, .pointer none] [(1, 1, .s 41)])) none, .mk (some 43) (.e (.boxH
  2 (.s 42))) none, .mk (some 10) (.p (.mv (.s 43))) none] [7, 8, 9, 10] []) (.seq (.region [.mk (some 44) (.p (.mv (.s 10))) none, .mk (some 45) (.p (.mv (.s 7))) none, .mk (some
  46) (.p (.mv (.s 8))) none, .mk (some 47) (.e (.call 47 [.s 44, .s 45, .s 46])) none, .mk (some 11) (.p (.mv (.s 47))) none] [7, 8, 9, 10, 11] []) (.seq (.region [.mk (some 48)
  (.p (.mv (.s 10))) none, .mk (some 49) (.p (.mv (.s 7))) none, .mk (some 50) (.p (.mv (.s 8))) none, .mk (some 51) (.e (.call 48 [.s 48, .s 49, .s 50])) none, .mk (some 12) (.p
  (.mv (.s 51))) none] [7, 8, 9, 10, 11, 12] []) (.seq (.region [.mk (some 52) (.p (.mv (.s 10))) none, .mk (some 53) (.p (.mv (.s 7))) none, .mk (some 54) (.e (.call 50 [.s 52, .s
  53])) none, .mk (some 13) (.p (.mv (.s 54))) none] [7, 8, 9, 10, 11, 12, 13] []) (.seq (.seq (.region [.mk (some 55) (.p (.mv (.s 11))) none, .mk (some 56) (.p (.mv (.s 10)))
  none, .mk (some 57) (.p (.mv (.s 8))) none, .mk (some 58) (.p (.mv (.s 7))) none, .mk (some 59) (.e (.call 47 [.s 56, .s 57, .s 58])) none, .mk (some 60) (.e (.call 55 [.s 55, .s
  59])) none, .mk (some 61) (.p (.un .not (.s 60))) none, .mk (some 62) (.p (.mv (.s 61))) none, .mk (some 63) (.p (.mv (.s 12))) (some (62, false)), .mk (some 64) (.p (.mv (.s
  10))) (some (62, false)), .mk (some 65) (.p (.mv (.s 8))) (some (62, false)), .mk (some 66) (.p (.mv (.s 7))) (some (62, false)), .mk (some 67) (.e (.call 48 [.s 64, .s 65, .s
  66])) (some (62, false)), .mk (some 68) (.e (.call 55 [.s 63, .s 67])) (some (62, false)), .mk (some 69) (.p (.un .not (.s 68))) (some (62, false)), .mk (some 70) (.p (.pick (.s
  62) (.c (.bool true)) (.s 69))) none, .mk (some 71) (.p (.mv (.s 70))) none, .mk (some 72) (.p (.mv (.s 10))) (some (71, false)), .mk (some 73) (.p (.mv (.s 13))) (some (71,
  false)), .mk (some 74) (.e (.call 50 [.s 72, .s 73])) (some (71, false)), .mk (some 75) (.p (.mv (.s 7))) (some (71, false)), .mk (some 76) (.e (.call 55 [.s 74, .s 75])) (some
  (71, false)), .mk (some 77) (.p (.un .not (.s 76))) (some (71, false)), .mk (some 78) (.p (.pick (.s 71) (.c (.bool true)) (.s 77))) none, .mk (some 79) (.p (.mv (.s 78))) none,
  .mk (some 80) (.p (.mv (.s 10))) (some (79, false)), .mk (some 81) (.p (.mv (.s 7))) (some (79, false)), .mk (some 82) (.p (.mv (.s 8))) (some (79, false)), .mk (some 83) (.e
  (.call 49 [.s 80, .s 81, .s 82])) (some (79, false)), .mk (some 84) (.p (.mv (.s 10))) (some (79, false)), .mk (some 85) (.p (.mv (.s 7))) (some (79, false)), .mk (some 86) (.p
  (.mv (.s 10))) (some (79, false)), .mk (some 87) (.p (.mv (.s 8))) (some (79, false)), .mk (some 88) (.e (.call 50 [.s 86, .s 87])) (some (79, false)), .mk (some 89) (.e (.call 48
  [.s 84, .s 85, .s 88])) (some (79, false)), .mk (some 90) (.e (.call 55 [.s 83, .s 89])) (some (79, false)), .mk (some 91) (.p (.un .not (.s 90))) (some (79, false)), .mk (some
  92) (.p (.pick (.s 79) (.c (.bool true)) (.s 91))) none] [7, 8, 9, 10, 11, 12, 13, 92] []) (.cond (.s 92) (.seq (.region [.mk (some 6) (.p (.mv (.c (.bool false)))) none] [6] [])
  .ret) .skip)) (.seq (.seq (.region [.mk (some 93) (.p (.mv (.s 10))) none, .mk (some 94) (.p (.mv (.s 11))) none, .mk (some 95) (.e (.call 50 [.s 93, .s 94])) none, .mk (some 96)
  (.p (.mv (.s 10))) none, .mk (some 97) (.p (.mv (.s 13))) none, .mk (some 98) (.p (.mv (.s 10))) none, .mk (some 99) (.p (.mv (.s 8))) none, .mk (some 100) (.e (.call 50 [.s 98,
  .s 99])) none, .mk (some 101) (.e (.call 48 [.s 96, .s 97, .s 100])) none, .mk (some 102) (.e (.call 55 [.s 95, .s 101])) none, .mk (some 103) (.p (.un .not (.s 102))) none, .mk
  (some 104) (.p (.mv (.s 103))) none, .mk (some 105) (.p (.mv (.s 10))) (some (104, false)), .mk (some 106) (.p (.mv (.s 7))) (some (104, false)), .mk (some 107) (.p (.mv (.s 10)))
  (some (104, false)), .mk (some 108) (.p (.mv (.s 8))) (some (104, false)), .mk (some 109) (.p (.mv (.s 9))) (some (104, false)), .mk (some 110) (.e (.call 47 [.s 107, .s 108, .s
  109])) (some (104, false)), .mk (some 111) (.e (.call 48 [.s 105, .s 106, .s 110])) (some (104, false)), .mk (some 112) (.p (.mv (.s 10))) (some (104, false)), .mk (some 113) (.p
  (.mv (.s 12))) (some (104, false)), .mk (some 114) (.p (.mv (.s 10))) (some (104, false)), .mk (some 115) (.p (.mv (.s 7))) (some (104, false)), .mk (some 116) (.p (.mv (.s 9)))
  (some (104, false)), .mk (some 117) (.e (.call 48 [.s 114, .s 115, .s 116])) (some (104, false)), .mk (some 118) (.e (.call 47 [.s 112, .s 113, .s 117])) (some (104, false)), .mk
  (some 119) (.e (.call 55 [.s 111, .s 118])) (some (104, false)), .mk (some 120) (.p (.un .not (.s 119))) (some (104, false)), .mk (some 121) (.p (.pick (.s 104) (.c (.bool true))
  (.s 120))) none, .mk (some 122) (.p (.mv (.s 121))) none, .mk (some 123) (.p (.mv (.s 10))) (some (122, false)), .mk (some 124) (.p (.mv (.s 7))) (some (122, false)), .mk (some
  125) (.p (.mv (.s 10))) (some (122, false)), .mk (some 126) (.p (.mv (.s 8))) (some (122, false)), .mk (some 127) (.p (.mv (.s 9))) (some (122, false)), .mk (some 128) (.e (.call
  48 [.s 125, .s 126, .s 127])) (some (122, false)), .mk (some 129) (.e (.call 47 [.s 123, .s 124, .s 128])) (some (122, false)), .mk (some 130) (.p (.mv (.s 10))) (some (122,
  false)), .mk (some 131) (.p (.mv (.s 11))) (some (122, false)), .mk (some 132) (.p (.mv (.s 10))) (some (122, false)), .mk (some 133) (.p (.mv (.s 7))) (some (122, false)), .mk
  (some 134) (.p (.mv (.s 9))) (some (122, false)), .mk (some 135) (.e (.call 47 [.s 132, .s 133, .s 134])) (some (122, false)), .mk (some 136) (.e (.call 48 [.s 130, .s 131, .s
  135])) (some (122, false)), .mk (some 137) (.e (.call 55 [.s 129, .s 136])) (some (122, false)), .mk (some 138) (.p (.un .not (.s 137))) (some (122, false)), .mk (some 139) (.p
  (.pick (.s 122) (.c (.bool true)) (.s 138))) none] [7, 8, 10, 11, 12, 13, 139] []) (.cond (.s 139) (.seq (.region [.mk (some 6) (.p (.mv (.c (.bool false)))) none] [6] []) .ret)
  .skip)) (.seq (.region [.mk (some 141) (.p (.mv (.s 7))) none, .mk (some 142) (.e (.call 18 [.s 141])) none, .mk (some 143) (.e (.call 58 [.s 142])) none, .mk (some 140) (.p (.mv
  (.s 143))) none, .mk (some 144) (.p (.ext 0 (.s 140))) none, .mk (some 145) (.p (.ext 1 (.s 140))) none, .mk (some 14) (.p (.mv (.s 144))) none, .mk (some 15) (.p (.mv (.s 145)))
  none] [7, 8, 10, 11, 12, 13, 14, 15] []) (.seq (.region [.mk (some 147) (.p (.mv (.s 7))) none, .mk (some 148) (.e (.call 18 [.s 147])) none, .mk (some 149) (.e (.call 32 [.s
  148])) none, .mk (some 146) (.p (.mv (.s 149))) none, .mk (some 150) (.p (.ext 0 (.s 146))) none, .mk (some 151) (.p (.ext 1 (.s 146))) none, .mk (some 16) (.p (.mv (.s 150)))
  none, .mk (some 17) (.p (.mv (.s 151))) none] [7, 8, 10, 11, 12, 13, 14, 15, 16, 17] []) (.seq (.seq (.region [.mk (some 152) (.p (.mv (.s 15))) none, .mk (some 153) (.p (.bin
  .neq (.s 152) (.c (.int .i64 0)))) none, .mk (some 154) (.p (.mv (.s 153))) none, .mk (some 155) (.p (.mv (.s 14))) (some (154, false)), .mk (some 156) (.p (.eqk false .ptr (.s
  155) (.c (.pointer none)))) (some (154, false)), .mk (some 157) (.p (.pick (.s 154) (.c (.bool true)) (.s 156))) none, .mk (some 158) (.p (.mv (.s 157))) none, .mk (some 159) (.p
  (.mv (.s 14))) (some (158, false)), .mk (some 160) (.p (.mv (.s 7))) (some (158, false)), .mk (some 161) (.e (.call 55 [.s 159, .s 160])) (some (158, false)), .mk (some 162) (.p
  (.un .not (.s 161))) (some (158, false)), .mk (some 163) (.p (.pick (.s 158) (.c (.bool true)) (.s 162))) none, .mk (some 164) (.p (.mv (.s 163))) none, .mk (some 165) (.p (.mv
  (.s 16))) (some (164, false)), .mk (some 166) (.p (.bin .neq (.s 165) (.c (.int .i64 0)))) (some (164, false)), .mk (some 167) (.p (.pick (.s 164) (.c (.bool true)) (.s 166)))
  none, .mk (some 168) (.p (.mv (.s 167))) none, .mk (some 169) (.p (.mv (.s 17))) (some (168, false)), .mk (some 170) (.p (.bin .neq (.s 169) (.c (.int .i64 0)))) (some (168,
  false)), .mk (some 171) (.p (.pick (.s 168) (.c (.bool true)) (.s 170))) none] [7, 8, 10, 11, 12, 13, 171] []) (.cond (.s 171) (.seq (.region [.mk (some 6) (.p (.mv (.c (.bool
  false)))) none] [6] []) .ret) .skip)) (.seq (.region [.mk (some 172) (.p (.mv (.s 11))) none, .mk (some 173) (.e (.call 20 [.s 172])) none, .mk (some 174) (.p (.mv (.s 12))) none,
  .mk (some 175) (.e (.call 20 [.s 174])) none, .mk (some 176) (.p (.bin .add (.s 173) (.s 175))) none, .mk (some 177) (.p (.mv (.s 7))) none, .mk (some 178) (.e (.call 20 [.s
  177])) none, .mk (some 179) (.p (.mv (.s 8))) none, .mk (some 180) (.e (.call 20 [.s 179])) none, .mk (some 181) (.p (.bin .add (.s 178) (.s 180))) none, .mk (some 182) (.p (.bin
  .eql (.s 176) (.s 181))) none, .mk (some 183) (.p (.mv (.s 182))) none, .mk (some 184) (.p (.mv (.s 13))) (some (183, true)), .mk (some 185) (.e (.call 20 [.s 184])) (some (183,
  true)), .mk (some 186) (.p (.mv (.s 7))) (some (183, true)), .mk (some 187) (.e (.call 20 [.s 186])) (some (183, true)), .mk (some 188) (.p (.bin .sub (.c (.int .i64 1112064)) (.s
  187))) (some (183, true)), .mk (some 189) (.p (.bin .eql (.s 185) (.s 188))) (some (183, true)), .mk (some 190) (.p (.pick (.s 183) (.s 189) (.c (.bool false)))) none, .mk (some
  191) (.p (.mv (.s 190))) none, .mk (some 192) (.p (.mv (.s 10))) (some (191, true)), .mk (some 193) (.p (.mv (.s 7))) (some (191, true)), .mk (some 194) (.e (.call 47 [.s 192, .s
  193, .c (.pointer none)])) (some (191, true)), .mk (some 195) (.p (.mv (.s 7))) (some (191, true)), .mk (some 196) (.e (.call 55 [.s 194, .s 195])) (some (191, true)), .mk (some
  197) (.p (.pick (.s 191) (.s 196) (.c (.bool false)))) none, .mk (some 198) (.p (.mv (.s 197))) none, .mk (some 199) (.p (.mv (.s 10))) (some (198, true)), .mk (some 200) (.p (.mv
  (.s 7))) (some (198, true)), .mk (some 201) (.e (.call 48 [.s 199, .s 200, .c (.pointer none)])) (some (198, true)), .mk (some 202) (.e (.call 20 [.s 201])) (some (198, true)),
  .mk (some 203) (.p (.bin .eql (.s 202) (.c (.int .i64 0)))) (some (198, true)), .mk (some 204) (.p (.pick (.s 198) (.s 203) (.c (.bool false)))) none, .mk (some 205) (.p (.mv (.s
  204))) none, .mk (some 206) (.p (.mv (.s 10))) (some (205, true)), .mk (some 207) (.p (.mv (.s 7))) (some (205, true)), .mk (some 208) (.e (.call 49 [.s 206, .s 207, .c (.pointer
  none)])) (some (205, true)), .mk (some 209) (.p (.mv (.s 7))) (some (205, true)), .mk (some 210) (.e (.call 55 [.s 208, .s 209])) (some (205, true)), .mk (some 211) (.p (.pick (.s
  205) (.s 210) (.c (.bool false)))) none, .mk (some 212) (.p (.mv (.s 211))) none, .mk (some 213) (.p (.mv (.s 7))) (some (212, true)), .mk (some 214) (.e (.call 55 [.s 213, .c
  (.pointer none)])) (some (212, true)), .mk (some 215) (.p (.mv (.s 7))) (some (212, true)), .mk (some 216) (.e (.call 20 [.s 215])) (some (212, true)), .mk (some 217) (.p (.bin
  .eql (.s 216) (.c (.int .i64 0)))) (some (212, true)), .mk (some 218) (.p (.eqk false .bool (.s 214) (.s 217))) (some (212, true)), .mk (some 219) (.p (.pick (.s 212) (.s 218) (.c
  (.bool false)))) none, .mk (some 220) (.p (.mv (.s 219))) none, .mk (some 221) (.p (.mv (.s 10))) (some (220, true)), .mk (some 222) (.p (.nilck (.s 221))) (some (220, true)), .mk
  (some 223) (.p (.faddr 0 (.s 222))) (some (220, true)), .mk (some 224) (.r (.load none (.s 223))) (some (220, true)), .mk (some 225) (.p (.un .not (.s 224))) (some (220, true)),
  .mk (some 226) (.p (.pick (.s 220) (.s 225) (.c (.bool false)))) none, .mk (some 6) (.p (.mv (.s 226))) none] [6] []) .ret)))))))))))))))
theorem fn13 : (autoPrg Try.prog).fn 13 = some LF13 := by kernel_rfl

def LF47 : LFunc :=
  .mk 3 [.tmp 6] (.seq (.region [.mk (some 6) (.p (.mv (.c (.pointer none)))) none] [0, 1, 2] []) (.seq (.region [.mk (some 7) (.p (.mv (.s 0))) none, .mk (some 8) (.p (.mv (.s 1)))
  none, .mk (some 9) (.p (.mv (.s 2))) none, .mk (some 10) (.e (.call 51 [.s 8, .s 9])) none, .mk (some 11) (.e (.call 78 [.s 7, .s 10])) none, .mk (some 6) (.p (.mv (.s 11))) none]
  [6] []) .ret))
theorem fn47 : (autoPrg Try.prog).fn 47 = some LF47 := by kernel_rfl

def LF48 : LFunc :=
  .mk 3 [.tmp 6] (.seq (.region [.mk (some 6) (.p (.mv (.c (.pointer none)))) none] [0, 1, 2] []) (.seq (.region [.mk (some 7) (.p (.mv (.s 0))) none, .mk (some 8) (.p (.mv (.s 1)))
  none, .mk (some 9) (.p (.mv (.s 2))) none, .mk (some 10) (.e (.call 52 [.s 8, .s 9])) none, .mk (some 11) (.e (.call 78 [.s 7, .s 10])) none, .mk (some 6) (.p (.mv (.s 11))) none]
  [6] []) .ret))
theorem fn48 : (autoPrg Try.prog).fn 48 = some LF48 := by kernel_rfl

def LF49 : LFunc :=
  .mk 3 [.tmp 6] (.seq (.region [.mk (some 6) (.p (.mv (.c (.pointer none)))) none] [0, 1, 2] []) (.seq (.region [.mk (some 7) (.p (.mv (.s 0))) none, .mk (some 8) (.p (.mv (.s 1)))
  none, .mk (some 9) (.p (.mv (.s 2))) none, .mk (some 10) (.e (.call 53 [.s 8, .s 9])) none, .mk (some 11) (.e (.call 78 [.s 7, .s 10])) none, .mk (some 6) (.p (.mv (.s 11))) none]
  [6] []) .ret))
theorem fn49 : (autoPrg Try.prog).fn 49 = some LF49 := by kernel_rfl

def LF50 : LFunc :=
  .mk 2 [.tmp 4] (.seq (.region [.mk (some 4) (.p (.mv (.c (.pointer none)))) none] [0, 1] []) (.seq (.region [.mk (some 5) (.p (.mv (.s 0))) none, .mk (some 6) (.p (.mv (.s 1)))
  none, .mk (some 7) (.e (.call 54 [.s 6])) none, .mk (some 8) (.e (.call 78 [.s 5, .s 7])) none, .mk (some 4) (.p (.mv (.s 8))) none] [4] []) .ret))
theorem fn50 : (autoPrg Try.prog).fn 50 = some LF50 := by kernel_rfl

def LF78 : LFunc :=
  .mk 2 [.tmp 4] (.seq (.region [.mk (some 4) (.p (.mv (.c (.pointer none)))) none] [0, 1] []) (.seq (.seq (.region [.mk (some 5) (.p (.mv (.s 1))) none, .mk (some 6) (.p (.eqk
  false .ptr (.s 5) (.c (.pointer none)))) none] [0, 1, 6] []) (.cond (.s 6) (.seq (.region [.mk (some 7) (.p (.mv (.s 0))) none, .mk (some 8) (.p (.nilck (.s 7))) none, .mk (some
  9) (.p (.faddr 0 (.s 8))) none, .mk none (.e (.store 1 (.s 9) (.c (.bool true)))) none] [0] []) (.seq (.region [.mk (some 10) (.p (.mv (.s 0))) none, .mk (some 11) (.p (.nilck (.s
  10))) none, .mk (some 12) (.p (.faddr 1 (.s 11))) none, .mk (some 13) (.r (.load none (.s 12))) none, .mk (some 4) (.p (.mv (.s 13))) none] [4] []) .ret)) .skip)) (.seq (.region
  [.mk (some 14) (.p (.mv (.s 1))) none, .mk (some 4) (.p (.mv (.s 14))) none] [4] []) .ret)))
theorem fn78 : (autoPrg Try.prog).fn 78 = some LF78 := by kernel_rfl

end Go.Proofs.Ytanpdopjgepbkaa.AM
