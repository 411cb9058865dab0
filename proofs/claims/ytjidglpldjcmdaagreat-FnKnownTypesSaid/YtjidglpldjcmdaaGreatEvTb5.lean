/-
The table: functions in the evaluator's form, each checked against the program.
-/
import Derived.Test.YtjidglpldjcmdaaGreatEvTb0
set_option linter.unusedVariables false
set_option maxRecDepth 1000000
namespace Go.Ev
open Go Go.Proofs.Tryz

noncomputable def q108 : MFn := ⟨(.seq (.reg [.ev (some 6) none (.w (.mv (.k (.c (.b false)))))])
 (.seq (.reg [.ev (some 7) none (.w (.mv (.t 0))),
 .ev (some 8) none (.w (.mv (.t 1))),
 .ev (some 9) none (.w (.bin .geq (.t 7) (.t 8))),
 .ev (some 10) none (.w (.mv (.t 9))),
 .ev (some 11) (some (10, true)) (.w (.mv (.t 0))),
 .ev (some 12) (some (10, true)) (.w (.mv (.t 2))),
 .ev (some 13) (some (10, true)) (.w (.bin .leq (.t 11) (.t 12))),
 .ev (some 14) none (.w (.pick (.t 10) (.t 13) (.k (.c (.b false))))),
 .ev (some 6) none (.w (.mv (.t 14)))])
 .ret)), [.t 6]⟩
theorem c108 : cFn ty ibs (cDraw ty ibs) [] f108 = some q108 := by decide +kernel
noncomputable def q109 : MFn := ⟨(.seq (.reg [.ev (some 1) none (.a (.box (.t 0))),
 .ev (some 2) none (.w (.mv (.k (.c (.i (.ofNat 0))))))])
 (.seq (.reg [.ev (some 3) none (.w (.mv (.k (.c (.i (.ofNat 0))))))])
 (.seq (.seq (.reg [.ev (some 4) none (.w (.mv (.k (.c (.i (.ofNat 0))))))])
 (.blk 0 (.loop (.seq (.seq (.reg [.ev (some 5) none (.w (.mv (.t 4))),
 .ev (some 6) none (.w (.fad 3 (.t 1))),
 .ev (some 7) none (.r (.ld none (.t 6))),
 .ev (some 8) none (.w (.lnl (.t 7))),
 .ev (some 9) none (.w (.bin .lss (.t 5) (.t 8)))])
 (.cond (.t 9) .skip (.exit 0)))
 (.seq (.blk 1 (.reg [.ev (some 12) none (.w (.mv (.t 3))),
 .ev (some 13) none (.w (.fad 3 (.t 1))),
 .ev (some 14) none (.r (.ld none (.t 13))),
 .ev (some 15) none (.w (.mv (.t 4))),
 .ev (some 16) none (.w (.iad 4 (.t 14) (.t 15))),
 .ev (some 17) none (.r (.ld (some 4) (.t 16))),
 .ev (some 18) none (.m (.call 109 [.t 17])),
 .ev (some 19) none (.m (.call 172 [.t 12, .t 18])),
 .ev (some 3) none (.w (.mv (.t 19)))]))
 (.reg [.ev (some 10) none (.w (.mv (.t 4))),
 .ev (some 11) none (.w (.bin .add (.t 10) (.k (.c (.i (.ofNat 1)))))),
 .ev (some 4) none (.w (.mv (.t 11)))]))))))
 (.seq (.reg [.ev (some 20) none (.w (.mv (.t 3))),
 .ev (some 21) none (.w (.bin .add (.t 20) (.k (.c (.i (.ofNat 1)))))),
 .ev (some 2) none (.w (.mv (.t 21)))])
 .ret)))), [.t 2]⟩
theorem c109 : cFn ty ibs (cDraw ty ibs) [] f109 = some q109 := by decide +kernel
noncomputable def q110 : MFn := ⟨(.seq (.reg [.ev (some 2) none (.a (.box (.t 0))),
 .ev (some 4) none (.w (.mv (.k (.c (.b false)))))])
 (.seq (.seq (.reg [.ev (some 5) none (.w (.mv (.k (.c (.i (.ofNat 0))))))])
 (.blk 0 (.loop (.seq (.seq (.reg [.ev (some 6) none (.w (.mv (.t 5))),
 .ev (some 7) none (.w (.fad 3 (.t 2))),
 .ev (some 8) none (.r (.ld none (.t 7))),
 .ev (some 9) none (.w (.lnl (.t 8))),
 .ev (some 10) none (.w (.bin .lss (.t 6) (.t 9)))])
 (.cond (.t 10) .skip (.exit 0)))
 (.seq (.blk 1 (.seq (.reg [.ev (some 13) none (.w (.fad 3 (.t 2))),
 .ev (some 14) none (.r (.ld none (.t 13))),
 .ev (some 15) none (.w (.mv (.t 5))),
 .ev (some 16) none (.w (.iad 4 (.t 14) (.t 15))),
 .ev (some 17) none (.r (.ld (some 4) (.t 16))),
 .ev (some 18) none (.w (.mv (.t 1))),
 .ev (some 19) none (.m (.call 110 [.t 17, .t 18])),
 .ev (some 20) none (.w (.un .not (.t 19)))])
 (.cond (.t 20) (.seq (.reg [.ev (some 4) none (.w (.mv (.k (.c (.b false)))))])
 .ret) .skip)))
 (.reg [.ev (some 11) none (.w (.mv (.t 5))),
 .ev (some 12) none (.w (.bin .add (.t 11) (.k (.c (.i (.ofNat 1)))))),
 .ev (some 5) none (.w (.mv (.t 12)))]))))))
 (.seq (.seq (.reg [.ev (some 21) none (.w (.fad 0 (.t 2))),
 .ev (some 22) none (.r (.ld none (.t 21)))])
 (.blk 2 (.seq (.reg [.ev (some 24) none (.w (.bin .eql (.t 22) (.k (.c (.i (.ofNat 1)))))),
 .ev (some 23) none (.w (.mv (.t 24)))])
 (.cond (.t 23) (.seq (.reg [.ev (some 25) none (.w (.fad 1 (.t 2))),
 .ev (some 26) none (.r (.ld none (.t 25))),
 .ev (some 27) none (.w (.bin .eql (.t 26) (.k (.c (.i (.ofNat 0)))))),
 .ev (some 28) none (.w (.mv (.t 27))),
 .ev (some 29) (some (28, true)) (.w (.fad 2 (.t 2))),
 .ev (some 30) (some (28, true)) (.r (.ld none (.t 29))),
 .ev (some 31) (some (28, true)) (.w (.bin .eql (.t 30) (.k (.c (.s []))))),
 .ev (some 32) none (.w (.pick (.t 28) (.t 31) (.k (.c (.b false))))),
 .ev (some 33) none (.w (.mv (.t 32))),
 .ev (some 34) (some (33, true)) (.w (.fad 3 (.t 2))),
 .ev (some 35) (some (33, true)) (.r (.ld none (.t 34))),
 .ev (some 36) (some (33, true)) (.w (.lnl (.t 35))),
 .ev (some 37) (some (33, true)) (.w (.bin .eql (.t 36) (.k (.c (.i (.ofNat 0)))))),
 .ev (some 38) none (.w (.pick (.t 33) (.t 37) (.k (.c (.b false))))),
 .ev (some 4) none (.w (.mv (.t 38)))])
 .ret) (.seq (.reg [.ev (some 40) none (.w (.bin .eql (.t 22) (.k (.c (.i (.ofNat 2)))))),
 .ev (some 39) none (.w (.mv (.t 40)))])
 (.cond (.t 39) (.seq (.reg [.ev (some 41) none (.w (.fad 1 (.t 2))),
 .ev (some 42) none (.r (.ld none (.t 41))),
 .ev (some 43) none (.w (.mv (.t 1))),
 .ev (some 44) none (.w (.bin .sub (.t 43) (.k (.c (.i (.ofNat 1)))))),
 .ev (some 45) none (.m (.call 108 [.t 42, .k (.c (.i (.ofNat 0))), .t 44])),
 .ev (some 46) none (.w (.mv (.t 45))),
 .ev (some 47) (some (46, true)) (.w (.fad 2 (.t 2))),
 .ev (some 48) (some (46, true)) (.r (.ld none (.t 47))),
 .ev (some 49) (some (46, true)) (.w (.bin .eql (.t 48) (.k (.c (.s []))))),
 .ev (some 50) none (.w (.pick (.t 46) (.t 49) (.k (.c (.b false))))),
 .ev (some 51) none (.w (.mv (.t 50))),
 .ev (some 52) (some (51, true)) (.w (.fad 3 (.t 2))),
 .ev (some 53) (some (51, true)) (.r (.ld none (.t 52))),
 .ev (some 54) (some (51, true)) (.w (.lnl (.t 53))),
 .ev (some 55) (some (51, true)) (.w (.bin .eql (.t 54) (.k (.c (.i (.ofNat 0)))))),
 .ev (some 56) none (.w (.pick (.t 51) (.t 55) (.k (.c (.b false))))),
 .ev (some 4) none (.w (.mv (.t 56)))])
 .ret) (.seq (.reg [.ev (some 58) none (.w (.bin .eql (.t 22) (.k (.c (.i (.ofNat 3)))))),
 .ev (some 57) none (.w (.mv (.t 58)))])
 (.cond (.t 57) (.seq (.reg [.ev (some 59) none (.w (.fad 1 (.t 2))),
 .ev (some 60) none (.r (.ld none (.t 59))),
 .ev (some 61) none (.w (.bin .eql (.t 60) (.k (.c (.i (.ofNat 0)))))),
 .ev (some 62) none (.w (.mv (.t 61))),
 .ev (some 63) (some (62, true)) (.w (.fad 2 (.t 2))),
 .ev (some 64) (some (62, true)) (.r (.ld none (.t 63))),
 .ev (some 65) (some (62, true)) (.w (.bin .eql (.t 64) (.k (.c (.s []))))),
 .ev (some 66) none (.w (.pick (.t 62) (.t 65) (.k (.c (.b false))))),
 .ev (some 67) none (.w (.mv (.t 66))),
 .ev (some 68) (some (67, true)) (.w (.fad 3 (.t 2))),
 .ev (some 69) (some (67, true)) (.r (.ld none (.t 68))),
 .ev (some 70) (some (67, true)) (.w (.lnl (.t 69))),
 .ev (some 71) (some (67, true)) (.w (.bin .eql (.t 70) (.k (.c (.i (.ofNat 2)))))),
 .ev (some 72) none (.w (.pick (.t 67) (.t 71) (.k (.c (.b false))))),
 .ev (some 4) none (.w (.mv (.t 72)))])
 .ret) (.seq (.reg [.ev (some 74) none (.w (.bin .eql (.t 22) (.k (.c (.i (.ofNat 4)))))),
 .ev (some 73) none (.w (.mv (.t 74)))])
 (.cond (.t 73) (.seq (.reg [.ev (some 75) none (.w (.fad 1 (.t 2))),
 .ev (some 76) none (.r (.ld none (.t 75))),
 .ev (some 77) none (.w (.bin .eql (.t 76) (.k (.c (.i (.ofNat 0)))))),
 .ev (some 78) none (.w (.mv (.t 77))),
 .ev (some 79) (some (78, true)) (.w (.fad 2 (.t 2))),
 .ev (some 80) (some (78, true)) (.r (.ld none (.t 79))),
 .ev (some 81) (some (78, true)) (.m (.call 107 [.t 80])),
 .ev (some 82) none (.w (.pick (.t 78) (.t 81) (.k (.c (.b false))))),
 .ev (some 4) none (.w (.mv (.t 82)))])
 .ret) .skip))))))))))
 (.seq (.reg [.ev (some 4) none (.w (.mv (.k (.c (.b false)))))])
 .ret)))), [.t 4]⟩
theorem c110 : cFn ty ibs (cDraw ty ibs) [] f110 = some q110 := by decide +kernel
noncomputable def q111 : MFn := ⟨(.seq (.reg [.ev (some 1) none (.a (.box (.t 0))),
 .ev (some 2) none (.w (.mv (.k (.c (.i (.ofNat 0))))))])
 (.seq (.reg [.ev (some 3) none (.w (.mv (.k (.c (.i (.ofNat 0))))))])
 (.seq (.seq (.reg [.ev (some 4) none (.w (.mv (.k (.c (.i (.ofNat 0))))))])
 (.blk 0 (.loop (.seq (.seq (.reg [.ev (some 5) none (.w (.mv (.t 4))),
 .ev (some 6) none (.w (.fad 4 (.t 1))),
 .ev (some 7) none (.r (.ld none (.t 6))),
 .ev (some 8) none (.w (.lnl (.t 7))),
 .ev (some 9) none (.w (.bin .lss (.t 5) (.t 8)))])
 (.cond (.t 9) .skip (.exit 0)))
 (.seq (.blk 1 (.reg [.ev (some 12) none (.w (.mv (.t 3))),
 .ev (some 13) none (.w (.fad 4 (.t 1))),
 .ev (some 14) none (.r (.ld none (.t 13))),
 .ev (some 15) none (.w (.mv (.t 4))),
 .ev (some 16) none (.w (.iad 5 (.t 14) (.t 15))),
 .ev (some 17) none (.r (.ld (some 5) (.t 16))),
 .ev (some 18) none (.m (.call 111 [.t 17])),
 .ev (some 19) none (.m (.call 172 [.t 12, .t 18])),
 .ev (some 3) none (.w (.mv (.t 19)))]))
 (.reg [.ev (some 10) none (.w (.mv (.t 4))),
 .ev (some 11) none (.w (.bin .add (.t 10) (.k (.c (.i (.ofNat 1)))))),
 .ev (some 4) none (.w (.mv (.t 11)))]))))))
 (.seq (.reg [.ev (some 20) none (.w (.mv (.t 3))),
 .ev (some 21) none (.w (.bin .add (.t 20) (.k (.c (.i (.ofNat 1)))))),
 .ev (some 2) none (.w (.mv (.t 21)))])
 .ret)))), [.t 2]⟩
theorem c111 : cFn ty ibs (cDraw ty ibs) [] f111 = some q111 := by decide +kernel
noncomputable def q112 : MFn := ⟨(.seq (.reg [.ev (some 1) none (.a (.box (.t 0))),
 .ev (some 2) none (.w (.mv (.k (.c (.b false)))))])
 (.seq (.reg [.ev (some 4) none (.w (.fad 4 (.t 1))),
 .ev (some 5) none (.r (.ld none (.t 4))),
 .ev (some 6) none (.w (.lnl (.t 5))),
 .ev (some 3) none (.w (.mv (.t 6)))])
 (.seq (.seq (.reg [.ev (some 7) none (.w (.fad 0 (.t 1))),
 .ev (some 8) none (.r (.ld none (.t 7))),
 .ev (some 9) none (.w (.bin .neq (.t 8) (.k (.c (.i (.ofNat 1)))))),
 .ev (some 10) none (.w (.mv (.t 9))),
 .ev (some 11) (some (10, true)) (.w (.fad 1 (.t 1))),
 .ev (some 12) (some (10, true)) (.r (.ld none (.t 11))),
 .ev (some 13) (some (10, true)) (.w (.bin .neq (.t 12) (.k (.c (.i (.ofNat 0)))))),
 .ev (some 14) none (.w (.pick (.t 10) (.t 13) (.k (.c (.b false))))),
 .ev (some 15) none (.w (.mv (.t 14))),
 .ev (some 16) (some (15, false)) (.w (.fad 0 (.t 1))),
 .ev (some 17) (some (15, false)) (.r (.ld none (.t 16))),
 .ev (some 18) (some (15, false)) (.w (.bin .neq (.t 17) (.k (.c (.i (.ofNat 6)))))),
 .ev (some 19) (some (15, false)) (.w (.mv (.t 18))),
 .ev (some 20) (some (19, true)) (.w (.fad 3 (.t 1))),
 .ev (some 21) (some (19, true)) (.r (.ld none (.t 20))),
 .ev (some 22) (some (19, true)) (.w (.bin .neq (.t 21) (.k (.c (.s []))))),
 .ev (some 23) (some (15, false)) (.w (.pick (.t 19) (.t 22) (.k (.c (.b false))))),
 .ev (some 24) none (.w (.pick (.t 15) (.k (.c (.b true))) (.t 23)))])
 (.cond (.t 24) (.seq (.reg [.ev (some 2) none (.w (.mv (.k (.c (.b false)))))])
 .ret) .skip))
 (.seq (.seq (.reg [.ev (some 25) none (.w (.fad 0 (.t 1))),
 .ev (some 26) none (.r (.ld none (.t 25)))])
 (.blk 0 (.seq (.reg [.ev (some 28) none (.w (.bin .eql (.t 26) (.k (.c (.i (.ofNat 1)))))),
 .ev (some 27) none (.w (.mv (.t 28)))])
 (.cond (.t 27) (.seq (.reg [.ev (some 29) none (.w (.fad 2 (.t 1))),
 .ev (some 30) none (.r (.ld none (.t 29))),
 .ev (some 31) none (.w (.bin .eql (.t 30) (.k (.c (.s []))))),
 .ev (some 32) none (.w (.mv (.t 31))),
 .ev (some 33) (some (32, true)) (.w (.mv (.t 3))),
 .ev (some 34) (some (32, true)) (.w (.bin .eql (.t 33) (.k (.c (.i (.ofNat 0)))))),
 .ev (some 35) none (.w (.pick (.t 32) (.t 34) (.k (.c (.b false))))),
 .ev (some 36) none (.w (.mv (.t 35))),
 .ev (some 37) (some (36, true)) (.w (.fad 1 (.t 1))),
 .ev (some 38) (some (36, true)) (.r (.ld none (.t 37))),
 .ev (some 39) (some (36, true)) (.m (.call 108 [.t 38, .k (.c (.i (.ofNat 0))), .k (.c (.i (.ofNat 1073741823)))])),
 .ev (some 40) none (.w (.pick (.t 36) (.t 39) (.k (.c (.b false))))),
 .ev (some 2) none (.w (.mv (.t 40)))])
 .ret) (.seq (.reg [.ev (some 42) none (.w (.bin .eql (.t 26) (.k (.c (.i (.ofNat 2)))))),
 .ev (some 41) none (.w (.mv (.t 42)))])
 (.cond (.t 41) (.seq (.reg [.ev (some 43) none (.w (.mv (.t 3))),
 .ev (some 44) none (.w (.bin .eql (.t 43) (.k (.c (.i (.ofNat 0)))))),
 .ev (some 45) none (.w (.mv (.t 44))),
 .ev (some 46) (some (45, true)) (.w (.fad 2 (.t 1))),
 .ev (some 47) (some (45, true)) (.r (.ld none (.t 46))),
 .ev (some 48) (some (45, true)) (.m (.call 173 [.t 47])),
 .ev (some 49) none (.w (.pick (.t 45) (.t 48) (.k (.c (.b false))))),
 .ev (some 2) none (.w (.mv (.t 49)))])
 .ret) (.seq (.reg [.ev (some 51) none (.w (.bin .eql (.t 26) (.k (.c (.i (.ofNat 3)))))),
 .ev (some 50) none (.w (.mv (.t 51)))])
 (.cond (.t 50) (.seq (.reg [.ev (some 52) none (.w (.mv (.t 3))),
 .ev (some 53) none (.w (.bin .eql (.t 52) (.k (.c (.i (.ofNat 1)))))),
 .ev (some 54) none (.w (.mv (.t 53))),
 .ev (some 55) (some (54, true)) (.w (.fad 2 (.t 1))),
 .ev (some 56) (some (54, true)) (.r (.ld none (.t 55))),
 .ev (some 57) (some (54, true)) (.m (.call 173 [.t 56])),
 .ev (some 58) none (.w (.pick (.t 54) (.t 57) (.k (.c (.b false))))),
 .ev (some 59) none (.w (.mv (.t 58))),
 .ev (some 60) (some (59, true)) (.r (.ld (some 5) (.t 1))),
 .ev (some 61) (some (59, true)) (.m (.call 174 [.t 60, .k (.c (.i (.ofNat 0)))])),
 .ev (some 62) none (.w (.pick (.t 59) (.t 61) (.k (.c (.b false))))),
 .ev (some 2) none (.w (.mv (.t 62)))])
 .ret) (.seq (.reg [.ev (some 64) none (.w (.bin .eql (.t 26) (.k (.c (.i (.ofNat 5)))))),
 .ev (some 63) none (.w (.mv (.t 64)))])
 (.cond (.t 63) (.seq (.reg [.ev (some 65) none (.w (.mv (.t 3))),
 .ev (some 66) none (.w (.bin .eql (.t 65) (.k (.c (.i (.ofNat 2)))))),
 .ev (some 67) none (.w (.mv (.t 66))),
 .ev (some 68) (some (67, true)) (.w (.fad 2 (.t 1))),
 .ev (some 69) (some (67, true)) (.r (.ld none (.t 68))),
 .ev (some 70) (some (67, true)) (.m (.call 173 [.t 69])),
 .ev (some 71) none (.w (.pick (.t 67) (.t 70) (.k (.c (.b false))))),
 .ev (some 72) none (.w (.mv (.t 71))),
 .ev (some 73) (some (72, true)) (.r (.ld (some 5) (.t 1))),
 .ev (some 74) (some (72, true)) (.m (.call 174 [.t 73, .k (.c (.i (.ofNat 0)))])),
 .ev (some 75) none (.w (.pick (.t 72) (.t 74) (.k (.c (.b false))))),
 .ev (some 2) none (.w (.mv (.t 75)))])
 .ret) (.seq (.reg [.ev (some 77) none (.w (.bin .eql (.t 26) (.k (.c (.i (.ofNat 6)))))),
 .ev (some 76) none (.w (.mv (.t 77)))])
 (.cond (.t 76) (.seq (.reg [.ev (some 78) none (.w (.mv (.t 3))),
 .ev (some 79) none (.w (.bin .eql (.t 78) (.k (.c (.i (.ofNat 2)))))),
 .ev (some 80) none (.w (.mv (.t 79))),
 .ev (some 81) (some (80, true)) (.w (.fad 2 (.t 1))),
 .ev (some 82) (some (80, true)) (.r (.ld none (.t 81))),
 .ev (some 83) (some (80, true)) (.m (.call 173 [.t 82])),
 .ev (some 84) none (.w (.pick (.t 80) (.t 83) (.k (.c (.b false))))),
 .ev (some 85) none (.w (.mv (.t 84))),
 .ev (some 86) (some (85, true)) (.w (.fad 3 (.t 1))),
 .ev (some 87) (some (85, true)) (.r (.ld none (.t 86))),
 .ev (some 88) (some (85, true)) (.m (.call 173 [.t 87])),
 .ev (some 89) none (.w (.pick (.t 85) (.t 88) (.k (.c (.b false))))),
 .ev (some 90) none (.w (.mv (.t 89))),
 .ev (some 91) (some (90, true)) (.r (.ld (some 5) (.t 1))),
 .ev (some 92) (some (90, true)) (.m (.call 174 [.t 91, .k (.c (.i (.ofNat 0)))])),
 .ev (some 93) none (.w (.pick (.t 90) (.t 92) (.k (.c (.b false))))),
 .ev (some 2) none (.w (.mv (.t 93)))])
 .ret) (.seq (.reg [.ev (some 95) none (.w (.bin .eql (.t 26) (.k (.c (.i (.ofNat 7)))))),
 .ev (some 94) none (.w (.mv (.t 95)))])
 (.cond (.t 94) (.seq (.reg [.ev (some 96) none (.w (.fad 2 (.t 1))),
 .ev (some 97) none (.r (.ld none (.t 96))),
 .ev (some 98) none (.w (.bin .eql (.t 97) (.k (.c (.s []))))),
 .ev (some 99) none (.w (.mv (.t 98))),
 .ev (some 100) (some (99, true)) (.r (.ld (some 5) (.t 1))),
 .ev (some 101) (some (99, true)) (.m (.call 175 [.t 100])),
 .ev (some 102) none (.w (.pick (.t 99) (.t 101) (.k (.c (.b false))))),
 .ev (some 2) none (.w (.mv (.t 102)))])
 .ret) (.seq (.reg [.ev (some 104) none (.w (.bin .eql (.t 26) (.k (.c (.i (.ofNat 9)))))),
 .ev (some 103) none (.w (.mv (.t 104)))])
 (.cond (.t 103) (.seq (.reg [.ev (some 105) none (.w (.fad 2 (.t 1))),
 .ev (some 106) none (.r (.ld none (.t 105))),
 .ev (some 107) none (.w (.bin .eql (.t 106) (.k (.c (.s []))))),
 .ev (some 108) none (.w (.mv (.t 107))),
 .ev (some 109) (some (108, true)) (.w (.mv (.t 3))),
 .ev (some 110) (some (108, true)) (.w (.bin .eql (.t 109) (.k (.c (.i (.ofNat 3)))))),
 .ev (some 111) none (.w (.pick (.t 108) (.t 110) (.k (.c (.b false))))),
 .ev (some 112) none (.w (.mv (.t 111))),
 .ev (some 113) (some (112, true)) (.r (.ld (some 5) (.t 1))),
 .ev (some 114) (some (112, true)) (.m (.call 174 [.t 113, .k (.c (.i (.ofNat 0)))])),
 .ev (some 115) none (.w (.pick (.t 112) (.t 114) (.k (.c (.b false))))),
 .ev (some 2) none (.w (.mv (.t 115)))])
 .ret) (.seq (.reg [.ev (some 117) none (.w (.bin .eql (.t 26) (.k (.c (.i (.ofNat 15)))))),
 .ev (some 116) none (.w (.mv (.t 117)))])
 (.cond (.t 116) (.seq (.reg [.ev (some 118) none (.w (.fad 2 (.t 1))),
 .ev (some 119) none (.r (.ld none (.t 118))),
 .ev (some 120) none (.m (.call 107 [.t 119])),
 .ev (some 121) none (.w (.mv (.t 120))),
 .ev (some 122) (some (121, true)) (.r (.ld (some 5) (.t 1))),
 .ev (some 123) (some (121, true)) (.m (.call 174 [.t 122, .k (.c (.i (.ofNat 0)))])),
 .ev (some 124) none (.w (.pick (.t 121) (.t 123) (.k (.c (.b false))))),
 .ev (some 2) none (.w (.mv (.t 124)))])
 .ret) (.seq (.reg [.ev (some 126) none (.w (.bin .eql (.t 26) (.k (.c (.i (.ofNat 16)))))),
 .ev (some 125) none (.w (.mv (.t 126)))])
 (.cond (.t 125) (.seq (.reg [.ev (some 127) none (.w (.fad 2 (.t 1))),
 .ev (some 128) none (.r (.ld none (.t 127))),
 .ev (some 129) none (.w (.bin .eql (.t 128) (.k (.c (.s []))))),
 .ev (some 130) none (.w (.mv (.t 129))),
 .ev (some 131) (some (130, true)) (.w (.mv (.t 3))),
 .ev (some 132) (some (130, true)) (.w (.bin .eql (.t 131) (.k (.c (.i (.ofNat 1)))))),
 .ev (some 133) none (.w (.pick (.t 130) (.t 132) (.k (.c (.b false))))),
 .ev (some 134) none (.w (.mv (.t 133))),
 .ev (some 135) (some (134, true)) (.r (.ld (some 5) (.t 1))),
 .ev (some 136) (some (134, true)) (.m (.call 174 [.t 135, .k (.c (.i (.ofNat 0)))])),
 .ev (some 137) none (.w (.pick (.t 134) (.t 136) (.k (.c (.b false))))),
 .ev (some 2) none (.w (.mv (.t 137)))])
 .ret) .skip))))))))))))))))))))
 (.seq (.reg [.ev (some 138) none (.w (.fad 0 (.t 1))),
 .ev (some 139) none (.r (.ld none (.t 138))),
 .ev (some 140) none (.w (.bin .eql (.t 139) (.k (.c (.i (.ofNat 4)))))),
 .ev (some 141) none (.w (.mv (.t 140))),
 .ev (some 142) (some (141, false)) (.w (.fad 0 (.t 1))),
 .ev (some 143) (some (141, false)) (.r (.ld none (.t 142))),
 .ev (some 144) (some (141, false)) (.m (.call 108 [.t 143, .k (.c (.i (.ofNat 10))), .k (.c (.i (.ofNat 14)))])),
 .ev (some 145) none (.w (.pick (.t 141) (.k (.c (.b true))) (.t 144))),
 .ev (some 146) none (.w (.mv (.t 145))),
 .ev (some 147) (some (146, true)) (.w (.fad 2 (.t 1))),
 .ev (some 148) (some (146, true)) (.r (.ld none (.t 147))),
 .ev (some 149) (some (146, true)) (.w (.bin .eql (.t 148) (.k (.c (.s []))))),
 .ev (some 150) none (.w (.pick (.t 146) (.t 149) (.k (.c (.b false))))),
 .ev (some 151) none (.w (.mv (.t 150))),
 .ev (some 152) (some (151, true)) (.w (.mv (.t 3))),
 .ev (some 153) (some (151, true)) (.w (.bin .eql (.t 152) (.k (.c (.i (.ofNat 2)))))),
 .ev (some 154) none (.w (.pick (.t 151) (.t 153) (.k (.c (.b false))))),
 .ev (some 155) none (.w (.mv (.t 154))),
 .ev (some 156) (some (155, true)) (.r (.ld (some 5) (.t 1))),
 .ev (some 157) (some (155, true)) (.m (.call 174 [.t 156, .k (.c (.i (.ofNat 0)))])),
 .ev (some 158) none (.w (.pick (.t 155) (.t 157) (.k (.c (.b false))))),
 .ev (some 2) none (.w (.mv (.t 158)))])
 .ret))))), [.t 2]⟩
theorem c112 : cFn ty ibs (cDraw ty ibs) [] f112 = some q112 := by decide +kernel
noncomputable def q113 : MFn := ⟨(.seq (.reg [.ev (some 4) none (.w (.mv (.k (.c (.i (.ofNat 0))))))])
 (.seq (.seq (.reg [.ev (some 5) none (.w (.mv (.k (.c (.i (.ofNat 0))))))])
 (.blk 0 (.loop (.seq (.seq (.reg [.ev (some 6) none (.w (.mv (.t 5))),
 .ev (some 7) none (.w (.mv (.t 0))),
 .ev (some 8) none (.w (.lnl (.t 7))),
 .ev (some 9) none (.w (.bin .lss (.t 6) (.t 8)))])
 (.cond (.t 9) .skip (.exit 0)))
 (.seq (.blk 1 (.seq (.reg [.ev (some 12) none (.w (.mv (.t 0))),
 .ev (some 13) none (.w (.mv (.t 5))),
 .ev (some 14) none (.w (.iad 3 (.t 12) (.t 13))),
 .ev (some 15) none (.w (.fad 0 (.t 14))),
 .ev (some 16) none (.r (.ld none (.t 15))),
 .ev (some 17) none (.w (.mv (.t 1))),
 .ev (some 18) none (.w (.bin .eql (.t 16) (.t 17)))])
 (.cond (.t 18) (.seq (.reg [.ev (some 19) none (.w (.mv (.t 5))),
 .ev (some 4) none (.w (.mv (.t 19)))])
 .ret) .skip)))
 (.reg [.ev (some 10) none (.w (.mv (.t 5))),
 .ev (some 11) none (.w (.bin .add (.t 10) (.k (.c (.i (.ofNat 1)))))),
 .ev (some 5) none (.w (.mv (.t 11)))]))))))
 (.seq (.reg [.ev (some 4) none (.w (.mv (.k (.c (.i (.negSucc 0))))))])
 .ret))), [.t 4]⟩
theorem c113 : cFn ty ibs (cDraw ty ibs) [] f113 = some q113 := by decide +kernel
noncomputable def q114 : MFn := ⟨(.seq (.reg [.ev (some 4) none (.w (.mv (.k (.c (.i (.ofNat 0)))))),
 .ev (some 5) none (.w (.mv (.k (.c (.i (.ofNat 0))))))])
 (.seq (.seq (.reg [.ev (some 6) none (.w (.mv (.k (.c (.i (.ofNat 0))))))])
 (.blk 0 (.loop (.seq (.seq (.reg [.ev (some 8) none (.w (.mv (.t 6))),
 .ev (some 9) none (.w (.mv (.t 0))),
 .ev (some 10) none (.w (.lnl (.t 9))),
 .ev (some 11) none (.w (.bin .lss (.t 8) (.t 10)))])
 (.cond (.t 11) .skip (.exit 0)))
 (.seq (.blk 1 (.seq (.reg [.ev (some 7) none (.w (.mv (.k (.c (.i (.ofNat 0))))))])
 (.blk 2 (.loop (.seq (.seq (.reg [.ev (some 14) none (.w (.mv (.t 7))),
 .ev (some 15) none (.w (.mv (.t 0))),
 .ev (some 16) none (.w (.mv (.t 6))),
 .ev (some 17) none (.w (.iad 3 (.t 15) (.t 16))),
 .ev (some 18) none (.w (.fad 2 (.t 17))),
 .ev (some 19) none (.r (.ld none (.t 18))),
 .ev (some 20) none (.w (.lnl (.t 19))),
 .ev (some 21) none (.w (.bin .lss (.t 14) (.t 20)))])
 (.cond (.t 21) .skip (.exit 2)))
 (.seq (.blk 3 (.seq (.reg [.ev (some 24) none (.w (.mv (.t 0))),
 .ev (some 25) none (.w (.mv (.t 6))),
 .ev (some 26) none (.w (.iad 3 (.t 24) (.t 25))),
 .ev (some 27) none (.w (.fad 2 (.t 26))),
 .ev (some 28) none (.r (.ld none (.t 27))),
 .ev (some 29) none (.w (.mv (.t 7))),
 .ev (some 30) none (.w (.iad 2 (.t 28) (.t 29))),
 .ev (some 31) none (.w (.fad 0 (.t 30))),
 .ev (some 32) none (.r (.ld none (.t 31))),
 .ev (some 33) none (.w (.mv (.t 1))),
 .ev (some 34) none (.w (.bin .eql (.t 32) (.t 33)))])
 (.cond (.t 34) (.seq (.reg [.ev (some 35) none (.w (.mv (.t 6))),
 .ev (some 36) none (.w (.mv (.t 7))),
 .ev (some 4) none (.w (.mv (.t 35))),
 .ev (some 5) none (.w (.mv (.t 36)))])
 .ret) .skip)))
 (.reg [.ev (some 22) none (.w (.mv (.t 7))),
 .ev (some 23) none (.w (.bin .add (.t 22) (.k (.c (.i (.ofNat 1)))))),
 .ev (some 7) none (.w (.mv (.t 23)))])))))))
 (.reg [.ev (some 12) none (.w (.mv (.t 6))),
 .ev (some 13) none (.w (.bin .add (.t 12) (.k (.c (.i (.ofNat 1)))))),
 .ev (some 6) none (.w (.mv (.t 13)))]))))))
 (.seq (.reg [.ev (some 4) none (.w (.mv (.k (.c (.i (.negSucc 0)))))),
 .ev (some 5) none (.w (.mv (.k (.c (.i (.negSucc 0))))))])
 .ret))), [.t 4, .t 5]⟩
theorem c114 : cFn ty ibs (cDraw ty ibs) [] f114 = some q114 := by decide +kernel
noncomputable def q115 : MFn := ⟨(.seq (.reg [.ev (some 4) none (.w (.mv (.k (.c (.b false)))))])
 (.seq (.seq (.reg [.ev (some 5) none (.w (.mv (.k (.c (.i (.ofNat 0))))))])
 (.blk 0 (.loop (.seq (.seq (.reg [.ev (some 8) none (.w (.mv (.t 5))),
 .ev (some 9) none (.w (.mv (.t 0))),
 .ev (some 10) none (.w (.lnl (.t 9))),
 .ev (some 11) none (.w (.bin .lss (.t 8) (.t 10)))])
 (.cond (.t 11) .skip (.exit 0)))
 (.seq (.blk 1 (.seq (.reg [.ev (some 6) none (.w (.mv (.k (.c (.i (.ofNat 0))))))])
 (.blk 2 (.loop (.seq (.seq (.reg [.ev (some 14) none (.w (.mv (.t 6))),
 .ev (some 15) none (.w (.mv (.t 0))),
 .ev (some 16) none (.w (.mv (.t 5))),
 .ev (some 17) none (.w (.iad 3 (.t 15) (.t 16))),
 .ev (some 18) none (.w (.fad 2 (.t 17))),
 .ev (some 19) none (.r (.ld none (.t 18))),
 .ev (some 20) none (.w (.lnl (.t 19))),
 .ev (some 21) none (.w (.bin .lss (.t 14) (.t 20)))])
 (.cond (.t 21) .skip (.exit 2)))
 (.seq (.blk 3 (.seq (.reg [.ev (some 7) none (.w (.mv (.k (.c (.i (.ofNat 0))))))])
 (.blk 4 (.loop (.seq (.seq (.reg [.ev (some 24) none (.w (.mv (.t 7))),
 .ev (some 25) none (.w (.mv (.t 0))),
 .ev (some 26) none (.w (.mv (.t 5))),
 .ev (some 27) none (.w (.iad 3 (.t 25) (.t 26))),
 .ev (some 28) none (.w (.fad 2 (.t 27))),
 .ev (some 29) none (.r (.ld none (.t 28))),
 .ev (some 30) none (.w (.mv (.t 6))),
 .ev (some 31) none (.w (.iad 2 (.t 29) (.t 30))),
 .ev (some 32) none (.w (.fad 1 (.t 31))),
 .ev (some 33) none (.r (.ld none (.t 32))),
 .ev (some 34) none (.w (.lnl (.t 33))),
 .ev (some 35) none (.w (.bin .lss (.t 24) (.t 34)))])
 (.cond (.t 35) .skip (.exit 4)))
 (.seq (.blk 5 (.seq (.reg [.ev (some 38) none (.w (.mv (.t 0))),
 .ev (some 39) none (.w (.mv (.t 0))),
 .ev (some 40) none (.w (.mv (.t 5))),
 .ev (some 41) none (.w (.iad 3 (.t 39) (.t 40))),
 .ev (some 42) none (.w (.fad 2 (.t 41))),
 .ev (some 43) none (.r (.ld none (.t 42))),
 .ev (some 44) none (.w (.mv (.t 6))),
 .ev (some 45) none (.w (.iad 2 (.t 43) (.t 44))),
 .ev (some 46) none (.w (.fad 1 (.t 45))),
 .ev (some 47) none (.r (.ld none (.t 46))),
 .ev (some 48) none (.w (.mv (.t 7))),
 .ev (some 49) none (.w (.iad 4 (.t 47) (.t 48))),
 .ev (some 50) none (.r (.ld (some 4) (.t 49))),
 .ev (some 51) none (.w (.mv (.t 1))),
 .ev (some 52) none (.m (.call 176 [.t 38, .t 50, .t 51])),
 .ev (some 53) none (.w (.un .not (.t 52)))])
 (.cond (.t 53) (.seq (.reg [.ev (some 4) none (.w (.mv (.k (.c (.b false)))))])
 .ret) .skip)))
 (.reg [.ev (some 36) none (.w (.mv (.t 7))),
 .ev (some 37) none (.w (.bin .add (.t 36) (.k (.c (.i (.ofNat 1)))))),
 .ev (some 7) none (.w (.mv (.t 37)))])))))))
 (.reg [.ev (some 22) none (.w (.mv (.t 6))),
 .ev (some 23) none (.w (.bin .add (.t 22) (.k (.c (.i (.ofNat 1)))))),
 .ev (some 6) none (.w (.mv (.t 23)))])))))))
 (.reg [.ev (some 12) none (.w (.mv (.t 5))),
 .ev (some 13) none (.w (.bin .add (.t 12) (.k (.c (.i (.ofNat 1)))))),
 .ev (some 5) none (.w (.mv (.t 13)))]))))))
 (.seq (.reg [.ev (some 4) none (.w (.mv (.k (.c (.b true)))))])
 .ret))), [.t 4]⟩
theorem c115 : cFn ty ibs (cDraw ty ibs) [] f115 = some q115 := by decide +kernel
noncomputable def q116 : MFn := ⟨(.seq (.reg [.ev (some 4) none (.a (.box (.t 1))),
 .ev (some 6) none (.a (.al [.i (.ofNat 0), .i (.ofNat 0), .s [], .s [], .i (.ofNat 0), .i (.ofNat 0), .s [], .l0, .l0, .l0, .l0]))])
 (.seq (.reg [.ev (some 18) none (.w (.fad 0 (.t 4))),
 .ev (some 19) none (.r (.ld none (.t 18))),
 .ev (some 20) none (.w (.fad 1 (.t 4))),
 .ev (some 21) none (.r (.ld none (.t 20))),
 .ev (some 22) none (.w (.fad 2 (.t 4))),
 .ev (some 23) none (.r (.ld none (.t 22))),
 .ev (some 24) none (.w (.build [.i (.ofNat 0), .i (.ofNat 0), .s [], .s [], .i (.ofNat 0), .i (.ofNat 0), .s [], .l0, .l0, .l0, .l0] [(0, 1, .t 19), (1, 1, .t 21), (2, 1, .t 23)])),
 .ev (some 7) none (.a (.al [.i (.ofNat 0), .i (.ofNat 0), .s [], .s [], .i (.ofNat 0), .i (.ofNat 0), .s [], .l0, .l0, .l0, .l0])),
 .ev none none (.m (.st 11 (.t 7) (.t 24)))])
 (.seq (.seq (.reg [.ev (some 25) none (.w (.mv (.t 0))),
 .ev (some 26) none (.w (.nilc (.t 25))),
 .ev (some 27) none (.w (.fad 3 (.t 26))),
 .ev (some 28) none (.r (.ld none (.t 27))),
 .ev (some 29) none (.w (.bin .neq (.t 28) (.k (.c (.i (.ofNat 0))))))])
 (.cond (.t 29) (.seq (.reg [.ev (some 30) none (.r (.ld (some 11) (.t 7))),
 .ev none none (.m (.st 11 (.t 6) (.t 30)))])
 .ret) .skip))
 (.seq (.seq (.reg [.ev (some 31) none (.w (.fad 0 (.t 4))),
 .ev (some 32) none (.r (.ld none (.t 31)))])
 (.blk 0 (.seq (.reg [.ev (some 38) none (.w (.bin .eql (.t 32) (.k (.c (.i (.ofNat 1)))))),
 .ev (some 37) none (.w (.mv (.t 38)))])
 (.cond (.t 37) (.reg [.ev (some 39) none (.m (.call 177 [])),
 .ev (some 40) none (.w (.fad 4 (.t 7))),
 .ev none none (.m (.st 4 (.t 40) (.t 39)))]) (.seq (.reg [.ev (some 42) none (.w (.bin .eql (.t 32) (.k (.c (.i (.ofNat 2)))))),
 .ev (some 41) none (.w (.mv (.t 42)))])
 (.cond (.t 41) (.seq (.reg [.ev (some 43) none (.w (.mv (.t 2))),
 .ev (some 44) none (.w (.fad 2 (.t 4))),
 .ev (some 45) none (.r (.ld none (.t 44))),
 .ev (some 46) none (.m (.call 178 [.t 43, .t 45])),
 .ev (some 8) none (.w (.mv (.t 46)))])
 (.seq (.seq (.reg [.ev (some 47) none (.w (.mv (.t 8))),
 .ev (some 48) none (.w (.bin .lss (.t 47) (.k (.c (.i (.ofNat 0))))))])
 (.cond (.t 48) (.seq (.reg [.ev (some 49) none (.w (.mv (.t 0))),
 .ev (some 50) none (.m (.call 118 [.t 49, .k (.c (.i (.ofNat 3)))]))])
 (.seq (.reg [.ev (some 51) none (.r (.ld (some 11) (.t 7))),
 .ev none none (.m (.st 11 (.t 6) (.t 51)))])
 .ret)) .skip))
 (.seq (.reg [.ev (some 52) none (.w (.mv (.t 2))),
 .ev (some 53) none (.w (.mv (.t 8))),
 .ev (some 54) none (.w (.iad 6 (.t 52) (.t 53))),
 .ev (some 55) none (.w (.fad 1 (.t 54))),
 .ev (some 56) none (.r (.ld (some 5) (.t 55))),
 .ev (some 9) none (.a (.al [.l0, .i (.ofNat 0), .i (.ofNat 0), .s [], .l0])),
 .ev none none (.m (.st 5 (.t 9) (.t 56)))])
 (.seq (.reg [.ev (some 57) none (.w (.mv (.t 0))),
 .ev (some 58) none (.w (.fad 0 (.t 9))),
 .ev (some 59) none (.r (.ld none (.t 58))),
 .ev (some 60) none (.w (.lnl (.t 59))),
 .ev (some 61) none (.m (.call 179 [.t 57, .t 60])),
 .ev (some 62) none (.w (.fad 8 (.t 7))),
 .ev none none (.m (.st 1 (.t 62) (.t 61)))])
 (.reg [.ev (some 63) none (.w (.fad 1 (.t 9))),
 .ev (some 64) none (.r (.ld (some 4) (.t 63))),
 .ev (some 65) none (.w (.fad 0 (.t 9))),
 .ev (some 66) none (.r (.ld none (.t 65))),
 .ev (some 67) none (.w (.fad 8 (.t 7))),
 .ev (some 68) none (.r (.ld none (.t 67))),
 .ev (some 69) none (.m (.call 180 [.t 64, .t 66, .t 68])),
 .ev (some 70) none (.w (.fad 4 (.t 7))),
 .ev none none (.m (.st 4 (.t 70) (.t 69)))]))))) (.seq (.reg [.ev (some 72) none (.w (.bin .eql (.t 32) (.k (.c (.i (.ofNat 3)))))),
 .ev (some 71) none (.w (.mv (.t 72)))])
 (.cond (.t 71) (.seq (.reg [.ev (some 73) none (.w (.mv (.t 0))),
 .ev (some 74) none (.m (.call 181 [.t 73])),
 .ev (some 10) none (.a (.al [.i (.ofNat 0), .i (.ofNat 0), .s [], .l0])),
 .ev none none (.m (.st 4 (.t 10) (.t 74)))])
 (.seq (.reg [.ev (some 75) none (.w (.mv (.t 0))),
 .ev (some 76) none (.w (.fad 4 (.t 4))),
 .ev (some 77) none (.r (.ld none (.t 76))),
 .ev (some 78) none (.w (.iad 5 (.t 77) (.k (.c (.i (.ofNat 0)))))),
 .ev (some 79) none (.r (.ld (some 5) (.t 78))),
 .ev (some 80) none (.w (.mv (.t 2))),
 .ev (some 81) none (.w (.fad 2 (.t 4))),
 .ev (some 82) none (.r (.ld none (.t 81))),
 .ev (some 83) none (.r (.ld (some 4) (.t 10))),
 .ev (some 84) none (.w (.build [.l0, .i (.ofNat 0), .i (.ofNat 0), .s [], .l0] [(1, 4, .t 83)])),
 .ev (some 11) none (.a (.al [.i (.ofNat 0), .i (.ofNat 0), .s [], .s [], .i (.ofNat 0), .i (.ofNat 0), .s [], .l0, .l0, .l0, .l0])),
 .mk (some 85) none (.call 182 [.t 80, .t 82, .t 84]) [(77, .ld none (.t 76)), (79, .ld (some 5) (.t 78))] [(11, .al [.i (.ofNat 0), .i (.ofNat 0), .s [], .s [], .i (.ofNat 0), .i (.ofNat 0), .s [], .l0, .l0, .l0, .l0])],
 .mk (some 86) none (.call 39 [.t 75, .t 79, .t 85]) [] [(11, .al [.i (.ofNat 0), .i (.ofNat 0), .s [], .s [], .i (.ofNat 0), .i (.ofNat 0), .s [], .l0, .l0, .l0, .l0])],
 .mk none none (.st 11 (.t 11) (.t 86)) [] []])
 (.seq (.reg [.ev (some 87) none (.r (.ld (some 11) (.t 11))),
 .ev (some 88) none (.a (.bsl 11 1 [.i (.ofNat 0), .i (.ofNat 0), .s [], .s [], .i (.ofNat 0), .i (.ofNat 0), .s [], .l0, .l0, .l0, .l0] [(0, 11, .t 87)])),
 .ev (some 89) none (.w (.fad 10 (.t 7))),
 .ev none none (.m (.st 1 (.t 89) (.t 88)))])
 (.reg [.ev (some 90) none (.r (.ld (some 4) (.t 10))),
 .ev (some 91) none (.w (.fad 4 (.t 11))),
 .ev (some 92) none (.r (.ld (some 4) (.t 91))),
 .ev (some 93) none (.m (.call 183 [.t 90, .t 92])),
 .ev (some 94) none (.w (.fad 4 (.t 7))),
 .ev none none (.m (.st 4 (.t 94) (.t 93)))])))) (.seq (.reg [.ev (some 96) none (.w (.bin .eql (.t 32) (.k (.c (.i (.ofNat 4)))))),
 .ev (some 95) none (.w (.mv (.t 96)))])
 (.cond (.t 95) (.seq (.reg [.ev (some 97) none (.w (.mv (.t 0))),
 .ev (some 98) none (.w (.fad 4 (.t 4))),
 .ev (some 99) none (.r (.ld none (.t 98))),
 .ev (some 100) none (.w (.iad 5 (.t 99) (.k (.c (.i (.ofNat 0)))))),
 .ev (some 101) none (.r (.ld (some 5) (.t 100))),
 .ev (some 102) none (.w (.mv (.t 2))),
 .ev (some 103) none (.m (.call 39 [.t 97, .t 101, .t 102])),
 .ev (some 12) none (.a (.al [.i (.ofNat 0), .i (.ofNat 0), .s [], .s [], .i (.ofNat 0), .i (.ofNat 0), .s [], .l0, .l0, .l0, .l0])),
 .ev none none (.m (.st 11 (.t 12) (.t 103)))])
 (.seq (.reg [.ev (some 104) none (.w (.mv (.t 0))),
 .ev (some 105) none (.w (.fad 4 (.t 4))),
 .ev (some 106) none (.r (.ld none (.t 105))),
 .ev (some 107) none (.w (.iad 5 (.t 106) (.k (.c (.i (.ofNat 1)))))),
 .ev (some 108) none (.r (.ld (some 5) (.t 107))),
 .ev (some 109) none (.w (.mv (.t 2))),
 .ev (some 110) none (.m (.call 39 [.t 104, .t 108, .t 109])),
 .ev (some 13) none (.a (.al [.i (.ofNat 0), .i (.ofNat 0), .s [], .s [], .i (.ofNat 0), .i (.ofNat 0), .s [], .l0, .l0, .l0, .l0])),
 .ev none none (.m (.st 11 (.t 13) (.t 110)))])
 (.seq (.reg [.ev (some 111) none (.w (.mv (.t 0))),
 .ev (some 112) none (.m (.call 181 [.t 111])),
 .ev (some 14) none (.a (.al [.i (.ofNat 0), .i (.ofNat 0), .s [], .l0])),
 .ev none none (.m (.st 4 (.t 14) (.t 112)))])
 (.seq (.reg [.ev (some 113) none (.w (.mv (.t 0))),
 .ev (some 114) none (.w (.fad 4 (.t 12))),
 .ev (some 115) none (.r (.ld (some 4) (.t 114))),
 .ev (some 116) none (.w (.fad 4 (.t 13))),
 .ev (some 117) none (.r (.ld (some 4) (.t 116))),
 .ev (some 118) none (.r (.ld (some 4) (.t 14))),
 .mk (some 119) none (.call 183 [.t 117, .t 118]) [(115, .ld (some 4) (.t 114))] [],
 .mk (some 120) none (.call 184 [.t 113, .t 115, .t 119]) [] []])
 (.seq (.reg [.ev (some 121) none (.r (.ld (some 11) (.t 12))),
 .ev (some 122) none (.r (.ld (some 11) (.t 13))),
 .ev (some 123) none (.a (.bsl 11 2 [.i (.ofNat 0), .i (.ofNat 0), .s [], .s [], .i (.ofNat 0), .i (.ofNat 0), .s [], .l0, .l0, .l0, .l0, .i (.ofNat 0), .i (.ofNat 0), .s [], .s [], .i (.ofNat 0), .i (.ofNat 0), .s [], .l0, .l0, .l0, .l0] [(0, 11, .t 121), (11, 11, .t 122)])),
 .ev (some 124) none (.w (.fad 10 (.t 7))),
 .ev none none (.m (.st 1 (.t 124) (.t 123)))])
 (.reg [.ev (some 125) none (.r (.ld (some 4) (.t 14))),
 .ev (some 126) none (.w (.fad 4 (.t 7))),
 .ev none none (.m (.st 4 (.t 126) (.t 125)))])))))) (.seq (.seq (.reg [.ev (some 128) none (.w (.bin .eql (.t 32) (.k (.c (.i (.ofNat 5)))))),
 .ev (some 127) none (.w (.mv (.t 128)))])
 (.cond (.t 127) .skip (.reg [.ev (some 129) none (.w (.bin .eql (.t 32) (.k (.c (.i (.ofNat 6)))))),
 .ev (some 127) none (.w (.mv (.t 129)))])))
 (.cond (.t 127) (.seq (.reg [.ev (some 130) none (.w (.mv (.t 0))),
 .ev (some 131) none (.r (.ld (some 5) (.t 4))),
 .ev (some 132) none (.w (.mv (.t 2))),
 .ev (some 133) none (.m (.call 185 [.t 130, .t 131, .t 132])),
 .ev none none (.m (.st 11 (.t 6) (.t 133)))])
 .ret) (.seq (.reg [.ev (some 135) none (.w (.bin .eql (.t 32) (.k (.c (.i (.ofNat 7)))))),
 .ev (some 134) none (.w (.mv (.t 135)))])
 (.cond (.t 134) (.seq (.reg [.ev (some 136) none (.w (.mv (.t 0))),
 .ev (some 137) none (.r (.ld (some 5) (.t 4))),
 .ev (some 138) none (.w (.mv (.t 2))),
 .ev (some 139) none (.m (.call 186 [.t 136, .t 137, .t 138])),
 .ev none none (.m (.st 11 (.t 6) (.t 139)))])
 .ret) (.seq (.reg [.ev (some 141) none (.w (.bin .eql (.t 32) (.k (.c (.i (.ofNat 9)))))),
 .ev (some 140) none (.w (.mv (.t 141)))])
 (.cond (.t 140) (.seq (.reg [.ev (some 142) none (.w (.mv (.t 0))),
 .ev (some 143) none (.r (.ld (some 5) (.t 4))),
 .ev (some 144) none (.w (.mv (.t 2))),
 .ev (some 145) none (.m (.call 187 [.t 142, .t 143, .t 144])),
 .ev none none (.m (.st 11 (.t 6) (.t 145)))])
 .ret) (.seq (.reg [.ev (some 147) none (.w (.bin .eql (.t 32) (.k (.c (.i (.ofNat 15)))))),
 .ev (some 146) none (.w (.mv (.t 147)))])
 (.cond (.t 146) (.seq (.reg [.ev (some 148) none (.w (.mv (.t 0))),
 .ev (some 149) none (.r (.ld (some 5) (.t 4))),
 .ev (some 150) none (.m (.call 188 [.t 148, .t 149, .t 7])),
 .ev (some 15) none (.w (.mv (.t 150)))])
 (.seq (.reg [.ev (some 16) none (.w (.mv (.k (.c (.i (.ofNat 0))))))])
 (.blk 1 (.loop (.seq (.seq (.reg [.ev (some 151) none (.w (.mv (.t 16))),
 .ev (some 152) none (.w (.mv (.t 15))),
 .ev (some 153) none (.w (.lnl (.t 152))),
 .ev (some 154) none (.w (.bin .lss (.t 151) (.t 153)))])
 (.cond (.t 154) .skip (.exit 1)))
 (.seq (.blk 2 (.seq (.reg [.ev (some 157) none (.w (.mv (.t 0))),
 .ev (some 158) none (.w (.fad 4 (.t 4))),
 .ev (some 159) none (.r (.ld none (.t 158))),
 .ev (some 160) none (.w (.mv (.t 16))),
 .ev (some 161) none (.w (.iad 5 (.t 159) (.t 160))),
 .ev (some 162) none (.r (.ld (some 5) (.t 161))),
 .ev (some 163) none (.w (.mv (.t 2))),
 .ev (some 164) none (.m (.call 39 [.t 157, .t 162, .t 163])),
 .ev (some 17) none (.a (.al [.i (.ofNat 0), .i (.ofNat 0), .s [], .s [], .i (.ofNat 0), .i (.ofNat 0), .s [], .l0, .l0, .l0, .l0])),
 .ev none none (.m (.st 11 (.t 17) (.t 164)))])
 (.seq (.reg [.ev (some 165) none (.w (.mv (.t 0))),
 .ev (some 166) none (.w (.fad 4 (.t 17))),
 .ev (some 167) none (.r (.ld (some 4) (.t 166))),
 .ev (some 168) none (.w (.mv (.t 15))),
 .ev (some 169) none (.w (.mv (.t 16))),
 .ev (some 170) none (.w (.iad 4 (.t 168) (.t 169))),
 .ev (some 171) none (.r (.ld (some 4) (.t 170))),
 .mk (some 172) none (.call 184 [.t 165, .t 167, .t 171]) [] []])
 (.reg [.ev (some 173) none (.w (.fad 10 (.t 7))),
 .ev (some 174) none (.r (.ld none (.t 173))),
 .ev (some 175) none (.r (.ld (some 11) (.t 17))),
 .ev (some 176) none (.w (.lnl (.t 174))),
 .ev (some 177) none (.a (.bsl 11 1 [.i (.ofNat 0), .i (.ofNat 0), .s [], .s [], .i (.ofNat 0), .i (.ofNat 0), .s [], .l0, .l0, .l0, .l0] [(0, 11, .k (.a [.i (.ofNat 0), .i (.ofNat 0), .s [], .s [], .i (.ofNat 0), .i (.ofNat 0), .s [], .l0, .l0, .l0, .l0]))])),
 .mk (some 178) none (.app 11 176 (.t 174) (.t 177)) [] [],
 .ev (some 179) none (.w (.iad 11 (.t 178) (.t 176))),
 .ev (some 180) none (.w (.fad 10 (.t 7))),
 .e2  11 (.t 179) (.t 175)  1 (.t 180) (.t 178)]))))
 (.reg [.ev (some 155) none (.w (.mv (.t 16))),
 .ev (some 156) none (.w (.bin .add (.t 155) (.k (.c (.i (.ofNat 1)))))),
 .ev (some 16) none (.w (.mv (.t 156)))]))))))) (.seq (.reg [.ev (some 33) none (.w (.mv (.t 0))),
 .ev (some 34) none (.r (.ld (some 5) (.t 4))),
 .ev (some 35) none (.w (.mv (.t 2))),
 .ev (some 36) none (.m (.call 189 [.t 33, .t 34, .t 35])),
 .ev none none (.m (.st 11 (.t 6) (.t 36)))])
 .ret)))))))))))))))))))
 (.seq (.reg [.ev (some 181) none (.r (.ld (some 11) (.t 7))),
 .ev none none (.m (.st 11 (.t 6) (.t 181)))])
 .ret))))), [.c (some 11) 6]⟩
theorem c116 : cFn ty ibs (cDraw ty ibs) [[.ev 0, .ev 1, .ev 2, .ev 3, .ev 4, .ev 5, .ev 6, .ev 7, .ev 8, .ev 9, .ev 12, .ev 10, .ev 11, .ev 13], [.ev 0, .ev 1, .ev 2, .ev 3, .ev 4, .ev 5, .ev 6, .ev 7], [.ev 0, .ev 1, .ev 2, .ev 3, .ev 4, .ev 5, .ev 6, .ev 7], [.ev 0, .ev 1, .ev 2, .ev 3, .ev 4, .ev 5, .ev 6, .ev 8, .e2 7 9]] f116 = some q116 := by decide +kernel
noncomputable def q117 : MFn := ⟨(.seq (.reg [.ev (some 3) none (.a (.box (.t 1))),
 .ev (some 4) none (.w (.mv (.k (.c (.b false)))))])
 (.seq (.seq (.reg [.ev (some 5) none (.w (.mv (.k (.c (.i (.ofNat 0))))))])
 (.blk 0 (.loop (.seq (.seq (.reg [.ev (some 6) none (.w (.mv (.t 5))),
 .ev (some 7) none (.w (.fad 8 (.t 3))),
 .ev (some 8) none (.r (.ld none (.t 7))),
 .ev (some 9) none (.w (.lnl (.t 8))),
 .ev (some 10) none (.w (.bin .lss (.t 6) (.t 9)))])
 (.cond (.t 10) .skip (.exit 0)))
 (.seq (.blk 1 (.seq (.reg [.ev (some 13) none (.w (.mv (.t 0))),
 .ev (some 14) none (.w (.fad 8 (.t 3))),
 .ev (some 15) none (.r (.ld none (.t 14))),
 .ev (some 16) none (.w (.mv (.t 5))),
 .ev (some 17) none (.w (.iad 4 (.t 15) (.t 16))),
 .ev (some 18) none (.r (.ld (some 4) (.t 17))),
 .ev (some 19) none (.m (.call 44 [.t 13, .t 18])),
 .ev (some 20) none (.m (.call 190 [.t 19])),
 .ev (some 21) none (.w (.un .not (.t 20)))])
 (.cond (.t 21) (.seq (.reg [.ev (some 4) none (.w (.mv (.k (.c (.b false)))))])
 .ret) .skip)))
 (.reg [.ev (some 11) none (.w (.mv (.t 5))),
 .ev (some 12) none (.w (.bin .add (.t 11) (.k (.c (.i (.ofNat 1)))))),
 .ev (some 5) none (.w (.mv (.t 12)))]))))))
 (.seq (.reg [.ev (some 22) none (.w (.mv (.t 0))),
 .ev (some 23) none (.w (.fad 4 (.t 3))),
 .ev (some 24) none (.r (.ld (some 4) (.t 23))),
 .ev (some 25) none (.m (.call 44 [.t 22, .t 24])),
 .ev (some 26) none (.m (.call 190 [.t 25])),
 .ev (some 4) none (.w (.mv (.t 26)))])
 .ret))), [.t 4]⟩
theorem c117 : cFn ty ibs (cDraw ty ibs) [] f117 = some q117 := by decide +kernel
noncomputable def q118 : MFn := ⟨(.seq (.reg [.ev (some 4) none (.w (.mv (.t 0))),
 .ev (some 5) none (.w (.nilc (.t 4))),
 .ev (some 6) none (.w (.fad 3 (.t 5))),
 .ev (some 7) none (.r (.ld none (.t 6))),
 .ev (some 8) none (.w (.bin .eql (.t 7) (.k (.c (.i (.ofNat 0))))))])
 (.cond (.t 8) (.reg [.ev (some 9) none (.w (.mv (.t 0))),
 .ev (some 10) none (.w (.mv (.t 1))),
 .ev (some 11) none (.w (.nilc (.t 9))),
 .ev (some 12) none (.w (.fad 3 (.t 11))),
 .ev none none (.m (.st 1 (.t 12) (.t 10)))]) .skip)), []⟩
theorem c118 : cFn ty ibs (cDraw ty ibs) [] f118 = some q118 := by decide +kernel
noncomputable def q119 : MFn := ⟨(.seq (.reg [.ev (some 4) none (.w (.mv (.k (.c (.b false)))))])
 (.seq (.seq (.reg [.ev (some 5) none (.w (.mv (.k (.c (.i (.ofNat 0))))))])
 (.blk 0 (.loop (.seq (.seq (.reg [.ev (some 6) none (.w (.mv (.t 5))),
 .ev (some 7) none (.w (.mv (.t 0))),
 .ev (some 8) none (.w (.lnl (.t 7))),
 .ev (some 9) none (.w (.bin .lss (.t 6) (.t 8)))])
 (.cond (.t 9) .skip (.exit 0)))
 (.seq (.blk 1 (.seq (.reg [.ev (some 12) none (.w (.mv (.t 0))),
 .ev (some 13) none (.w (.mv (.t 5))),
 .ev (some 14) none (.w (.iad 1 (.t 12) (.t 13))),
 .ev (some 15) none (.r (.ld none (.t 14))),
 .ev (some 16) none (.w (.mv (.t 1))),
 .ev (some 17) none (.w (.bin .eql (.t 15) (.t 16)))])
 (.cond (.t 17) (.seq (.reg [.ev (some 4) none (.w (.mv (.k (.c (.b true)))))])
 .ret) .skip)))
 (.reg [.ev (some 10) none (.w (.mv (.t 5))),
 .ev (some 11) none (.w (.bin .add (.t 10) (.k (.c (.i (.ofNat 1)))))),
 .ev (some 5) none (.w (.mv (.t 11)))]))))))
 (.seq (.reg [.ev (some 4) none (.w (.mv (.k (.c (.b false)))))])
 .ret))), [.t 4]⟩
theorem c119 : cFn ty ibs (cDraw ty ibs) [] f119 = some q119 := by decide +kernel
noncomputable def q120 : MFn := ⟨(.seq (.reg [.ev (some 4) none (.w (.mv (.k (.c (.i (.ofNat 0))))))])
 (.seq (.seq (.reg [.ev (some 5) none (.w (.mv (.k (.c (.i (.ofNat 0))))))])
 (.blk 0 (.loop (.seq (.seq (.reg [.ev (some 6) none (.w (.mv (.t 5))),
 .ev (some 7) none (.w (.mv (.t 0))),
 .ev (some 8) none (.w (.lnl (.t 7))),
 .ev (some 9) none (.w (.bin .lss (.t 6) (.t 8)))])
 (.cond (.t 9) .skip (.exit 0)))
 (.seq (.blk 1 (.seq (.reg [.ev (some 12) none (.w (.mv (.t 0))),
 .ev (some 13) none (.w (.mv (.t 5))),
 .ev (some 14) none (.w (.iad 5 (.t 12) (.t 13))),
 .ev (some 15) none (.w (.fad 0 (.t 14))),
 .ev (some 16) none (.r (.ld none (.t 15))),
 .ev (some 17) none (.w (.mv (.t 1))),
 .ev (some 18) none (.w (.bin .eql (.t 16) (.t 17)))])
 (.cond (.t 18) (.seq (.reg [.ev (some 19) none (.w (.mv (.t 5))),
 .ev (some 4) none (.w (.mv (.t 19)))])
 .ret) .skip)))
 (.reg [.ev (some 10) none (.w (.mv (.t 5))),
 .ev (some 11) none (.w (.bin .add (.t 10) (.k (.c (.i (.ofNat 1)))))),
 .ev (some 5) none (.w (.mv (.t 11)))]))))))
 (.seq (.reg [.ev (some 4) none (.w (.mv (.k (.c (.i (.negSucc 0))))))])
 .ret))), [.t 4]⟩
theorem c120 : cFn ty ibs (cDraw ty ibs) [] f120 = some q120 := by decide +kernel
noncomputable def q121 : MFn := ⟨(.seq (.reg [.ev (some 1) none (.a (.box (.t 0))),
 .ev (some 2) none (.a (.al [.i (.ofNat 0), .i (.ofNat 0), .s [], .l0]))])
 (.seq (.reg [.ev (some 5) none (.w (.fad 0 (.t 1))),
 .ev (some 6) none (.r (.ld none (.t 5))),
 .ev (some 7) none (.w (.fad 1 (.t 1))),
 .ev (some 8) none (.r (.ld none (.t 7))),
 .ev (some 9) none (.w (.fad 2 (.t 1))),
 .ev (some 10) none (.r (.ld none (.t 9))),
 .ev (some 11) none (.w (.build [.i (.ofNat 0), .i (.ofNat 0), .s [], .l0] [(0, 1, .t 6), (1, 1, .t 8), (2, 1, .t 10)])),
 .ev (some 3) none (.a (.al [.i (.ofNat 0), .i (.ofNat 0), .s [], .l0])),
 .ev none none (.m (.st 4 (.t 3) (.t 11)))])
 (.seq (.seq (.reg [.ev (some 4) none (.w (.mv (.k (.c (.i (.ofNat 0))))))])
 (.blk 0 (.loop (.seq (.seq (.reg [.ev (some 12) none (.w (.mv (.t 4))),
 .ev (some 13) none (.w (.fad 3 (.t 1))),
 .ev (some 14) none (.r (.ld none (.t 13))),
 .ev (some 15) none (.w (.lnl (.t 14))),
 .ev (some 16) none (.w (.bin .lss (.t 12) (.t 15)))])
 (.cond (.t 16) .skip (.exit 0)))
 (.seq (.blk 1 (.reg [.ev (some 19) none (.w (.fad 3 (.t 3))),
 .ev (some 20) none (.r (.ld none (.t 19))),
 .ev (some 21) none (.w (.fad 3 (.t 1))),
 .ev (some 22) none (.r (.ld none (.t 21))),
 .ev (some 23) none (.w (.mv (.t 4))),
 .ev (some 24) none (.w (.iad 4 (.t 22) (.t 23))),
 .ev (some 25) none (.r (.ld (some 4) (.t 24))),
 .mk (some 26) none (.call 121 [.t 25]) [(20, .ld none (.t 19))] [],
 .ev (some 27) none (.a (.bsl 4 1 [.i (.ofNat 0), .i (.ofNat 0), .s [], .l0] [(0, 4, .t 26)])),
 .mk (some 28) none (.app 4 56 (.t 20) (.t 27)) [] [],
 .ev (some 29) none (.w (.fad 3 (.t 3))),
 .mk none none (.st 1 (.t 29) (.t 28)) [] []]))
 (.reg [.ev (some 17) none (.w (.mv (.t 4))),
 .ev (some 18) none (.w (.bin .add (.t 17) (.k (.c (.i (.ofNat 1)))))),
 .ev (some 4) none (.w (.mv (.t 18)))]))))))
 (.seq (.reg [.ev (some 30) none (.r (.ld (some 4) (.t 3))),
 .ev none none (.m (.st 4 (.t 2) (.t 30)))])
 .ret)))), [.c (some 4) 2]⟩
theorem c121 : cFn ty ibs (cDraw ty ibs) [[.ev 0, .ev 1, .ev 2, .ev 3, .ev 4, .ev 5, .ev 6, .ev 7, .ev 8, .ev 9, .ev 10, .ev 11]] f121 = some q121 := by decide +kernel
noncomputable def q122 : MFn := ⟨(.seq (.reg [.ev (some 2) none (.w (.mv (.k (.c (.b false)))))])
 (.seq (.reg [.ev (some 3) none (.w (.mv (.t 0))),
 .ev (some 4) none (.m (.call 124 [.t 3])),
 .ev (some 5) none (.w (.mv (.t 4))),
 .ev (some 6) (some (5, false)) (.w (.mv (.t 0))),
 .ev (some 7) (some (5, false)) (.m (.call 191 [.t 6])),
 .ev (some 8) none (.w (.pick (.t 5) (.k (.c (.b true))) (.t 7))),
 .ev (some 2) none (.w (.mv (.t 8)))])
 .ret)), [.t 2]⟩
theorem c122 : cFn ty ibs (cDraw ty ibs) [] f122 = some q122 := by decide +kernel
noncomputable def q123 : MFn := ⟨(.seq (.reg [.ev (some 6) none (.w (.mv (.k (.c (.i (.ofNat 0))))))])
 (.seq (.reg [.ev (some 7) none (.w (.mv (.k (.c (.i (.ofNat 0))))))])
 (.seq (.blk 0 (.loop (.seq (.seq (.reg [.ev (some 8) none (.w (.mv (.t 1))),
 .ev (some 9) none (.w (.mv (.t 7))),
 .ev (some 10) none (.w (.bin .add (.t 8) (.t 9))),
 .ev (some 11) none (.w (.mv (.t 0))),
 .ev (some 12) none (.w (.lns (.t 11))),
 .ev (some 13) none (.w (.bin .lss (.t 10) (.t 12))),
 .ev (some 14) none (.w (.mv (.t 13))),
 .ev (some 15) (some (14, true)) (.w (.mv (.t 2))),
 .ev (some 16) (some (14, true)) (.w (.mv (.t 0))),
 .ev (some 17) (some (14, true)) (.w (.mv (.t 1))),
 .ev (some 18) (some (14, true)) (.w (.mv (.t 7))),
 .ev (some 19) (some (14, true)) (.w (.bin .add (.t 17) (.t 18))),
 .ev (some 20) (some (14, true)) (.w (.ixs (.t 16) (.t 19))),
 .ev (some 21) (some (14, true)) (.m (.cal (.t 15) [.t 20])),
 .ev (some 22) none (.w (.pick (.t 14) (.t 21) (.k (.c (.b false)))))])
 (.cond (.t 22) .skip (.exit 0)))
 (.blk 1 (.reg [.ev (some 23) none (.w (.mv (.t 7))),
 .ev (some 24) none (.w (.bin .add (.t 23) (.k (.c (.i (.ofNat 1)))))),
 .ev (some 7) none (.w (.mv (.t 24)))])))))
 (.seq (.reg [.ev (some 25) none (.w (.mv (.t 7))),
 .ev (some 6) none (.w (.mv (.t 25)))])
 .ret)))), [.t 6]⟩
theorem c123 : cFn ty ibs (cDraw ty ibs) [] f123 = some q123 := by decide +kernel
noncomputable def q124 : MFn := ⟨(.seq (.reg [.ev (some 2) none (.w (.mv (.k (.c (.b false)))))])
 (.seq (.reg [.ev (some 3) none (.w (.mv (.t 0))),
 .ev (some 4) none (.w (.bin .geq (.t 3) (.k (.c (.j .u8 (.ofNat 97)))))),
 .ev (some 5) none (.w (.mv (.t 4))),
 .ev (some 6) (some (5, true)) (.w (.mv (.t 0))),
 .ev (some 7) (some (5, true)) (.w (.bin .leq (.t 6) (.k (.c (.j .u8 (.ofNat 122)))))),
 .ev (some 8) none (.w (.pick (.t 5) (.t 7) (.k (.c (.b false))))),
 .ev (some 2) none (.w (.mv (.t 8)))])
 .ret)), [.t 2]⟩
theorem c124 : cFn ty ibs (cDraw ty ibs) [] f124 = some q124 := by decide +kernel
noncomputable def q125 : MFn := ⟨(.seq (.reg [.ev (some 2) none (.w (.mv (.k (.c (.b false)))))])
 (.seq (.reg [.ev (some 3) none (.w (.mv (.t 0))),
 .ev (some 4) none (.w (.bin .geq (.t 3) (.k (.c (.j .u8 (.ofNat 48)))))),
 .ev (some 5) none (.w (.mv (.t 4))),
 .ev (some 6) (some (5, true)) (.w (.mv (.t 0))),
 .ev (some 7) (some (5, true)) (.w (.bin .leq (.t 6) (.k (.c (.j .u8 (.ofNat 57)))))),
 .ev (some 8) none (.w (.pick (.t 5) (.t 7) (.k (.c (.b false))))),
 .ev (some 2) none (.w (.mv (.t 8)))])
 .ret)), [.t 2]⟩
theorem c125 : cFn ty ibs (cDraw ty ibs) [] f125 = some q125 := by decide +kernel
noncomputable def q126 : MFn := ⟨(.seq (.reg [.ev (some 2) none (.w (.mv (.k (.c (.i (.ofNat 0)))))),
 .ev (some 3) none (.w (.mv (.k (.c (.b false)))))])
 (.seq (.seq (.reg [.ev (some 6) none (.w (.mv (.t 0))),
 .ev (some 7) none (.w (.bin .eql (.t 6) (.k (.c (.s []))))),
 .ev (some 8) none (.w (.mv (.t 7))),
 .ev (some 9) (some (8, false)) (.w (.mv (.t 0))),
 .ev (some 10) (some (8, false)) (.w (.lns (.t 9))),
 .ev (some 11) (some (8, false)) (.w (.bin .gtr (.t 10) (.k (.c (.i (.ofNat 10)))))),
 .ev (some 12) none (.w (.pick (.t 8) (.k (.c (.b true))) (.t 11))),
 .ev (some 13) none (.w (.mv (.t 12))),
 .ev (some 14) (some (13, false)) (.w (.mv (.t 0))),
 .ev (some 15) (some (13, false)) (.w (.ixs (.t 14) (.k (.c (.i (.ofNat 0)))))),
 .ev (some 16) (some (13, false)) (.w (.bin .eql (.t 15) (.k (.c (.j .u8 (.ofNat 48)))))),
 .ev (some 17) (some (13, false)) (.w (.mv (.t 16))),
 .ev (some 18) (some (17, true)) (.w (.mv (.t 0))),
 .ev (some 19) (some (17, true)) (.w (.lns (.t 18))),
 .ev (some 20) (some (17, true)) (.w (.bin .gtr (.t 19) (.k (.c (.i (.ofNat 1)))))),
 .ev (some 21) (some (13, false)) (.w (.pick (.t 17) (.t 20) (.k (.c (.b false))))),
 .ev (some 22) none (.w (.pick (.t 13) (.k (.c (.b true))) (.t 21)))])
 (.cond (.t 22) (.seq (.reg [.ev (some 2) none (.w (.mv (.k (.c (.i (.ofNat 0)))))),
 .ev (some 3) none (.w (.mv (.k (.c (.b false)))))])
 .ret) .skip))
 (.seq (.reg [.ev (some 4) none (.w (.mv (.k (.c (.i (.ofNat 0))))))])
 (.seq (.seq (.reg [.ev (some 23) none (.w (.mv (.t 0))),
 .ev (some 24) none (.w (.lns (.t 23))),
 .ev (some 25) none (.w (.mv (.k (.c (.i (.ofNat 0))))))])
 (.blk 0 (.loop (.seq (.reg [.ev (some 26) none (.w (.bin .lss (.t 25) (.t 24)))])
 (.seq (.cond (.t 26) .skip (.exit 0))
 (.seq (.blk 1 (.seq (.reg [.ev (some 27) none (.w (.mv (.t 25))),
 .ev (some 5) none (.w (.mv (.t 27)))])
 (.seq (.seq (.reg [.ev (some 28) none (.w (.mv (.t 0))),
 .ev (some 29) none (.w (.mv (.t 5))),
 .ev (some 30) none (.w (.ixs (.t 28) (.t 29))),
 .ev (some 31) none (.m (.call 125 [.t 30])),
 .ev (some 32) none (.w (.un .not (.t 31)))])
 (.cond (.t 32) (.seq (.reg [.ev (some 2) none (.w (.mv (.k (.c (.i (.ofNat 0)))))),
 .ev (some 3) none (.w (.mv (.k (.c (.b false)))))])
 .ret) .skip))
 (.reg [.ev (some 33) none (.w (.mv (.t 4))),
 .ev (some 34) none (.w (.bin .mul (.k (.c (.i (.ofNat 10)))) (.t 33))),
 .ev (some 35) none (.w (.mv (.t 0))),
 .ev (some 36) none (.w (.mv (.t 5))),
 .ev (some 37) none (.w (.ixs (.t 35) (.t 36))),
 .ev (some 38) none (.w (.bin .sub (.t 37) (.k (.c (.j .u8 (.ofNat 48)))))),
 .ev (some 39) none (.w (.cv .i64 (.t 38))),
 .ev (some 40) none (.w (.bin .add (.t 34) (.t 39))),
 .ev (some 4) none (.w (.mv (.t 40)))]))))
 (.reg [.ev (some 41) none (.w (.bin .add (.t 25) (.k (.c (.i (.ofNat 1)))))),
 .ev (some 25) none (.w (.mv (.t 41)))])))))))
 (.seq (.seq (.reg [.ev (some 42) none (.w (.mv (.t 4))),
 .ev (some 43) none (.w (.bin .gtr (.t 42) (.k (.c (.i (.ofNat 1073741823))))))])
 (.cond (.t 43) (.seq (.reg [.ev (some 2) none (.w (.mv (.k (.c (.i (.ofNat 0)))))),
 .ev (some 3) none (.w (.mv (.k (.c (.b false)))))])
 .ret) .skip))
 (.seq (.reg [.ev (some 44) none (.w (.mv (.t 4))),
 .ev (some 2) none (.w (.mv (.t 44))),
 .ev (some 3) none (.w (.mv (.k (.c (.b true)))))])
 .ret)))))), [.t 2, .t 3]⟩
theorem c126 : cFn ty ibs (cDraw ty ibs) [] f126 = some q126 := by decide +kernel
noncomputable def q127 : MFn := ⟨(.seq (.reg [.ev (some 4) none (.w (.mv (.k (.c (.b false)))))])
 (.seq (.reg [.ev (some 5) none (.w (.mv (.t 0))),
 .ev (some 6) none (.w (.mv (.t 1))),
 .ev (some 7) none (.m (.call 192 [.t 5, .t 6])),
 .ev (some 4) none (.w (.mv (.t 7)))])
 .ret)), [.t 4]⟩
theorem c127 : cFn ty ibs (cDraw ty ibs) [] f127 = some q127 := by decide +kernel
noncomputable def q128 : MFn := ⟨(.seq (.reg [.ev (some 4) none (.w (.mv (.k (.c (.i (.ofNat 0))))))])
 (.seq (.reg [.ev (some 5) none (.w (.mv (.t 0))),
 .ev (some 6) none (.w (.mv (.t 1))),
 .ev (some 7) none (.m (.call 193 [.t 5, .t 6])),
 .ev (some 4) none (.w (.mv (.t 7)))])
 .ret)), [.t 4]⟩
theorem c128 : cFn ty ibs (cDraw ty ibs) [] f128 = some q128 := by decide +kernel
noncomputable def q129 : MFn := ⟨(.seq (.reg [.ev (some 4) none (.w (.mv (.k (.c (.s [])))))])
 (.seq (.seq (.reg [.ev (some 6) none (.w (.mv (.t 1))),
 .ev (some 7) none (.w (.un .not (.t 6)))])
 (.cond (.t 7) (.seq (.reg [.ev (some 8) none (.w (.mv (.t 0))),
 .ev (some 9) none (.m (.call 19 [.t 8]))])
 (.seq (.reg [.ev (some 4) none (.w (.mv (.k (.c (.s [])))))])
 .ret)) .skip))
 (.seq (.reg [.ev (some 10) none (.w (.mv (.t 0))),
 .ev (some 11) none (.m (.call 18 [.t 10])),
 .ev (some 12) none (.w (.fld 1 none (.t 11))),
 .ev (some 5) none (.w (.mv (.t 12)))])
 (.seq (.reg [.ev (some 13) none (.w (.mv (.t 0))),
 .ev (some 14) none (.m (.call 47 [.t 13]))])
 (.seq (.reg [.ev (some 15) none (.w (.mv (.t 5))),
 .ev (some 4) none (.w (.mv (.t 15)))])
 .ret))))), [.t 4]⟩
theorem c129 : cFn ty ibs (cDraw ty ibs) [] f129 = some q129 := by decide +kernel
noncomputable def q130 : MFn := ⟨(.seq (.reg [.ev (some 2) none (.w (.mv (.k (.c (.b false)))))])
 (.seq (.reg [.ev (some 3) none (.w (.mv (.t 0))),
 .ev (some 4) none (.m (.call 18 [.t 3])),
 .ev (some 5) none (.w (.fld 0 none (.t 4))),
 .ev (some 6) none (.w (.bin .eql (.t 5) (.k (.c (.i (.ofNat 2)))))),
 .ev (some 7) none (.w (.mv (.t 6))),
 .ev (some 8) (some (7, true)) (.w (.mv (.t 0))),
 .ev (some 9) (some (7, true)) (.m (.call 18 [.t 8])),
 .ev (some 10) (some (7, true)) (.w (.fld 1 none (.t 9))),
 .ev (some 11) (some (7, true)) (.w (.bin .neq (.t 10) (.k (.c (.s [73, 110, 116]))))),
 .ev (some 12) none (.w (.pick (.t 7) (.t 11) (.k (.c (.b false))))),
 .ev (some 2) none (.w (.mv (.t 12)))])
 .ret)), [.t 2]⟩
theorem c130 : cFn ty ibs (cDraw ty ibs) [] f130 = some q130 := by decide +kernel
noncomputable def q131 : MFn := ⟨(.seq (.reg [.ev (some 2) none (.w (.mv (.k (.c (.b false)))))])
 (.seq (.reg [.ev (some 3) none (.a (.bsl 1 11 [.s [], .s [], .s [], .s [], .s [], .s [], .s [], .s [], .s [], .s [], .s []] [(0, 1, .k (.c (.s [100, 97, 116, 97]))), (1, 1, .k (.c (.s [108, 101, 116]))), (2, 1, .k (.c (.s [114, 101, 99]))), (3, 1, .k (.c (.s [105, 110]))), (4, 1, .k (.c (.s [102, 117, 110]))), (5, 1, .k (.c (.s [99, 97, 115, 101]))), (6, 1, .k (.c (.s [111, 102]))), (7, 1, .k (.c (.s [105, 102]))), (8, 1, .k (.c (.s [116, 104, 101, 110]))), (9, 1, .k (.c (.s [101, 108, 115, 101]))), (10, 1, .k (.c (.s [112, 117, 116])))])),
 .ev (some 4) none (.w (.mv (.t 0))),
 .ev (some 5) none (.m (.call 144 [.t 3, .t 4])),
 .ev (some 2) none (.w (.mv (.t 5)))])
 .ret)), [.t 2]⟩
theorem c131 : cFn ty ibs (cDraw ty ibs) [] f131 = some q131 := by decide +kernel
noncomputable def q132 : MFn := ⟨(.seq (.reg [.ev (some 4) none (.w (.mv (.k (.c (.i (.ofNat 0))))))])
 (.seq (.seq (.reg [.ev (some 6) none (.w (.mv (.t 0))),
 .ev (some 7) none (.w (.lnl (.t 6))),
 .ev (some 8) none (.w (.mv (.k (.c (.i (.ofNat 0))))))])
 (.blk 0 (.loop (.seq (.reg [.ev (some 9) none (.w (.bin .lss (.t 8) (.t 7)))])
 (.seq (.cond (.t 9) .skip (.exit 0))
 (.seq (.blk 1 (.seq (.reg [.ev (some 10) none (.w (.mv (.t 8))),
 .ev (some 5) none (.w (.mv (.t 10)))])
 (.seq (.reg [.ev (some 11) none (.w (.mv (.t 1))),
 .ev (some 12) none (.w (.mv (.t 0))),
 .ev (some 13) none (.w (.mv (.t 5))),
 .ev (some 14) none (.w (.iad 1 (.t 12) (.t 13))),
 .ev (some 15) none (.r (.ld none (.t 14))),
 .ev (some 16) none (.w (.bin .eql (.t 11) (.t 15)))])
 (.cond (.t 16) (.seq (.reg [.ev (some 17) none (.w (.mv (.t 5))),
 .ev (some 4) none (.w (.mv (.t 17)))])
 .ret) .skip))))
 (.reg [.ev (some 18) none (.w (.bin .add (.t 8) (.k (.c (.i (.ofNat 1)))))),
 .ev (some 8) none (.w (.mv (.t 18)))])))))))
 (.seq (.reg [.ev (some 4) none (.w (.mv (.k (.c (.i (.negSucc 0))))))])
 .ret))), [.t 4]⟩
theorem c132 : cFn ty ibs (cDraw ty ibs) [] f132 = some q132 := by decide +kernel
end Go.Ev
