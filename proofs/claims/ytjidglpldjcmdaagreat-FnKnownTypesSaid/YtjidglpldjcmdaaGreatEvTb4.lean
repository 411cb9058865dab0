/-
The table: functions in the evaluator's form, each checked against the program.
-/
import Derived.Test.YtjidglpldjcmdaaGreatEvTb0
set_option linter.unusedVariables false
set_option maxRecDepth 1000000
namespace Go.Ev
open Go Go.Proofs.Tryz

noncomputable def q79 : MFn := ⟨(.seq (.reg [.ev (some 5) none (.a (.box (.t 1)))])
 (.seq (.reg [.ev (some 14) none (.w (.mv (.t 2))),
 .ev (some 15) none (.w (.mv (.t 0))),
 .ev (some 16) none (.m (.call 74 [.t 15])),
 .ev (some 17) none (.w (.nilc (.t 14))),
 .ev (some 18) none (.w (.fad 4 (.t 17))),
 .ev none none (.m (.st 4 (.t 18) (.t 16)))])
 (.seq (.reg [.ev (some 19) none (.w (.fad 4 (.t 5))),
 .ev (some 20) none (.r (.ld none (.t 19))),
 .ev (some 21) none (.w (.sll 5 (.t 20) (some (.k (.c (.i (.ofNat 1))))) none none)),
 .ev (some 22) none (.w (.lnl (.t 21))),
 .ev (some 23) none (.w (.mv (.k (.c (.i (.ofNat 0))))))])
 (.blk 0 (.loop (.seq (.reg [.ev (some 24) none (.w (.bin .lss (.t 23) (.t 22)))])
 (.seq (.cond (.t 24) .skip (.exit 0))
 (.seq (.blk 1 (.seq (.reg [.ev (some 25) none (.w (.iad 5 (.t 21) (.t 23))),
 .ev (some 26) none (.r (.ld (some 5) (.t 25))),
 .ev (some 9) none (.a (.al [.i (.ofNat 0), .i (.ofNat 0), .s [], .s [], .l0])),
 .ev none none (.m (.st 5 (.t 9) (.t 26)))])
 (.seq (.seq (.reg [.ev (some 27) none (.w (.mv (.t 0))),
 .ev (some 28) none (.w (.nilc (.t 27))),
 .ev (some 29) none (.w (.fad 3 (.t 28))),
 .ev (some 30) none (.r (.ld none (.t 29))),
 .ev (some 31) none (.w (.bin .neq (.t 30) (.k (.c (.i (.ofNat 0))))))])
 (.cond (.t 31) .ret .skip))
 (.seq (.seq (.reg [.ev (some 32) none (.w (.fad 4 (.t 9))),
 .ev (some 33) none (.r (.ld none (.t 32))),
 .ev (some 34) none (.w (.iad 5 (.t 33) (.k (.c (.i (.ofNat 0)))))),
 .ev (some 35) none (.r (.ld (some 5) (.t 34))),
 .ev (some 36) none (.m (.call 151 [.t 35]))])
 (.cond (.t 36) (.seq (.reg [.ev (some 37) none (.w (.mv (.t 0))),
 .ev (some 38) none (.m (.call 71 [.t 37, .k (.c (.i (.ofNat 3)))]))])
 .ret) .skip))
 (.seq (.reg [.ev (some 39) none (.w (.mv (.t 3))),
 .ev (some 40) none (.m (.call 148 [.t 39])),
 .ev (some 10) none (.a (.al [.l0])),
 .ev none none (.m (.st 1 (.t 10) (.t 40)))])
 (.seq (.reg [.ev (some 41) none (.w (.mv (.t 0))),
 .ev (some 42) none (.w (.fad 4 (.t 9))),
 .ev (some 43) none (.r (.ld none (.t 42))),
 .ev (some 44) none (.w (.iad 5 (.t 43) (.k (.c (.i (.ofNat 0)))))),
 .ev (some 45) none (.r (.ld (some 5) (.t 44))),
 .ev (some 46) none (.m (.call 152 [.t 41, .t 45, .t 10])),
 .ev (some 11) none (.a (.al [.i (.ofNat 0), .i (.ofNat 0), .s [], .s [], .i (.ofNat 0), .i (.ofNat 0), .s [], .l0, .l0, .l0, .l0])),
 .ev none none (.m (.st 11 (.t 11) (.t 46)))])
 (.seq (.reg [.ev (some 47) none (.w (.mv (.t 0))),
 .ev (some 48) none (.w (.fad 4 (.t 11))),
 .ev (some 49) none (.r (.ld (some 4) (.t 48))),
 .ev (some 50) none (.w (.mv (.t 2))),
 .ev (some 51) none (.w (.nilc (.t 50))),
 .ev (some 52) none (.w (.fad 10 (.t 51))),
 .ev (some 53) none (.r (.ld none (.t 52))),
 .ev (some 54) none (.w (.iad 11 (.t 53) (.k (.c (.i (.ofNat 0)))))),
 .ev (some 55) none (.w (.fad 4 (.t 54))),
 .ev (some 56) none (.r (.ld (some 4) (.t 55))),
 .mk (some 57) none (.call 77 [.t 47, .t 49, .t 56]) [] []])
 (.seq (.reg [.ev (some 58) none (.w (.mv (.t 0))),
 .ev (some 59) none (.w (.fad 4 (.t 9))),
 .ev (some 60) none (.r (.ld none (.t 59))),
 .ev (some 61) none (.w (.iad 5 (.t 60) (.k (.c (.i (.ofNat 1)))))),
 .ev (some 62) none (.r (.ld (some 5) (.t 61))),
 .ev (some 63) none (.r (.ld none (.t 10))),
 .ev (some 12) none (.a (.al [.i (.ofNat 0), .i (.ofNat 0), .s [], .s [], .i (.ofNat 0), .i (.ofNat 0), .s [], .l0, .l0, .l0, .l0])),
 .mk (some 64) none (.call 25 [.t 58, .t 62, .t 63]) [] [(12, .al [.i (.ofNat 0), .i (.ofNat 0), .s [], .s [], .i (.ofNat 0), .i (.ofNat 0), .s [], .l0, .l0, .l0, .l0])],
 .mk none none (.st 11 (.t 12) (.t 64)) [] []])
 (.seq (.reg [.ev (some 65) none (.w (.mv (.t 0))),
 .ev (some 66) none (.w (.fad 4 (.t 12))),
 .ev (some 67) none (.r (.ld (some 4) (.t 66))),
 .ev (some 68) none (.w (.mv (.t 2))),
 .ev (some 69) none (.w (.nilc (.t 68))),
 .ev (some 70) none (.w (.fad 4 (.t 69))),
 .ev (some 71) none (.r (.ld (some 4) (.t 70))),
 .mk (some 72) none (.call 77 [.t 65, .t 67, .t 71]) [] []])
 (.seq (.reg [.ev (some 73) none (.w (.mv (.t 2))),
 .ev (some 74) none (.w (.nilc (.t 73))),
 .ev (some 75) none (.w (.fad 4 (.t 74))),
 .ev (some 76) none (.r (.ld (some 4) (.t 75))),
 .ev (some 77) none (.r (.ld (some 11) (.t 11))),
 .ev (some 78) none (.r (.ld (some 11) (.t 12))),
 .ev (some 79) none (.a (.bsl 11 2 [.i (.ofNat 0), .i (.ofNat 0), .s [], .s [], .i (.ofNat 0), .i (.ofNat 0), .s [], .l0, .l0, .l0, .l0, .i (.ofNat 0), .i (.ofNat 0), .s [], .s [], .i (.ofNat 0), .i (.ofNat 0), .s [], .l0, .l0, .l0, .l0] [(0, 11, .t 77), (11, 11, .t 78)])),
 .ev (some 80) none (.w (.build [.i (.ofNat 0), .i (.ofNat 0), .s [], .s [], .i (.ofNat 0), .i (.ofNat 0), .s [], .l0, .l0, .l0, .l0] [(0, 1, .k (.c (.i (.ofNat 8)))), (4, 4, .t 76), (10, 1, .t 79)])),
 .ev (some 13) none (.a (.al [.i (.ofNat 0), .i (.ofNat 0), .s [], .s [], .i (.ofNat 0), .i (.ofNat 0), .s [], .l0, .l0, .l0, .l0])),
 .mk none none (.st 11 (.t 13) (.t 80)) [] []])
 (.seq (.reg [.ev (some 81) none (.w (.mv (.t 0))),
 .ev (some 82) none (.r (.ld (some 11) (.t 13))),
 .ev (some 83) none (.m (.call 83 [.t 81, .t 82]))])
 (.reg [.ev (some 84) none (.w (.mv (.t 2))),
 .ev (some 85) none (.w (.nilc (.t 84))),
 .ev (some 86) none (.w (.fad 10 (.t 85))),
 .ev (some 87) none (.r (.ld none (.t 86))),
 .ev (some 88) none (.r (.ld (some 11) (.t 13))),
 .ev (some 89) none (.w (.lnl (.t 87))),
 .ev (some 90) none (.a (.bsl 11 1 [.i (.ofNat 0), .i (.ofNat 0), .s [], .s [], .i (.ofNat 0), .i (.ofNat 0), .s [], .l0, .l0, .l0, .l0] [(0, 11, .k (.a [.i (.ofNat 0), .i (.ofNat 0), .s [], .s [], .i (.ofNat 0), .i (.ofNat 0), .s [], .l0, .l0, .l0, .l0]))])),
 .mk (some 91) none (.app 11 176 (.t 87) (.t 90)) [] [],
 .ev (some 92) none (.w (.iad 11 (.t 91) (.t 89))),
 .ev (some 93) none (.w (.nilc (.t 84))),
 .ev (some 94) none (.w (.fad 10 (.t 93))),
 .e2  11 (.t 92) (.t 88)  1 (.t 94) (.t 91)]))))))))))))
 (.reg [.ev (some 95) none (.w (.bin .add (.t 23) (.k (.c (.i (.ofNat 1)))))),
 .ev (some 23) none (.w (.mv (.t 95)))]))))))))), []⟩
theorem c79 : cFn ty ibs (cDraw ty ibs) [[.ev 0, .ev 1, .ev 2, .ev 3, .ev 4, .ev 5, .ev 6, .ev 7, .ev 8, .ev 9, .ev 10], [.ev 0, .ev 1, .ev 2, .ev 3, .ev 4, .ev 5, .ev 7, .ev 6, .ev 8], [.ev 0, .ev 1, .ev 2, .ev 3, .ev 4, .ev 5, .ev 6, .ev 7], [.ev 0, .ev 1, .ev 2, .ev 3, .ev 4, .ev 5, .ev 6, .ev 7, .ev 8, .ev 9], [.ev 0, .ev 1, .ev 2, .ev 3, .ev 4, .ev 5, .ev 6, .ev 7, .ev 8, .ev 10, .ev 11, .e2 9 12]] f79 = some q79 := by decide +kernel
noncomputable def q80 : MFn := ⟨(.seq (.reg [.ev (some 5) none (.a (.box (.t 1)))])
 (.seq (.reg [.ev (some 14) none (.w (.mv (.t 0))),
 .ev (some 15) none (.w (.nilc (.t 14))),
 .ev (some 16) none (.w (.fad 0 (.t 15))),
 .ev (some 17) none (.r (.ld none (.t 16))),
 .ev (some 18) none (.w (.fad 2 (.t 5))),
 .ev (some 19) none (.r (.ld none (.t 18))),
 .mk (some 20) none (.call 153 [.t 17, .t 19]) [] [],
 .ev (some 13) none (.w (.mv (.t 20))),
 .ev (some 21) none (.w (.ext 0 (.t 13))),
 .ev (some 22) none (.w (.ext 1 (.t 13))),
 .ev (some 8) none (.w (.mv (.t 21))),
 .ev (some 9) none (.w (.mv (.t 22)))])
 (.seq (.seq (.reg [.ev (some 23) none (.w (.mv (.t 8))),
 .ev (some 24) none (.w (.bin .lss (.t 23) (.k (.c (.i (.ofNat 0)))))),
 .ev (some 25) none (.w (.mv (.t 24))),
 .ev (some 26) (some (25, false)) (.w (.mv (.t 0))),
 .ev (some 27) (some (25, false)) (.w (.nilc (.t 26))),
 .ev (some 28) (some (25, false)) (.w (.fad 0 (.t 27))),
 .ev (some 29) (some (25, false)) (.r (.ld none (.t 28))),
 .ev (some 30) (some (25, false)) (.w (.mv (.t 8))),
 .ev (some 31) (some (25, false)) (.w (.iad 3 (.t 29) (.t 30))),
 .ev (some 32) (some (25, false)) (.w (.fad 2 (.t 31))),
 .ev (some 33) (some (25, false)) (.r (.ld none (.t 32))),
 .ev (some 34) (some (25, false)) (.w (.mv (.t 9))),
 .ev (some 35) (some (25, false)) (.w (.iad 2 (.t 33) (.t 34))),
 .ev (some 36) (some (25, false)) (.w (.fad 1 (.t 35))),
 .ev (some 37) (some (25, false)) (.r (.ld none (.t 36))),
 .ev (some 38) (some (25, false)) (.w (.lnl (.t 37))),
 .ev (some 39) (some (25, false)) (.w (.fad 4 (.t 5))),
 .ev (some 40) (some (25, false)) (.r (.ld none (.t 39))),
 .ev (some 41) (some (25, false)) (.w (.lnl (.t 40))),
 .ev (some 42) (some (25, false)) (.w (.bin .neq (.t 38) (.t 41))),
 .ev (some 43) none (.w (.pick (.t 25) (.k (.c (.b true))) (.t 42)))])
 (.cond (.t 43) (.seq (.reg [.ev (some 44) none (.w (.mv (.t 0))),
 .ev (some 45) none (.m (.call 71 [.t 44, .k (.c (.i (.ofNat 3)))]))])
 .ret) .skip))
 (.seq (.reg [.ev (some 46) none (.w (.mv (.t 2))),
 .ev (some 47) none (.w (.mv (.t 0))),
 .ev (some 48) none (.w (.mv (.t 0))),
 .ev (some 49) none (.w (.nilc (.t 48))),
 .ev (some 50) none (.w (.fad 0 (.t 49))),
 .ev (some 51) none (.r (.ld none (.t 50))),
 .ev (some 52) none (.w (.mv (.t 8))),
 .ev (some 53) none (.w (.iad 3 (.t 51) (.t 52))),
 .ev (some 54) none (.w (.fad 1 (.t 53))),
 .ev (some 55) none (.r (.ld none (.t 54))),
 .ev (some 56) none (.m (.call 72 [.t 47, .t 55])),
 .ev (some 57) none (.w (.nilc (.t 46))),
 .ev (some 58) none (.w (.fad 8 (.t 57))),
 .ev none none (.m (.st 1 (.t 58) (.t 56)))])
 (.seq (.seq (.reg [.ev (some 59) none (.w (.fad 4 (.t 5))),
 .ev (some 60) none (.r (.ld none (.t 59))),
 .ev (some 61) none (.w (.lnl (.t 60))),
 .ev (some 62) none (.w (.mv (.k (.c (.i (.ofNat 0))))))])
 (.blk 0 (.loop (.seq (.reg [.ev (some 63) none (.w (.bin .lss (.t 62) (.t 61)))])
 (.seq (.cond (.t 63) .skip (.exit 0))
 (.seq (.blk 1 (.seq (.reg [.ev (some 64) none (.w (.mv (.t 62))),
 .ev (some 65) none (.w (.iad 5 (.t 60) (.t 62))),
 .ev (some 66) none (.r (.ld (some 5) (.t 65))),
 .ev (some 11) none (.a (.al [.i (.ofNat 0), .i (.ofNat 0), .s [], .s [], .l0])),
 .ev (some 10) none (.w (.mv (.t 64))),
 .ev none none (.m (.st 5 (.t 11) (.t 66)))])
 (.seq (.reg [.ev (some 67) none (.w (.mv (.t 3))),
 .ev (some 68) none (.r (.ld (some 5) (.t 11))),
 .ev (some 69) none (.m (.cal (.t 67) [.t 68])),
 .ev (some 12) none (.a (.al [.i (.ofNat 0), .i (.ofNat 0), .s [], .s [], .i (.ofNat 0), .i (.ofNat 0), .s [], .l0, .l0, .l0, .l0])),
 .ev none none (.m (.st 11 (.t 12) (.t 69)))])
 (.seq (.reg [.ev (some 70) none (.w (.mv (.t 0))),
 .ev (some 71) none (.w (.fad 4 (.t 12))),
 .ev (some 72) none (.r (.ld (some 4) (.t 71))),
 .ev (some 73) none (.w (.mv (.t 0))),
 .ev (some 74) none (.w (.nilc (.t 73))),
 .ev (some 75) none (.w (.fad 0 (.t 74))),
 .ev (some 76) none (.r (.ld none (.t 75))),
 .ev (some 77) none (.w (.mv (.t 8))),
 .ev (some 78) none (.w (.iad 3 (.t 76) (.t 77))),
 .ev (some 79) none (.w (.fad 2 (.t 78))),
 .ev (some 80) none (.r (.ld none (.t 79))),
 .ev (some 81) none (.w (.mv (.t 9))),
 .ev (some 82) none (.w (.iad 2 (.t 80) (.t 81))),
 .ev (some 83) none (.w (.fad 1 (.t 82))),
 .ev (some 84) none (.r (.ld none (.t 83))),
 .ev (some 85) none (.w (.mv (.t 10))),
 .ev (some 86) none (.w (.iad 4 (.t 84) (.t 85))),
 .ev (some 87) none (.r (.ld (some 4) (.t 86))),
 .ev (some 88) none (.w (.mv (.t 2))),
 .ev (some 89) none (.w (.nilc (.t 88))),
 .ev (some 90) none (.w (.fad 8 (.t 89))),
 .ev (some 91) none (.r (.ld none (.t 90))),
 .mk (some 92) none (.call 154 [.t 87, .t 91]) [(72, .ld (some 4) (.t 71))] [],
 .mk (some 93) none (.call 77 [.t 70, .t 72, .t 92]) [] []])
 (.reg [.ev (some 94) none (.w (.mv (.t 2))),
 .ev (some 95) none (.w (.nilc (.t 94))),
 .ev (some 96) none (.w (.fad 10 (.t 95))),
 .ev (some 97) none (.r (.ld none (.t 96))),
 .ev (some 98) none (.r (.ld (some 11) (.t 12))),
 .ev (some 99) none (.w (.lnl (.t 97))),
 .ev (some 100) none (.a (.bsl 11 1 [.i (.ofNat 0), .i (.ofNat 0), .s [], .s [], .i (.ofNat 0), .i (.ofNat 0), .s [], .l0, .l0, .l0, .l0] [(0, 11, .k (.a [.i (.ofNat 0), .i (.ofNat 0), .s [], .s [], .i (.ofNat 0), .i (.ofNat 0), .s [], .l0, .l0, .l0, .l0]))])),
 .mk (some 101) none (.app 11 176 (.t 97) (.t 100)) [] [],
 .ev (some 102) none (.w (.iad 11 (.t 101) (.t 99))),
 .ev (some 103) none (.w (.nilc (.t 94))),
 .ev (some 104) none (.w (.fad 10 (.t 103))),
 .e2  11 (.t 102) (.t 98)  1 (.t 104) (.t 101)])))))
 (.reg [.ev (some 105) none (.w (.bin .add (.t 62) (.k (.c (.i (.ofNat 1)))))),
 .ev (some 62) none (.w (.mv (.t 105)))])))))))
 (.reg [.ev (some 106) none (.w (.mv (.t 2))),
 .ev (some 107) none (.w (.mv (.t 0))),
 .ev (some 108) none (.w (.nilc (.t 107))),
 .ev (some 109) none (.w (.fad 0 (.t 108))),
 .ev (some 110) none (.r (.ld none (.t 109))),
 .ev (some 111) none (.w (.mv (.t 8))),
 .ev (some 112) none (.w (.iad 3 (.t 110) (.t 111))),
 .ev (some 113) none (.w (.fad 0 (.t 112))),
 .ev (some 114) none (.r (.ld none (.t 113))),
 .ev (some 115) none (.w (.mv (.t 2))),
 .ev (some 116) none (.w (.nilc (.t 115))),
 .ev (some 117) none (.w (.fad 8 (.t 116))),
 .ev (some 118) none (.r (.ld none (.t 117))),
 .mk (some 119) none (.call 155 [.t 118]) [(110, .ld none (.t 109)), (114, .ld none (.t 113))] [],
 .ev (some 120) none (.w (.build [.i (.ofNat 0), .i (.ofNat 0), .s [], .l0] [(0, 1, .k (.c (.i (.ofNat 4)))), (2, 1, .t 114), (3, 1, .t 119)])),
 .ev (some 121) none (.w (.nilc (.t 106))),
 .ev (some 122) none (.w (.fad 4 (.t 121))),
 .mk none none (.st 4 (.t 122) (.t 120)) [] []])))))), []⟩
theorem c80 : cFn ty ibs (cDraw ty ibs) [[.ev 0, .ev 1, .ev 2, .ev 3, .ev 4, .ev 5, .ev 6, .ev 7, .ev 8, .ev 9, .ev 10, .ev 11], [.ev 0, .ev 1, .ev 2, .ev 3, .ev 4, .ev 5, .ev 6, .ev 7, .ev 8, .ev 9, .ev 10, .ev 11, .ev 12, .ev 13, .ev 14, .ev 15, .ev 16, .ev 17, .ev 18, .ev 19, .ev 20], [.ev 0, .ev 1, .ev 2, .ev 3, .ev 4, .ev 5, .ev 6, .ev 7, .ev 8, .ev 9, .ev 10, .ev 11, .ev 12, .ev 13, .ev 14, .ev 15, .ev 16, .ev 17, .ev 18, .ev 19, .ev 20, .ev 21, .ev 22, .ev 23], [.ev 0, .ev 1, .ev 2, .ev 3, .ev 4, .ev 5, .ev 6, .ev 7, .ev 8, .ev 10, .ev 11, .e2 9 12], [.ev 0, .ev 1, .ev 2, .ev 3, .ev 4, .ev 5, .ev 6, .ev 7, .ev 8, .ev 9, .ev 10, .ev 11, .ev 12, .ev 13, .ev 14, .ev 15, .ev 16, .ev 17]] f80 = some q80 := by decide +kernel
noncomputable def q81 : MFn := ⟨(.seq (.reg [.ev (some 3) none (.a (.box (.t 0))),
 .ev (some 4) none (.a (.al [.i (.ofNat 0), .i (.ofNat 0), .s [], .s [], .i (.ofNat 0), .i (.ofNat 0), .s [], .l0, .l0, .l0, .l0]))])
 (.seq (.reg [.ev (some 5) none (.r (.ld none (.t 1))),
 .ev (some 6) none (.r (.ld (some 5) (.t 3))),
 .ev (some 7) none (.r (.ld none (.t 2))),
 .ev (some 8) none (.m (.call 25 [.t 5, .t 6, .t 7])),
 .ev none none (.m (.st 11 (.t 4) (.t 8)))])
 .ret)), [.c (some 11) 4]⟩
theorem c81 : cFn ty ibs (cDraw ty ibs) [] f81 = some q81 := by decide +kernel
noncomputable def q82 : MFn := ⟨(.seq (.reg [.ev (some 5) none (.a (.box (.t 1)))])
 (.seq (.seq (.reg [.ev (some 11) none (.w (.fad 4 (.t 5))),
 .ev (some 12) none (.r (.ld none (.t 11))),
 .ev (some 13) none (.w (.lnl (.t 12))),
 .ev (some 14) none (.w (.mv (.k (.c (.i (.ofNat 0))))))])
 (.blk 0 (.loop (.seq (.reg [.ev (some 15) none (.w (.bin .lss (.t 14) (.t 13)))])
 (.seq (.cond (.t 15) .skip (.exit 0))
 (.seq (.blk 1 (.seq (.reg [.ev (some 16) none (.w (.mv (.t 14))),
 .ev (some 17) none (.w (.iad 5 (.t 12) (.t 14))),
 .ev (some 18) none (.r (.ld (some 5) (.t 17))),
 .ev (some 9) none (.a (.al [.i (.ofNat 0), .i (.ofNat 0), .s [], .s [], .l0])),
 .ev (some 8) none (.w (.mv (.t 16))),
 .ev none none (.m (.st 5 (.t 9) (.t 18)))])
 (.seq (.reg [.ev (some 19) none (.w (.mv (.t 0))),
 .ev (some 20) none (.r (.ld (some 5) (.t 9))),
 .ev (some 21) none (.w (.mv (.t 3))),
 .ev (some 22) none (.m (.call 25 [.t 19, .t 20, .t 21])),
 .ev (some 10) none (.a (.al [.i (.ofNat 0), .i (.ofNat 0), .s [], .s [], .i (.ofNat 0), .i (.ofNat 0), .s [], .l0, .l0, .l0, .l0])),
 .ev none none (.m (.st 11 (.t 10) (.t 22)))])
 (.seq (.reg [.ev (some 23) none (.w (.mv (.t 2))),
 .ev (some 24) none (.w (.nilc (.t 23))),
 .ev (some 25) none (.w (.fad 10 (.t 24))),
 .ev (some 26) none (.r (.ld none (.t 25))),
 .ev (some 27) none (.r (.ld (some 11) (.t 10))),
 .ev (some 28) none (.w (.lnl (.t 26))),
 .ev (some 29) none (.a (.bsl 11 1 [.i (.ofNat 0), .i (.ofNat 0), .s [], .s [], .i (.ofNat 0), .i (.ofNat 0), .s [], .l0, .l0, .l0, .l0] [(0, 11, .k (.a [.i (.ofNat 0), .i (.ofNat 0), .s [], .s [], .i (.ofNat 0), .i (.ofNat 0), .s [], .l0, .l0, .l0, .l0]))])),
 .mk (some 30) none (.app 11 176 (.t 26) (.t 29)) [] [],
 .ev (some 31) none (.w (.iad 11 (.t 30) (.t 28))),
 .ev (some 32) none (.w (.nilc (.t 23))),
 .ev (some 33) none (.w (.fad 10 (.t 32))),
 .e2  11 (.t 31) (.t 27)  1 (.t 33) (.t 30)])
 (.blk 2 (.seq (.reg [.ev (some 35) none (.w (.fad 0 (.t 5))),
 .ev (some 36) none (.r (.ld none (.t 35))),
 .ev (some 37) none (.w (.bin .neq (.t 36) (.k (.c (.i (.ofNat 9)))))),
 .ev (some 38) none (.w (.mv (.t 37))),
 .ev (some 39) (some (38, false)) (.w (.mv (.t 8))),
 .ev (some 40) (some (38, false)) (.w (.bin .eql (.t 39) (.k (.c (.i (.ofNat 0)))))),
 .ev (some 41) none (.w (.pick (.t 38) (.k (.c (.b true))) (.t 40))),
 .ev (some 34) none (.w (.mv (.t 41)))])
 (.cond (.t 34) (.reg [.ev (some 42) none (.w (.mv (.t 0))),
 .ev (some 43) none (.w (.fad 4 (.t 10))),
 .ev (some 44) none (.r (.ld (some 4) (.t 43))),
 .ev (some 45) none (.w (.build [.i (.ofNat 0), .i (.ofNat 0), .s [], .l0] [(0, 1, .k (.c (.i (.ofNat 1))))])),
 .ev (some 46) none (.m (.call 77 [.t 42, .t 44, .t 45]))]) (.seq (.reg [.ev (some 48) none (.w (.mv (.t 8))),
 .ev (some 49) none (.w (.bin .eql (.t 48) (.k (.c (.i (.ofNat 2)))))),
 .ev (some 47) none (.w (.mv (.t 49)))])
 (.cond (.t 47) (.reg [.ev (some 50) none (.w (.mv (.t 0))),
 .ev (some 51) none (.w (.mv (.t 2))),
 .ev (some 52) none (.w (.nilc (.t 51))),
 .ev (some 53) none (.w (.fad 10 (.t 52))),
 .ev (some 54) none (.r (.ld none (.t 53))),
 .ev (some 55) none (.w (.iad 11 (.t 54) (.k (.c (.i (.ofNat 1)))))),
 .ev (some 56) none (.w (.fad 4 (.t 55))),
 .ev (some 57) none (.r (.ld (some 4) (.t 56))),
 .ev (some 58) none (.w (.fad 4 (.t 10))),
 .ev (some 59) none (.r (.ld (some 4) (.t 58))),
 .mk (some 60) none (.call 77 [.t 50, .t 57, .t 59]) [] []]) .skip)))))))))
 (.reg [.ev (some 61) none (.w (.bin .add (.t 14) (.k (.c (.i (.ofNat 1)))))),
 .ev (some 14) none (.w (.mv (.t 61)))])))))))
 (.seq (.reg [.ev (some 62) none (.w (.mv (.t 2))),
 .ev (some 63) none (.w (.build [.i (.ofNat 0), .i (.ofNat 0), .s [], .l0] [(0, 1, .k (.c (.i (.ofNat 1))))])),
 .ev (some 64) none (.w (.nilc (.t 62))),
 .ev (some 65) none (.w (.fad 4 (.t 64))),
 .ev none none (.m (.st 4 (.t 65) (.t 63)))])
 (.seq (.reg [.ev (some 66) none (.w (.fad 0 (.t 5))),
 .ev (some 67) none (.r (.ld none (.t 66))),
 .ev (some 68) none (.w (.bin .eql (.t 67) (.k (.c (.i (.ofNat 9))))))])
 (.cond (.t 68) (.reg [.ev (some 69) none (.w (.mv (.t 2))),
 .ev (some 70) none (.w (.mv (.t 2))),
 .ev (some 71) none (.w (.nilc (.t 70))),
 .ev (some 72) none (.w (.fad 10 (.t 71))),
 .ev (some 73) none (.r (.ld none (.t 72))),
 .ev (some 74) none (.w (.iad 11 (.t 73) (.k (.c (.i (.ofNat 1)))))),
 .ev (some 75) none (.w (.fad 4 (.t 74))),
 .ev (some 76) none (.r (.ld (some 4) (.t 75))),
 .ev (some 77) none (.w (.nilc (.t 69))),
 .ev (some 78) none (.w (.fad 4 (.t 77))),
 .ev none none (.m (.st 4 (.t 78) (.t 76)))]) .skip))))), []⟩
theorem c82 : cFn ty ibs (cDraw ty ibs) [[.ev 0, .ev 1, .ev 2, .ev 3, .ev 4, .ev 5, .ev 6, .ev 7, .ev 8, .ev 10, .ev 11, .e2 9 12], [.ev 0, .ev 1, .ev 2, .ev 3, .ev 4, .ev 5, .ev 6, .ev 7, .ev 8, .ev 9, .ev 10]] f82 = some q82 := by decide +kernel
noncomputable def q83 : MFn := ⟨(.seq (.reg [.ev (some 2) none (.a (.box (.t 0))),
 .ev (some 3) none (.a (.box (.t 1)))])
 (.seq (.reg [.ev (some 4) none (.r (.ld none (.t 2))),
 .ev (some 5) none (.w (.nilc (.t 4))),
 .ev (some 6) none (.w (.fad 3 (.t 5))),
 .ev (some 7) none (.r (.ld none (.t 6))),
 .ev (some 8) none (.w (.bin .eql (.t 7) (.k (.c (.i (.ofNat 0)))))),
 .ev (some 9) none (.w (.mv (.t 8))),
 .ev (some 10) (some (9, true)) (.r (.ld none (.t 2))),
 .ev (some 11) (some (9, true)) (.w (.nilc (.t 10))),
 .ev (some 12) (some (9, true)) (.w (.fad 1 (.t 11))),
 .ev (some 13) (some (9, true)) (.r (.ld none (.t 12))),
 .ev (some 14) (some (9, true)) (.w (.fad 4 (.t 3))),
 .ev (some 15) (some (9, true)) (.r (.ld (some 4) (.t 14))),
 .mk (some 16) (some (9, true)) (.call 84 [.t 13, .t 15]) [] [],
 .mk (some 17) (some (9, true)) (.call 156 [.t 16]) [] [],
 .ev (some 18) (some (9, true)) (.w (.bin .gtr (.t 17) (.k (.c (.i (.ofNat 200)))))),
 .ev (some 19) (some (9, true)) (.w (.mv (.t 18))),
 .ev (some 20) (some (19, false)) (.w (.fad 8 (.t 3))),
 .ev (some 21) (some (19, false)) (.r (.ld none (.t 20))),
 .ev (some 22) (some (19, false)) (.w (.mkf 157 [.t 2])),
 .mk (some 23) (some (19, false)) (.call 57 [.t 21, .t 22]) [] [],
 .ev (some 24) (some (9, true)) (.w (.pick (.t 19) (.k (.c (.b true))) (.t 23))),
 .ev (some 25) none (.w (.pick (.t 9) (.t 24) (.k (.c (.b false)))))])
 (.cond (.t 25) (.reg [.ev (some 26) none (.r (.ld none (.t 2))),
 .ev (some 27) none (.m (.call 71 [.t 26, .k (.c (.i (.ofNat 5)))]))]) .skip))), []⟩
theorem c83 : cFn ty ibs (cDraw ty ibs) [[.ev 0, .ev 1, .ev 2, .ev 3, .ev 4, .ev 5, .ev 6, .ev 7, .ev 8, .ev 9, .ev 10, .ev 11, .ev 12, .ev 13, .ev 14, .ev 15, .ev 16, .ev 17, .ev 18, .ev 19, .ev 20, .ev 21]] f83 = some q83 := by decide +kernel
noncomputable def q84 : MFn := ⟨(.seq (.reg [.ev (some 3) none (.a (.box (.t 1))),
 .ev (some 4) none (.a (.al [.i (.ofNat 0), .i (.ofNat 0), .s [], .l0]))])
 (.seq (.seq (.reg [.ev (some 10) none (.w (.fad 0 (.t 3))),
 .ev (some 11) none (.r (.ld none (.t 10))),
 .ev (some 12) none (.w (.bin .eql (.t 11) (.k (.c (.i (.ofNat 2)))))),
 .ev (some 13) none (.w (.mv (.t 12))),
 .ev (some 14) (some (13, true)) (.w (.fad 3 (.t 3))),
 .ev (some 15) (some (13, true)) (.r (.ld none (.t 14))),
 .ev (some 16) (some (13, true)) (.w (.lnl (.t 15))),
 .ev (some 17) (some (13, true)) (.w (.bin .eql (.t 16) (.k (.c (.i (.ofNat 0)))))),
 .ev (some 18) none (.w (.pick (.t 13) (.t 17) (.k (.c (.b false)))))])
 (.cond (.t 18) (.seq (.reg [.ev (some 19) none (.w (.mv (.t 0))),
 .ev (some 20) none (.w (.fad 1 (.t 3))),
 .ev (some 21) none (.r (.ld none (.t 20))),
 .ev (some 22) none (.m (.call 158 [.t 19, .t 21])),
 .ev (some 5) none (.w (.mv (.t 22)))])
 (.seq (.reg [.ev (some 23) none (.w (.mv (.t 5))),
 .ev (some 24) none (.w (.bin .geq (.t 23) (.k (.c (.i (.ofNat 0))))))])
 (.cond (.t 24) (.seq (.reg [.ev (some 25) none (.w (.mv (.t 0))),
 .ev (some 26) none (.w (.mv (.t 5))),
 .ev (some 27) none (.w (.iad 5 (.t 25) (.t 26))),
 .ev (some 28) none (.w (.fad 1 (.t 27))),
 .ev (some 29) none (.r (.ld (some 4) (.t 28))),
 .ev (some 30) none (.m (.call 93 [.t 29])),
 .ev none none (.m (.st 4 (.t 4) (.t 30)))])
 .ret) .skip))) .skip))
 (.seq (.reg [.ev (some 31) none (.a (.bsl 4 0 [] [])),
 .ev (some 6) none (.w (.mv (.t 31)))])
 (.seq (.seq (.reg [.ev (some 32) none (.w (.fad 3 (.t 3))),
 .ev (some 33) none (.r (.ld none (.t 32))),
 .ev (some 34) none (.w (.lnl (.t 33))),
 .ev (some 35) none (.w (.mv (.k (.c (.i (.ofNat 0))))))])
 (.blk 0 (.loop (.seq (.reg [.ev (some 36) none (.w (.bin .lss (.t 35) (.t 34)))])
 (.seq (.cond (.t 36) .skip (.exit 0))
 (.seq (.blk 1 (.seq (.reg [.ev (some 37) none (.w (.iad 4 (.t 33) (.t 35))),
 .ev (some 38) none (.r (.ld (some 4) (.t 37))),
 .ev (some 8) none (.a (.al [.i (.ofNat 0), .i (.ofNat 0), .s [], .l0])),
 .ev none none (.m (.st 4 (.t 8) (.t 38)))])
 (.seq (.reg [.ev (some 39) none (.w (.mv (.t 0))),
 .ev (some 40) none (.r (.ld (some 4) (.t 8))),
 .ev (some 41) none (.m (.call 84 [.t 39, .t 40])),
 .ev (some 9) none (.a (.al [.i (.ofNat 0), .i (.ofNat 0), .s [], .l0])),
 .ev none none (.m (.st 4 (.t 9) (.t 41)))])
 (.reg [.ev (some 42) none (.w (.mv (.t 6))),
 .ev (some 43) none (.r (.ld (some 4) (.t 9))),
 .ev (some 44) none (.a (.bsl 4 1 [.i (.ofNat 0), .i (.ofNat 0), .s [], .l0] [(0, 4, .t 43)])),
 .ev (some 45) none (.m (.app 4 56 (.t 42) (.t 44))),
 .ev (some 6) none (.w (.mv (.t 45)))]))))
 (.reg [.ev (some 46) none (.w (.bin .add (.t 35) (.k (.c (.i (.ofNat 1)))))),
 .ev (some 35) none (.w (.mv (.t 46)))])))))))
 (.seq (.reg [.ev (some 47) none (.w (.mv (.t 6))),
 .ev (some 48) none (.w (.fad 3 (.t 3))),
 .ev none none (.m (.st 1 (.t 48) (.t 47)))])
 (.seq (.reg [.ev (some 49) none (.r (.ld (some 4) (.t 3))),
 .ev none none (.m (.st 4 (.t 4) (.t 49)))])
 .ret)))))), [.c (some 4) 4]⟩
theorem c84 : cFn ty ibs (cDraw ty ibs) [] f84 = some q84 := by decide +kernel
noncomputable def q85 : MFn := ⟨(.seq (.reg [.ev (some 2) none (.w (.mv (.k (.c .l0))))])
 (.seq (.seq (.reg [.ev (some 3) none (.w (.mv (.t 0))),
 .ev (some 4) none (.w (.eql false (.t 3) (.k (.c .l0))))])
 (.cond (.t 4) (.seq (.reg [.ev (some 2) none (.w (.mv (.k (.c .l0))))])
 .ret) .skip))
 (.seq (.reg [.ev (some 5) none (.a (.bsl 1 0 [] [])),
 .ev (some 6) none (.w (.mv (.t 0))),
 .ev (some 7) none (.m (.app 1 8 (.t 5) (.t 6))),
 .ev (some 2) none (.w (.mv (.t 7)))])
 .ret))), [.t 2]⟩
theorem c85 : cFn ty ibs (cDraw ty ibs) [] f85 = some q85 := by decide +kernel
noncomputable def q86 : MFn := ⟨(.seq (.reg [.ev (some 1) none (.a (.box (.t 0))),
 .ev (some 2) none (.w (.mv (.k (.c (.b false)))))])
 (.seq (.reg [.ev (some 3) none (.r (.ld (some 4) (.t 1))),
 .ev (some 4) none (.m (.call 156 [.t 3])),
 .ev (some 5) none (.w (.bin .leq (.t 4) (.k (.c (.i (.ofNat 200)))))),
 .ev (some 6) none (.w (.mv (.t 5))),
 .ev (some 7) (some (6, true)) (.r (.ld (some 4) (.t 1))),
 .ev (some 8) (some (6, true)) (.m (.call 159 [.t 7])),
 .ev (some 9) none (.w (.pick (.t 6) (.t 8) (.k (.c (.b false))))),
 .ev (some 2) none (.w (.mv (.t 9)))])
 .ret)), [.t 2]⟩
theorem c86 : cFn ty ibs (cDraw ty ibs) [] f86 = some q86 := by decide +kernel
noncomputable def q87 : MFn := ⟨(.seq (.reg [.ev (some 1) none (.a (.box (.t 0))),
 .ev (some 2) none (.w (.mv (.k (.c (.b false)))))])
 (.seq (.reg [.ev (some 3) none (.r (.ld (some 4) (.t 1))),
 .ev (some 4) none (.m (.call 86 [.t 3])),
 .ev (some 5) none (.w (.un .not (.t 4))),
 .ev (some 2) none (.w (.mv (.t 5)))])
 .ret)), [.t 2]⟩
theorem c87 : cFn ty ibs (cDraw ty ibs) [] f87 = some q87 := by decide +kernel
noncomputable def q88 : MFn := ⟨(.seq (.reg [.ev (some 4) none (.w (.mv (.k (.c (.b false)))))])
 (.seq (.reg [.ev (some 5) none (.w (.mv (.t 0))),
 .ev (some 6) none (.w (.mv (.t 1))),
 .ev (some 7) none (.m (.call 160 [.t 5, .t 6])),
 .ev (some 8) none (.w (.bin .geq (.t 7) (.k (.c (.i (.ofNat 0)))))),
 .ev (some 4) none (.w (.mv (.t 8)))])
 .ret)), [.t 4]⟩
theorem c88 : cFn ty ibs (cDraw ty ibs) [] f88 = some q88 := by decide +kernel
noncomputable def q89 : MFn := ⟨(.seq (.reg [.ev (some 1) none (.a (.box (.t 0))),
 .ev (some 2) none (.w (.mv (.k (.c (.b false)))))])
 (.seq (.reg [.ev (some 3) none (.r (.ld (some 11) (.t 1))),
 .ev (some 4) none (.m (.call 27 [.t 3])),
 .ev (some 5) none (.w (.un .not (.t 4))),
 .ev (some 2) none (.w (.mv (.t 5)))])
 .ret)), [.t 2]⟩
theorem c89 : cFn ty ibs (cDraw ty ibs) [] f89 = some q89 := by decide +kernel
noncomputable def q90 : MFn := ⟨(.seq (.reg [.ev (some 4) none (.w (.mv (.k (.c (.b false)))))])
 (.seq (.reg [.ev (some 5) none (.w (.mv (.t 0))),
 .ev (some 6) none (.w (.mv (.t 1))),
 .ev (some 7) none (.m (.call 92 [.t 5, .t 6])),
 .ev (some 8) none (.w (.bin .geq (.t 7) (.k (.c (.i (.ofNat 0)))))),
 .ev (some 4) none (.w (.mv (.t 8)))])
 .ret)), [.t 4]⟩
theorem c90 : cFn ty ibs (cDraw ty ibs) [] f90 = some q90 := by decide +kernel
noncomputable def q91 : MFn := ⟨(.seq (.reg [.ev (some 2) none (.w (.mv (.k (.c (.s [])))))])
 (.seq (.reg [.ev (some 3) none (.w (.mv (.t 0))),
 .ev (some 4) none (.w (.bin .rem (.t 3) (.k (.c (.i (.ofNat 26)))))),
 .ev (some 5) none (.w (.bin .add (.k (.c (.i (.ofNat 97)))) (.t 4))),
 .ev (some 6) none (.w (.cv .i32 (.t 5))),
 .ev (some 7) none (.w (.cvs (.t 6))),
 .ev (some 2) none (.w (.mv (.t 7)))])
 .ret)), [.t 2]⟩
theorem c91 : cFn ty ibs (cDraw ty ibs) [] f91 = some q91 := by decide +kernel
noncomputable def q92 : MFn := ⟨(.seq (.reg [.ev (some 4) none (.w (.mv (.k (.c (.i (.ofNat 0))))))])
 (.seq (.seq (.reg [.ev (some 6) none (.w (.mv (.t 0))),
 .ev (some 7) none (.w (.lnl (.t 6))),
 .ev (some 8) none (.w (.mv (.k (.c (.i (.ofNat 0))))))])
 (.blk 0 (.loop (.seq (.reg [.ev (some 9) none (.w (.bin .lss (.t 8) (.t 7)))])
 (.seq (.cond (.t 9) .skip (.exit 0))
 (.seq (.blk 1 (.seq (.reg [.ev (some 10) none (.w (.mv (.t 8))),
 .ev (some 5) none (.w (.mv (.t 10)))])
 (.seq (.reg [.ev (some 11) none (.w (.mv (.t 1))),
 .ev (some 12) none (.w (.mv (.t 0))),
 .ev (some 13) none (.w (.mv (.t 5))),
 .ev (some 14) none (.w (.iad 1 (.t 12) (.t 13))),
 .ev (some 15) none (.r (.ld none (.t 14))),
 .ev (some 16) none (.w (.bin .eql (.t 11) (.t 15)))])
 (.cond (.t 16) (.seq (.reg [.ev (some 17) none (.w (.mv (.t 5))),
 .ev (some 4) none (.w (.mv (.t 17)))])
 .ret) .skip))))
 (.reg [.ev (some 18) none (.w (.bin .add (.t 8) (.k (.c (.i (.ofNat 1)))))),
 .ev (some 8) none (.w (.mv (.t 18)))])))))))
 (.seq (.reg [.ev (some 4) none (.w (.mv (.k (.c (.i (.negSucc 0))))))])
 .ret))), [.t 4]⟩
theorem c92 : cFn ty ibs (cDraw ty ibs) [] f92 = some q92 := by decide +kernel
noncomputable def q93 : MFn := ⟨(.seq (.reg [.ev (some 1) none (.a (.box (.t 0))),
 .ev (some 2) none (.a (.al [.i (.ofNat 0), .i (.ofNat 0), .s [], .l0]))])
 (.seq (.reg [.ev (some 6) none (.a (.bsl 4 0 [] [])),
 .ev (some 3) none (.w (.mv (.t 6)))])
 (.seq (.seq (.reg [.ev (some 7) none (.w (.fad 3 (.t 1))),
 .ev (some 8) none (.r (.ld none (.t 7))),
 .ev (some 9) none (.w (.lnl (.t 8))),
 .ev (some 10) none (.w (.mv (.k (.c (.i (.ofNat 0))))))])
 (.blk 0 (.loop (.seq (.reg [.ev (some 11) none (.w (.bin .lss (.t 10) (.t 9)))])
 (.seq (.cond (.t 11) .skip (.exit 0))
 (.seq (.blk 1 (.seq (.reg [.ev (some 12) none (.w (.iad 4 (.t 8) (.t 10))),
 .ev (some 13) none (.r (.ld (some 4) (.t 12))),
 .ev (some 5) none (.a (.al [.i (.ofNat 0), .i (.ofNat 0), .s [], .l0])),
 .ev none none (.m (.st 4 (.t 5) (.t 13)))])
 (.reg [.ev (some 14) none (.w (.mv (.t 3))),
 .ev (some 15) none (.r (.ld (some 4) (.t 5))),
 .ev (some 16) none (.m (.call 93 [.t 15])),
 .ev (some 17) none (.a (.bsl 4 1 [.i (.ofNat 0), .i (.ofNat 0), .s [], .l0] [(0, 4, .t 16)])),
 .ev (some 18) none (.m (.app 4 56 (.t 14) (.t 17))),
 .ev (some 3) none (.w (.mv (.t 18)))])))
 (.reg [.ev (some 19) none (.w (.bin .add (.t 10) (.k (.c (.i (.ofNat 1)))))),
 .ev (some 10) none (.w (.mv (.t 19)))])))))))
 (.seq (.reg [.ev (some 20) none (.w (.mv (.t 3))),
 .ev (some 21) none (.w (.fad 3 (.t 1))),
 .ev none none (.m (.st 1 (.t 21) (.t 20)))])
 (.seq (.reg [.ev (some 22) none (.r (.ld (some 4) (.t 1))),
 .ev none none (.m (.st 4 (.t 2) (.t 22)))])
 .ret))))), [.c (some 4) 2]⟩
theorem c93 : cFn ty ibs (cDraw ty ibs) [] f93 = some q93 := by decide +kernel
noncomputable def q94 : MFn := ⟨(.seq (.reg [.ev (some 4) none (.a (.al [.i (.ofNat 0), .s [], .i (.ofNat 0), .i (.ofNat 0)])),
 .ev (some 5) none (.w (.mv (.k (.c (.i (.ofNat 0)))))),
 .ev (some 6) none (.w (.mv (.k (.c (.b false)))))])
 (.seq (.reg [.ev (some 12) none (.w (.mv (.t 1))),
 .ev (some 7) none (.w (.mv (.t 12)))])
 (.seq (.blk 0 (.seq (.seq (.reg [.ev (some 14) none (.w (.mv (.t 0))),
 .ev (some 15) none (.w (.mv (.t 1))),
 .ev (some 16) none (.w (.ixs (.t 14) (.t 15))),
 .ev (some 17) none (.m (.call 161 [.t 16])),
 .ev (some 13) none (.w (.mv (.t 17)))])
 (.cond (.t 13) .skip (.reg [.ev (some 18) none (.w (.mv (.t 0))),
 .ev (some 19) none (.w (.mv (.t 1))),
 .ev (some 20) none (.w (.ixs (.t 18) (.t 19))),
 .ev (some 21) none (.m (.call 162 [.t 20])),
 .ev (some 13) none (.w (.mv (.t 21)))])))
 (.cond (.t 13) (.seq (.blk 1 (.loop (.seq (.seq (.reg [.ev (some 22) none (.w (.mv (.t 7))),
 .ev (some 23) none (.w (.mv (.t 0))),
 .ev (some 24) none (.w (.lns (.t 23))),
 .ev (some 25) none (.w (.bin .lss (.t 22) (.t 24))),
 .ev (some 26) none (.w (.mv (.t 25))),
 .ev (some 27) (some (26, true)) (.w (.mv (.t 0))),
 .ev (some 28) (some (26, true)) (.w (.mv (.t 7))),
 .ev (some 29) (some (26, true)) (.w (.ixs (.t 27) (.t 28))),
 .ev (some 30) (some (26, true)) (.m (.call 161 [.t 29])),
 .ev (some 31) (some (26, true)) (.w (.mv (.t 30))),
 .ev (some 32) (some (31, false)) (.w (.mv (.t 0))),
 .ev (some 33) (some (31, false)) (.w (.mv (.t 7))),
 .ev (some 34) (some (31, false)) (.w (.ixs (.t 32) (.t 33))),
 .ev (some 35) (some (31, false)) (.m (.call 162 [.t 34])),
 .ev (some 36) (some (26, true)) (.w (.pick (.t 31) (.k (.c (.b true))) (.t 35))),
 .ev (some 37) none (.w (.pick (.t 26) (.t 36) (.k (.c (.b false)))))])
 (.cond (.t 37) .skip (.exit 1)))
 (.blk 2 (.reg [.ev (some 38) none (.w (.mv (.t 7))),
 .ev (some 39) none (.w (.bin .add (.t 38) (.k (.c (.i (.ofNat 1)))))),
 .ev (some 7) none (.w (.mv (.t 39)))])))))
 (.seq (.reg [.ev (some 8) none (.w (.mv (.k (.c (.i (.ofNat 1))))))])
 (.seq (.seq (.reg [.ev (some 40) none (.w (.mv (.t 0))),
 .ev (some 41) none (.w (.mv (.t 1))),
 .ev (some 42) none (.w (.ixs (.t 40) (.t 41))),
 .ev (some 43) none (.m (.call 162 [.t 42]))])
 (.cond (.t 43) (.reg [.ev (some 8) none (.w (.mv (.k (.c (.i (.ofNat 2))))))]) .skip))
 (.seq (.reg [.ev (some 44) none (.w (.mv (.t 8))),
 .ev (some 45) none (.w (.mv (.t 0))),
 .ev (some 46) none (.w (.mv (.t 1))),
 .ev (some 47) none (.w (.mv (.t 7))),
 .ev (some 48) none (.w (.sls (.t 45) (some (.t 46)) (some (.t 47)))),
 .ev (some 49) none (.w (.mv (.t 1))),
 .ev (some 50) none (.w (.build [.i (.ofNat 0), .s [], .i (.ofNat 0), .i (.ofNat 0)] [(0, 1, .t 44), (1, 1, .t 48), (3, 1, .t 49)])),
 .ev (some 51) none (.w (.mv (.t 7))),
 .ev (some 52) none (.w (.mv (.t 7))),
 .ev (some 53) none (.w (.mv (.t 1))),
 .ev (some 54) none (.w (.bin .sub (.t 52) (.t 53))),
 .ev (some 55) none (.w (.bin .leq (.t 54) (.k (.c (.i (.ofNat 8)))))),
 .ev none none (.m (.st 4 (.t 4) (.t 50))),
 .ev (some 5) none (.w (.mv (.t 51))),
 .ev (some 6) none (.w (.mv (.t 55)))])
 .ret)))) (.seq (.reg [.ev (some 57) none (.w (.mv (.t 0))),
 .ev (some 58) none (.w (.mv (.t 1))),
 .ev (some 59) none (.w (.ixs (.t 57) (.t 58))),
 .ev (some 60) none (.m (.call 163 [.t 59])),
 .ev (some 56) none (.w (.mv (.t 60)))])
 (.cond (.t 56) (.seq (.blk 3 (.loop (.seq (.seq (.reg [.ev (some 61) none (.w (.mv (.t 7))),
 .ev (some 62) none (.w (.mv (.t 0))),
 .ev (some 63) none (.w (.lns (.t 62))),
 .ev (some 64) none (.w (.bin .lss (.t 61) (.t 63))),
 .ev (some 65) none (.w (.mv (.t 64))),
 .ev (some 66) (some (65, true)) (.w (.mv (.t 0))),
 .ev (some 67) (some (65, true)) (.w (.mv (.t 7))),
 .ev (some 68) (some (65, true)) (.w (.ixs (.t 66) (.t 67))),
 .ev (some 69) (some (65, true)) (.m (.call 163 [.t 68])),
 .ev (some 70) none (.w (.pick (.t 65) (.t 69) (.k (.c (.b false)))))])
 (.cond (.t 70) .skip (.exit 3)))
 (.blk 4 (.reg [.ev (some 71) none (.w (.mv (.t 7))),
 .ev (some 72) none (.w (.bin .add (.t 71) (.k (.c (.i (.ofNat 1)))))),
 .ev (some 7) none (.w (.mv (.t 72)))])))))
 (.seq (.reg [.ev (some 74) none (.w (.mv (.t 0))),
 .ev (some 75) none (.w (.mv (.t 1))),
 .ev (some 76) none (.w (.mv (.t 7))),
 .ev (some 77) none (.w (.sls (.t 74) (some (.t 75)) (some (.t 76)))),
 .ev (some 78) none (.m (.call 164 [.t 77])),
 .ev (some 73) none (.w (.mv (.t 78))),
 .ev (some 79) none (.w (.ext 0 (.t 73))),
 .ev (some 80) none (.w (.ext 1 (.t 73))),
 .ev (some 9) none (.w (.mv (.t 79))),
 .ev (some 10) none (.w (.mv (.t 80)))])
 (.seq (.reg [.ev (some 81) none (.w (.mv (.t 9))),
 .ev (some 82) none (.w (.mv (.t 1))),
 .ev (some 83) none (.w (.build [.i (.ofNat 0), .s [], .i (.ofNat 0), .i (.ofNat 0)] [(0, 1, .k (.c (.i (.ofNat 3)))), (2, 1, .t 81), (3, 1, .t 82)])),
 .ev (some 84) none (.w (.mv (.t 7))),
 .ev (some 85) none (.w (.mv (.t 10))),
 .ev none none (.m (.st 4 (.t 4) (.t 83))),
 .ev (some 5) none (.w (.mv (.t 84))),
 .ev (some 6) none (.w (.mv (.t 85)))])
 .ret))) .skip)))))
 (.seq (.reg [.ev (some 86) none (.w (.mv (.t 0))),
 .ev (some 87) none (.w (.mv (.t 1))),
 .ev (some 88) none (.m (.call 165 [.t 86, .t 87])),
 .ev (some 11) none (.w (.mv (.t 88)))])
 (.seq (.reg [.ev (some 89) none (.w (.mv (.t 11))),
 .ev (some 90) none (.w (.mv (.t 1))),
 .ev (some 91) none (.w (.build [.i (.ofNat 0), .s [], .i (.ofNat 0), .i (.ofNat 0)] [(0, 1, .k (.c (.i (.ofNat 4)))), (1, 1, .t 89), (3, 1, .t 90)])),
 .ev (some 92) none (.w (.mv (.t 1))),
 .ev (some 93) none (.w (.mv (.t 11))),
 .ev (some 94) none (.w (.lns (.t 93))),
 .ev (some 95) none (.w (.bin .add (.t 92) (.t 94))),
 .ev (some 96) none (.w (.mv (.t 11))),
 .ev (some 97) none (.w (.bin .neq (.t 96) (.k (.c (.s []))))),
 .ev none none (.m (.st 4 (.t 4) (.t 91))),
 .ev (some 5) none (.w (.mv (.t 95))),
 .ev (some 6) none (.w (.mv (.t 97)))])
 .ret))))), [.c (some 4) 4, .t 5, .t 6]⟩
theorem c94 : cFn ty ibs (cDraw ty ibs) [] f94 = some q94 := by decide +kernel
noncomputable def q95 : MFn := ⟨(.seq (.seq (.reg [.ev (some 4) none (.w (.mv (.t 0))),
 .ev (some 5) none (.w (.mv (.t 1))),
 .ev (some 6) none (.m (.call 32 [.t 4, .t 5])),
 .ev (some 7) none (.w (.un .not (.t 6)))])
 (.cond (.t 7) (.seq (.reg [.ev (some 8) none (.w (.mv (.t 0))),
 .ev (some 9) none (.m (.call 36 [.t 8]))])
 .ret) .skip))
 (.reg [.ev (some 10) none (.w (.mv (.t 0))),
 .ev (some 11) none (.m (.call 101 [.t 10]))])), []⟩
theorem c95 : cFn ty ibs (cDraw ty ibs) [] f95 = some q95 := by decide +kernel
noncomputable def q96 : MFn := ⟨(.seq (.reg [.ev (some 4) none (.w (.mv (.k (.c (.s [])))))])
 (.seq (.seq (.reg [.ev (some 6) none (.w (.mv (.t 1))),
 .ev (some 7) none (.w (.mv (.t 6))),
 .ev (some 8) (some (7, true)) (.w (.mv (.t 0))),
 .ev (some 9) (some (7, true)) (.m (.call 166 [.t 8])),
 .ev (some 10) (some (7, true)) (.w (.un .not (.t 9))),
 .ev (some 11) none (.w (.pick (.t 7) (.t 10) (.k (.c (.b false))))),
 .ev (some 12) none (.w (.mv (.t 11))),
 .ev (some 13) (some (12, false)) (.w (.mv (.t 1))),
 .ev (some 14) (some (12, false)) (.w (.un .not (.t 13))),
 .ev (some 15) (some (12, false)) (.w (.mv (.t 14))),
 .ev (some 16) (some (15, true)) (.w (.mv (.t 0))),
 .ev (some 17) (some (15, true)) (.m (.call 97 [.t 16])),
 .ev (some 18) (some (15, true)) (.w (.un .not (.t 17))),
 .ev (some 19) (some (12, false)) (.w (.pick (.t 15) (.t 18) (.k (.c (.b false))))),
 .ev (some 20) none (.w (.pick (.t 12) (.k (.c (.b true))) (.t 19)))])
 (.cond (.t 20) (.seq (.reg [.ev (some 21) none (.w (.mv (.t 0))),
 .ev (some 22) none (.m (.call 36 [.t 21]))])
 (.seq (.reg [.ev (some 4) none (.w (.mv (.k (.c (.s [])))))])
 .ret)) .skip))
 (.seq (.reg [.ev (some 23) none (.w (.mv (.t 0))),
 .ev (some 24) none (.m (.call 35 [.t 23])),
 .ev (some 25) none (.w (.fld 1 none (.t 24))),
 .ev (some 5) none (.w (.mv (.t 25)))])
 (.seq (.reg [.ev (some 26) none (.w (.mv (.t 0))),
 .ev (some 27) none (.m (.call 101 [.t 26]))])
 (.seq (.reg [.ev (some 28) none (.w (.mv (.t 5))),
 .ev (some 4) none (.w (.mv (.t 28)))])
 .ret))))), [.t 4]⟩
theorem c96 : cFn ty ibs (cDraw ty ibs) [] f96 = some q96 := by decide +kernel
noncomputable def q97 : MFn := ⟨(.seq (.reg [.ev (some 2) none (.w (.mv (.k (.c (.b false)))))])
 (.seq (.reg [.ev (some 4) none (.w (.mv (.t 0))),
 .ev (some 5) none (.m (.call 35 [.t 4])),
 .ev (some 3) none (.a (.al [.i (.ofNat 0), .s [], .i (.ofNat 0), .i (.ofNat 0)])),
 .ev none none (.m (.st 4 (.t 3) (.t 5)))])
 (.seq (.reg [.ev (some 6) none (.w (.mv (.t 0))),
 .ev (some 7) none (.w (.nilc (.t 6))),
 .ev (some 8) none (.w (.fad 2 (.t 7))),
 .ev (some 9) none (.r (.ld none (.t 8))),
 .ev (some 10) none (.w (.bin .lss (.t 9) (.k (.c (.i (.ofNat 0)))))),
 .ev (some 11) none (.w (.mv (.t 10))),
 .ev (some 12) (some (11, true)) (.w (.fad 0 (.t 3))),
 .ev (some 13) (some (11, true)) (.r (.ld none (.t 12))),
 .ev (some 14) (some (11, true)) (.w (.bin .eql (.t 13) (.k (.c (.i (.ofNat 1)))))),
 .ev (some 15) none (.w (.pick (.t 11) (.t 14) (.k (.c (.b false))))),
 .ev (some 16) none (.w (.mv (.t 15))),
 .ev (some 17) (some (16, true)) (.w (.fad 1 (.t 3))),
 .ev (some 18) (some (16, true)) (.r (.ld none (.t 17))),
 .ev (some 19) (some (16, true)) (.m (.call 167 [.t 18])),
 .ev (some 20) (some (16, true)) (.w (.un .not (.t 19))),
 .ev (some 21) none (.w (.pick (.t 16) (.t 20) (.k (.c (.b false))))),
 .ev (some 2) none (.w (.mv (.t 21)))])
 .ret))), [.t 2]⟩
theorem c97 : cFn ty ibs (cDraw ty ibs) [] f97 = some q97 := by decide +kernel
noncomputable def q98 : MFn := ⟨(.seq (.seq (.reg [.ev (some 4) none (.w (.mv (.t 0))),
 .ev (some 5) none (.w (.mv (.t 1))),
 .ev (some 6) none (.m (.call 100 [.t 4, .t 5])),
 .ev (some 7) none (.w (.un .not (.t 6)))])
 (.cond (.t 7) (.seq (.reg [.ev (some 8) none (.w (.mv (.t 0))),
 .ev (some 9) none (.m (.call 36 [.t 8]))])
 .ret) .skip))
 (.reg [.ev (some 10) none (.w (.mv (.t 0))),
 .ev (some 11) none (.m (.call 101 [.t 10]))])), []⟩
theorem c98 : cFn ty ibs (cDraw ty ibs) [] f98 = some q98 := by decide +kernel
noncomputable def q99 : MFn := ⟨(.seq (.reg [.ev (some 2) none (.a (.al [.s [], .l0]))])
 (.seq (.reg [.ev (some 4) none (.w (.mv (.t 0))),
 .ev (some 5) none (.m (.call 96 [.t 4, .k (.c (.b true))])),
 .ev (some 6) none (.w (.build [.s [], .l0] [(0, 1, .t 5)])),
 .ev (some 3) none (.a (.al [.s [], .l0])),
 .ev none none (.m (.st 2 (.t 3) (.t 6)))])
 (.seq (.blk 0 (.loop (.seq (.seq (.reg [.ev (some 7) none (.w (.mv (.t 0))),
 .ev (some 8) none (.m (.call 168 [.t 7]))])
 (.cond (.t 8) .skip (.exit 0)))
 (.blk 1 (.reg [.ev (some 9) none (.w (.fad 1 (.t 3))),
 .ev (some 10) none (.r (.ld none (.t 9))),
 .ev (some 11) none (.w (.mv (.t 0))),
 .mk (some 12) none (.call 169 [.t 11]) [(10, .ld none (.t 9))] [],
 .ev (some 13) none (.a (.bsl 4 1 [.i (.ofNat 0), .i (.ofNat 0), .s [], .l0] [(0, 4, .t 12)])),
 .mk (some 14) none (.app 4 56 (.t 10) (.t 13)) [] [],
 .ev (some 15) none (.w (.fad 1 (.t 3))),
 .mk none none (.st 1 (.t 15) (.t 14)) [] []])))))
 (.seq (.reg [.ev (some 16) none (.r (.ld (some 2) (.t 3))),
 .ev none none (.m (.st 2 (.t 2) (.t 16)))])
 .ret)))), [.c (some 2) 2]⟩
theorem c99 : cFn ty ibs (cDraw ty ibs) [[.ev 0, .ev 1, .ev 2, .ev 3, .ev 4, .ev 5, .ev 6, .ev 7]] f99 = some q99 := by decide +kernel
noncomputable def q100 : MFn := ⟨(.seq (.reg [.ev (some 4) none (.w (.mv (.k (.c (.b false)))))])
 (.seq (.reg [.ev (some 6) none (.w (.mv (.t 0))),
 .ev (some 7) none (.m (.call 35 [.t 6])),
 .ev (some 5) none (.a (.al [.i (.ofNat 0), .s [], .i (.ofNat 0), .i (.ofNat 0)])),
 .ev none none (.m (.st 4 (.t 5) (.t 7)))])
 (.seq (.reg [.ev (some 8) none (.w (.mv (.t 0))),
 .ev (some 9) none (.w (.nilc (.t 8))),
 .ev (some 10) none (.w (.fad 2 (.t 9))),
 .ev (some 11) none (.r (.ld none (.t 10))),
 .ev (some 12) none (.w (.bin .lss (.t 11) (.k (.c (.i (.ofNat 0)))))),
 .ev (some 13) none (.w (.mv (.t 12))),
 .ev (some 14) (some (13, true)) (.w (.fad 0 (.t 5))),
 .ev (some 15) (some (13, true)) (.r (.ld none (.t 14))),
 .ev (some 16) (some (13, true)) (.w (.bin .eql (.t 15) (.k (.c (.i (.ofNat 4)))))),
 .ev (some 17) none (.w (.pick (.t 13) (.t 16) (.k (.c (.b false))))),
 .ev (some 18) none (.w (.mv (.t 17))),
 .ev (some 19) (some (18, true)) (.w (.fad 1 (.t 5))),
 .ev (some 20) (some (18, true)) (.r (.ld none (.t 19))),
 .ev (some 21) (some (18, true)) (.w (.mv (.t 1))),
 .ev (some 22) (some (18, true)) (.w (.bin .eql (.t 20) (.t 21))),
 .ev (some 23) none (.w (.pick (.t 18) (.t 22) (.k (.c (.b false))))),
 .ev (some 4) none (.w (.mv (.t 23)))])
 .ret))), [.t 4]⟩
theorem c100 : cFn ty ibs (cDraw ty ibs) [] f100 = some q100 := by decide +kernel
noncomputable def q101 : MFn := ⟨(.seq (.reg [.ev (some 2) none (.w (.mv (.t 0))),
 .ev (some 3) none (.w (.nilc (.t 2))),
 .ev (some 4) none (.w (.fad 1 (.t 3))),
 .ev (some 5) none (.r (.ld none (.t 4))),
 .ev (some 6) none (.w (.mv (.t 0))),
 .ev (some 7) none (.w (.nilc (.t 6))),
 .ev (some 8) none (.w (.fad 0 (.t 7))),
 .ev (some 9) none (.r (.ld none (.t 8))),
 .ev (some 10) none (.w (.lnl (.t 9))),
 .ev (some 11) none (.w (.bin .sub (.t 10) (.k (.c (.i (.ofNat 1)))))),
 .ev (some 12) none (.w (.bin .lss (.t 5) (.t 11)))])
 (.cond (.t 12) (.reg [.ev (some 13) none (.w (.mv (.t 0))),
 .ev (some 14) none (.w (.nilc (.t 13))),
 .ev (some 15) none (.w (.fad 1 (.t 14))),
 .ev (some 16) none (.r (.ld none (.t 15))),
 .ev (some 17) none (.w (.bin .add (.t 16) (.k (.c (.i (.ofNat 1)))))),
 .ev (some 18) none (.w (.nilc (.t 13))),
 .ev (some 19) none (.w (.fad 1 (.t 18))),
 .ev none none (.m (.st 1 (.t 19) (.t 17)))]) .skip)), []⟩
theorem c101 : cFn ty ibs (cDraw ty ibs) [[.ev 0, .ev 1, .ev 2, .ev 3, .ev 4, .ev 5, .ev 6, .ev 7, .ev 8, .ev 9, .ev 10]] f101 = some q101 := by decide +kernel
noncomputable def q102 : MFn := ⟨(.seq (.reg [.ev (some 2) none (.a (.al [.i (.ofNat 0), .i (.ofNat 0), .s [], .s [], .l0]))])
 (.seq (.reg [.ev (some 6) none (.w (.mv (.t 0))),
 .ev (some 7) none (.m (.call 101 [.t 6]))])
 (.seq (.reg [.ev (some 8) none (.w (.mv (.t 0))),
 .ev (some 9) none (.m (.call 96 [.t 8, .k (.c (.b false))])),
 .ev (some 3) none (.w (.mv (.t 9)))])
 (.seq (.reg [.ev (some 10) none (.w (.mv (.t 0))),
 .ev (some 11) none (.m (.call 98 [.t 10, .k (.c (.s [61]))]))])
 (.seq (.reg [.ev (some 12) none (.w (.mv (.t 0))),
 .ev (some 13) none (.m (.call 34 [.t 12])),
 .ev (some 4) none (.a (.al [.i (.ofNat 0), .i (.ofNat 0), .s [], .s [], .l0])),
 .ev none none (.m (.st 5 (.t 4) (.t 13)))])
 (.seq (.reg [.ev (some 14) none (.w (.mv (.t 0))),
 .ev (some 15) none (.m (.call 95 [.t 14, .k (.c (.s [105, 110]))]))])
 (.seq (.reg [.ev (some 16) none (.w (.mv (.t 0))),
 .ev (some 17) none (.m (.call 34 [.t 16])),
 .ev (some 5) none (.a (.al [.i (.ofNat 0), .i (.ofNat 0), .s [], .s [], .l0])),
 .ev none none (.m (.st 5 (.t 5) (.t 17)))])
 (.seq (.reg [.ev (some 18) none (.w (.mv (.t 3))),
 .ev (some 19) none (.r (.ld (some 5) (.t 4))),
 .ev (some 20) none (.r (.ld (some 5) (.t 5))),
 .ev (some 21) none (.a (.bsl 5 2 [.i (.ofNat 0), .i (.ofNat 0), .s [], .s [], .l0, .i (.ofNat 0), .i (.ofNat 0), .s [], .s [], .l0] [(0, 5, .t 19), (5, 5, .t 20)])),
 .ev (some 22) none (.w (.build [.i (.ofNat 0), .i (.ofNat 0), .s [], .s [], .l0] [(0, 1, .k (.c (.i (.ofNat 5)))), (2, 1, .t 18), (4, 1, .t 21)])),
 .ev none none (.m (.st 5 (.t 2) (.t 22)))])
 .ret)))))))), [.c (some 5) 2]⟩
theorem c102 : cFn ty ibs (cDraw ty ibs) [] f102 = some q102 := by decide +kernel
noncomputable def q103 : MFn := ⟨(.seq (.reg [.ev (some 2) none (.a (.al [.i (.ofNat 0), .i (.ofNat 0), .s [], .s [], .l0]))])
 (.seq (.reg [.ev (some 7) none (.w (.mv (.t 0))),
 .ev (some 8) none (.m (.call 101 [.t 7]))])
 (.seq (.reg [.ev (some 9) none (.w (.mv (.t 0))),
 .ev (some 10) none (.m (.call 96 [.t 9, .k (.c (.b false))])),
 .ev (some 3) none (.w (.mv (.t 10)))])
 (.seq (.reg [.ev (some 11) none (.w (.mv (.t 0))),
 .ev (some 12) none (.m (.call 96 [.t 11, .k (.c (.b false))])),
 .ev (some 4) none (.w (.mv (.t 12)))])
 (.seq (.reg [.ev (some 13) none (.w (.mv (.t 0))),
 .ev (some 14) none (.m (.call 98 [.t 13, .k (.c (.s [61]))]))])
 (.seq (.reg [.ev (some 15) none (.w (.mv (.t 0))),
 .ev (some 16) none (.m (.call 34 [.t 15])),
 .ev (some 5) none (.a (.al [.i (.ofNat 0), .i (.ofNat 0), .s [], .s [], .l0])),
 .ev none none (.m (.st 5 (.t 5) (.t 16)))])
 (.seq (.reg [.ev (some 17) none (.w (.mv (.t 0))),
 .ev (some 18) none (.m (.call 95 [.t 17, .k (.c (.s [105, 110]))]))])
 (.seq (.reg [.ev (some 19) none (.w (.mv (.t 0))),
 .ev (some 20) none (.m (.call 34 [.t 19])),
 .ev (some 6) none (.a (.al [.i (.ofNat 0), .i (.ofNat 0), .s [], .s [], .l0])),
 .ev none none (.m (.st 5 (.t 6) (.t 20)))])
 (.seq (.reg [.ev (some 21) none (.w (.mv (.t 3))),
 .ev (some 22) none (.w (.mv (.t 4))),
 .ev (some 23) none (.r (.ld (some 5) (.t 5))),
 .ev (some 24) none (.r (.ld (some 5) (.t 6))),
 .ev (some 25) none (.a (.bsl 5 2 [.i (.ofNat 0), .i (.ofNat 0), .s [], .s [], .l0, .i (.ofNat 0), .i (.ofNat 0), .s [], .s [], .l0] [(0, 5, .t 23), (5, 5, .t 24)])),
 .ev (some 26) none (.w (.build [.i (.ofNat 0), .i (.ofNat 0), .s [], .s [], .l0] [(0, 1, .k (.c (.i (.ofNat 6)))), (2, 1, .t 21), (3, 1, .t 22), (4, 1, .t 25)])),
 .ev none none (.m (.st 5 (.t 2) (.t 26)))])
 .ret))))))))), [.c (some 5) 2]⟩
theorem c103 : cFn ty ibs (cDraw ty ibs) [] f103 = some q103 := by decide +kernel
noncomputable def q104 : MFn := ⟨(.seq (.reg [.ev (some 2) none (.a (.al [.i (.ofNat 0), .i (.ofNat 0), .s [], .s [], .l0]))])
 (.seq (.reg [.ev (some 7) none (.w (.mv (.t 0))),
 .ev (some 8) none (.m (.call 101 [.t 7]))])
 (.seq (.reg [.ev (some 9) none (.w (.mv (.t 0))),
 .ev (some 10) none (.m (.call 34 [.t 9])),
 .ev (some 3) none (.a (.al [.i (.ofNat 0), .i (.ofNat 0), .s [], .s [], .l0])),
 .ev none none (.m (.st 5 (.t 3) (.t 10)))])
 (.seq (.reg [.ev (some 11) none (.w (.mv (.t 0))),
 .ev (some 12) none (.m (.call 95 [.t 11, .k (.c (.s [111, 102]))]))])
 (.seq (.reg [.ev (some 13) none (.w (.mv (.t 0))),
 .ev (some 14) none (.m (.call 98 [.t 13, .k (.c (.s [123]))]))])
 (.seq (.reg [.ev (some 15) none (.r (.ld (some 5) (.t 3))),
 .ev (some 16) none (.a (.bsl 5 1 [.i (.ofNat 0), .i (.ofNat 0), .s [], .s [], .l0] [(0, 5, .t 15)])),
 .ev (some 17) none (.m (.call 105 [.k (.c (.i (.ofNat 7))), .t 16])),
 .ev (some 4) none (.a (.al [.i (.ofNat 0), .i (.ofNat 0), .s [], .s [], .l0])),
 .ev none none (.m (.st 5 (.t 4) (.t 17)))])
 (.seq (.blk 0 (.loop (.seq (.seq (.reg [.ev (some 18) none (.w (.mv (.t 0))),
 .ev (some 19) none (.w (.nilc (.t 18))),
 .ev (some 20) none (.w (.fad 2 (.t 19))),
 .ev (some 21) none (.r (.ld none (.t 20))),
 .ev (some 22) none (.w (.bin .lss (.t 21) (.k (.c (.i (.ofNat 0))))))])
 (.cond (.t 22) .skip (.exit 0)))
 (.blk 1 (.seq (.reg [.ev (some 23) none (.w (.mv (.t 0))),
 .ev (some 24) none (.m (.call 170 [.t 23])),
 .ev (some 5) none (.a (.al [.i (.ofNat 0), .i (.ofNat 0), .s [], .s [], .l0])),
 .ev none none (.m (.st 5 (.t 5) (.t 24)))])
 (.seq (.reg [.ev (some 25) none (.w (.mv (.t 0))),
 .ev (some 26) none (.m (.call 98 [.t 25, .k (.c (.s [45, 62]))]))])
 (.seq (.reg [.ev (some 27) none (.w (.mv (.t 0))),
 .ev (some 28) none (.m (.call 34 [.t 27])),
 .ev (some 6) none (.a (.al [.i (.ofNat 0), .i (.ofNat 0), .s [], .s [], .l0])),
 .ev none none (.m (.st 5 (.t 6) (.t 28)))])
 (.seq (.reg [.ev (some 29) none (.w (.fad 4 (.t 4))),
 .ev (some 30) none (.r (.ld none (.t 29))),
 .ev (some 31) none (.r (.ld (some 5) (.t 5))),
 .ev (some 32) none (.r (.ld (some 5) (.t 6))),
 .ev (some 33) none (.a (.bsl 5 2 [.i (.ofNat 0), .i (.ofNat 0), .s [], .s [], .l0, .i (.ofNat 0), .i (.ofNat 0), .s [], .s [], .l0] [(0, 5, .t 31), (5, 5, .t 32)])),
 .mk (some 34) none (.call 105 [.k (.c (.i (.ofNat 8))), .t 33]) [(30, .ld none (.t 29))] [],
 .ev (some 35) none (.a (.bsl 5 1 [.i (.ofNat 0), .i (.ofNat 0), .s [], .s [], .l0] [(0, 5, .t 34)])),
 .mk (some 36) none (.app 5 72 (.t 30) (.t 35)) [] [],
 .ev (some 37) none (.w (.fad 4 (.t 4))),
 .mk none none (.st 1 (.t 37) (.t 36)) [] []])
 (.seq (.seq (.reg [.ev (some 38) none (.w (.mv (.t 0))),
 .ev (some 39) none (.m (.call 100 [.t 38, .k (.c (.s [59]))])),
 .ev (some 40) none (.w (.un .not (.t 39)))])
 (.cond (.t 40) (.exit 0) .skip))
 (.reg [.ev (some 41) none (.w (.mv (.t 0))),
 .ev (some 42) none (.m (.call 101 [.t 41]))]))))))))))
 (.seq (.reg [.ev (some 43) none (.w (.mv (.t 0))),
 .ev (some 44) none (.m (.call 98 [.t 43, .k (.c (.s [125]))]))])
 (.seq (.reg [.ev (some 45) none (.r (.ld (some 5) (.t 4))),
 .ev none none (.m (.st 5 (.t 2) (.t 45)))])
 .ret))))))))), [.c (some 5) 2]⟩
theorem c104 : cFn ty ibs (cDraw ty ibs) [[.ev 0, .ev 1, .ev 2, .ev 3, .ev 4, .ev 5, .ev 6, .ev 7, .ev 8, .ev 9]] f104 = some q104 := by decide +kernel
noncomputable def q105 : MFn := ⟨(.seq (.reg [.ev (some 4) none (.a (.al [.i (.ofNat 0), .i (.ofNat 0), .s [], .s [], .l0]))])
 (.seq (.reg [.ev (some 5) none (.w (.mv (.t 0))),
 .ev (some 6) none (.a (.bsl 5 0 [] [])),
 .ev (some 7) none (.w (.mv (.t 1))),
 .ev (some 8) none (.m (.app 5 72 (.t 6) (.t 7))),
 .ev (some 9) none (.w (.build [.i (.ofNat 0), .i (.ofNat 0), .s [], .s [], .l0] [(0, 1, .t 5), (4, 1, .t 8)])),
 .ev none none (.m (.st 5 (.t 4) (.t 9)))])
 .ret)), [.c (some 5) 4]⟩
theorem c105 : cFn ty ibs (cDraw ty ibs) [] f105 = some q105 := by decide +kernel
noncomputable def q106 : MFn := ⟨(.seq (.reg [.ev (some 2) none (.a (.al [.i (.ofNat 0), .i (.ofNat 0), .s [], .s [], .l0]))])
 (.seq (.reg [.ev (some 6) none (.w (.mv (.t 0))),
 .ev (some 7) none (.m (.call 171 [.t 6])),
 .ev (some 3) none (.a (.al [.i (.ofNat 0), .i (.ofNat 0), .s [], .s [], .l0])),
 .ev none none (.m (.st 5 (.t 3) (.t 7)))])
 (.seq (.reg [.ev (some 4) none (.w (.mv (.k (.c (.i (.ofNat 0))))))])
 (.seq (.blk 0 (.seq (.reg [.ev (some 9) none (.w (.mv (.t 0))),
 .ev (some 10) none (.m (.call 100 [.t 9, .k (.c (.s [60]))])),
 .ev (some 8) none (.w (.mv (.t 10)))])
 (.cond (.t 8) (.reg [.ev (some 4) none (.w (.mv (.k (.c (.i (.ofNat 13))))))]) (.seq (.reg [.ev (some 12) none (.w (.mv (.t 0))),
 .ev (some 13) none (.m (.call 100 [.t 12, .k (.c (.s [61, 61]))])),
 .ev (some 11) none (.w (.mv (.t 13)))])
 (.cond (.t 11) (.reg [.ev (some 4) none (.w (.mv (.k (.c (.i (.ofNat 14))))))]) .skip)))))
 (.seq (.seq (.reg [.ev (some 14) none (.w (.mv (.t 4))),
 .ev (some 15) none (.w (.bin .eql (.t 14) (.k (.c (.i (.ofNat 0))))))])
 (.cond (.t 15) (.seq (.reg [.ev (some 16) none (.r (.ld (some 5) (.t 3))),
 .ev none none (.m (.st 5 (.t 2) (.t 16)))])
 .ret) .skip))
 (.seq (.reg [.ev (some 17) none (.w (.mv (.t 0))),
 .ev (some 18) none (.m (.call 101 [.t 17]))])
 (.seq (.reg [.ev (some 19) none (.w (.mv (.t 0))),
 .ev (some 20) none (.m (.call 171 [.t 19])),
 .ev (some 5) none (.a (.al [.i (.ofNat 0), .i (.ofNat 0), .s [], .s [], .l0])),
 .ev none none (.m (.st 5 (.t 5) (.t 20)))])
 (.seq (.reg [.ev (some 21) none (.w (.mv (.t 4))),
 .ev (some 22) none (.r (.ld (some 5) (.t 3))),
 .ev (some 23) none (.r (.ld (some 5) (.t 5))),
 .ev (some 24) none (.a (.bsl 5 2 [.i (.ofNat 0), .i (.ofNat 0), .s [], .s [], .l0, .i (.ofNat 0), .i (.ofNat 0), .s [], .s [], .l0] [(0, 5, .t 22), (5, 5, .t 23)])),
 .ev (some 25) none (.m (.call 105 [.t 21, .t 24])),
 .ev none none (.m (.st 5 (.t 2) (.t 25)))])
 .ret)))))))), [.c (some 5) 2]⟩
theorem c106 : cFn ty ibs (cDraw ty ibs) [] f106 = some q106 := by decide +kernel
noncomputable def q107 : MFn := ⟨(.seq (.reg [.ev (some 2) none (.w (.mv (.k (.c (.b false)))))])
 (.seq (.seq (.reg [.ev (some 3) none (.w (.mv (.k (.c (.i (.ofNat 0))))))])
 (.blk 0 (.loop (.seq (.seq (.reg [.ev (some 4) none (.w (.mv (.t 3))),
 .ev (some 5) none (.w (.mv (.t 0))),
 .ev (some 6) none (.w (.lns (.t 5))),
 .ev (some 7) none (.w (.bin .lss (.t 4) (.t 6)))])
 (.cond (.t 7) .skip (.exit 0)))
 (.seq (.blk 1 (.seq (.reg [.ev (some 10) none (.w (.mv (.t 0))),
 .ev (some 11) none (.w (.mv (.t 3))),
 .ev (some 12) none (.w (.ixs (.t 10) (.t 11))),
 .ev (some 13) none (.m (.call 161 [.t 12])),
 .ev (some 14) none (.w (.un .not (.t 13))),
 .ev (some 15) none (.w (.mv (.t 14))),
 .ev (some 16) (some (15, true)) (.w (.mv (.t 0))),
 .ev (some 17) (some (15, true)) (.w (.mv (.t 3))),
 .ev (some 18) (some (15, true)) (.w (.ixs (.t 16) (.t 17))),
 .ev (some 19) (some (15, true)) (.m (.call 162 [.t 18])),
 .ev (some 20) (some (15, true)) (.w (.un .not (.t 19))),
 .ev (some 21) none (.w (.pick (.t 15) (.t 20) (.k (.c (.b false)))))])
 (.cond (.t 21) (.seq (.reg [.ev (some 2) none (.w (.mv (.k (.c (.b false)))))])
 .ret) .skip)))
 (.reg [.ev (some 8) none (.w (.mv (.t 3))),
 .ev (some 9) none (.w (.bin .add (.t 8) (.k (.c (.i (.ofNat 1)))))),
 .ev (some 3) none (.w (.mv (.t 9)))]))))))
 (.seq (.reg [.ev (some 22) none (.w (.mv (.t 0))),
 .ev (some 23) none (.w (.lns (.t 22))),
 .ev (some 24) none (.m (.call 108 [.t 23, .k (.c (.i (.ofNat 1))), .k (.c (.i (.ofNat 8)))])),
 .ev (some 25) none (.w (.mv (.t 24))),
 .ev (some 26) (some (25, true)) (.w (.mv (.t 0))),
 .ev (some 27) (some (25, true)) (.w (.ixs (.t 26) (.k (.c (.i (.ofNat 0)))))),
 .ev (some 28) (some (25, true)) (.m (.call 162 [.t 27])),
 .ev (some 29) none (.w (.pick (.t 25) (.t 28) (.k (.c (.b false))))),
 .ev (some 30) none (.w (.mv (.t 29))),
 .ev (some 31) (some (30, true)) (.w (.mv (.t 0))),
 .ev (some 32) (some (30, true)) (.w (.bin .neq (.t 31) (.k (.c (.s [73, 110, 116]))))),
 .ev (some 33) none (.w (.pick (.t 30) (.t 32) (.k (.c (.b false))))),
 .ev (some 2) none (.w (.mv (.t 33)))])
 .ret))), [.t 2]⟩
theorem c107 : cFn ty ibs (cDraw ty ibs) [] f107 = some q107 := by decide +kernel
end Go.Ev
