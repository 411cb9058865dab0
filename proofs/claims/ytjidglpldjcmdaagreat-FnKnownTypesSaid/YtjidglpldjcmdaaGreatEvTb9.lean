/-
The table: functions in the evaluator's form, each checked against the program.
-/
import Derived.Test.YtjidglpldjcmdaaGreatEvTb0
set_option linter.unusedVariables false
set_option maxRecDepth 1000000
namespace Go.Ev
open Go Go.Proofs.Tryz

noncomputable def q223 : MFn := ⟨(.seq (.reg [.ev (some 5) none (.a (.box (.t 1))),
 .ev (some 8) none (.a (.al [.i (.ofNat 0), .i (.ofNat 0), .s [], .s [], .i (.ofNat 0), .i (.ofNat 0), .s [], .l0, .l0, .l0, .l0])),
 .ev (some 9) none (.w (.mv (.k (.c .l0))))])
 (.seq (.reg [.ev (some 15) none (.w (.fad 0 (.t 5))),
 .ev (some 16) none (.r (.ld none (.t 15))),
 .ev (some 17) none (.w (.fad 1 (.t 5))),
 .ev (some 18) none (.r (.ld none (.t 17))),
 .ev (some 19) none (.w (.fad 2 (.t 5))),
 .ev (some 20) none (.r (.ld none (.t 19))),
 .ev (some 21) none (.w (.build [.i (.ofNat 0), .i (.ofNat 0), .s [], .s [], .i (.ofNat 0), .i (.ofNat 0), .s [], .l0, .l0, .l0, .l0] [(0, 1, .t 16), (1, 1, .t 18), (2, 1, .t 20)])),
 .ev (some 10) none (.a (.al [.i (.ofNat 0), .i (.ofNat 0), .s [], .s [], .i (.ofNat 0), .i (.ofNat 0), .s [], .l0, .l0, .l0, .l0])),
 .ev none none (.m (.st 11 (.t 10) (.t 21)))])
 (.seq (.seq (.reg [.ev (some 22) none (.w (.mv (.t 0))),
 .ev (some 23) none (.w (.nilc (.t 22))),
 .ev (some 24) none (.w (.fad 3 (.t 23))),
 .ev (some 25) none (.r (.ld none (.t 24))),
 .ev (some 26) none (.w (.bin .neq (.t 25) (.k (.c (.i (.ofNat 0))))))])
 (.cond (.t 26) (.seq (.reg [.ev (some 27) none (.r (.ld (some 11) (.t 10))),
 .ev (some 28) none (.w (.mv (.t 2))),
 .ev none none (.m (.st 11 (.t 8) (.t 27))),
 .ev (some 9) none (.w (.mv (.t 28)))])
 .ret) .skip))
 (.seq (.seq (.reg [.ev (some 29) none (.w (.fad 0 (.t 5))),
 .ev (some 30) none (.r (.ld none (.t 29)))])
 (.blk 0 (.seq (.reg [.ev (some 53) none (.w (.bin .eql (.t 30) (.k (.c (.i (.ofNat 19)))))),
 .ev (some 52) none (.w (.mv (.t 53)))])
 (.cond (.t 52) (.reg [.ev (some 54) none (.m (.call 177 [])),
 .ev (some 55) none (.w (.fad 4 (.t 10))),
 .ev none none (.m (.st 4 (.t 55) (.t 54)))]) (.seq (.reg [.ev (some 57) none (.w (.bin .eql (.t 30) (.k (.c (.i (.ofNat 20)))))),
 .ev (some 56) none (.w (.mv (.t 57)))])
 (.cond (.t 56) (.seq (.reg [.ev (some 58) none (.w (.mv (.t 0))),
 .ev (some 59) none (.r (.ld (some 5) (.t 5))),
 .ev (some 60) none (.m (.call 188 [.t 58, .t 59, .t 10])),
 .ev (some 11) none (.w (.mv (.t 60)))])
 (.seq (.reg [.ev (some 12) none (.w (.mv (.k (.c (.i (.ofNat 0))))))])
 (.blk 1 (.loop (.seq (.seq (.reg [.ev (some 61) none (.w (.mv (.t 12))),
 .ev (some 62) none (.w (.mv (.t 11))),
 .ev (some 63) none (.w (.lnl (.t 62))),
 .ev (some 64) none (.w (.bin .lss (.t 61) (.t 63)))])
 (.cond (.t 64) .skip (.exit 1)))
 (.seq (.blk 2 (.seq (.reg [.ev (some 68) none (.w (.mv (.t 0))),
 .ev (some 69) none (.w (.fad 4 (.t 5))),
 .ev (some 70) none (.r (.ld none (.t 69))),
 .ev (some 71) none (.w (.mv (.t 12))),
 .ev (some 72) none (.w (.iad 5 (.t 70) (.t 71))),
 .ev (some 73) none (.r (.ld (some 5) (.t 72))),
 .ev (some 74) none (.w (.mv (.t 2))),
 .ev (some 75) none (.w (.mv (.t 3))),
 .ev (some 76) none (.m (.call 223 [.t 68, .t 73, .t 74, .t 75])),
 .ev (some 67) none (.w (.mv (.t 76))),
 .ev (some 77) none (.w (.ext 0 (.t 67))),
 .ev (some 78) none (.w (.ext 1 (.t 67))),
 .ev (some 13) none (.a (.al [.i (.ofNat 0), .i (.ofNat 0), .s [], .s [], .i (.ofNat 0), .i (.ofNat 0), .s [], .l0, .l0, .l0, .l0])),
 .ev none none (.m (.st 11 (.t 13) (.t 77))),
 .ev (some 14) none (.w (.mv (.t 78)))])
 (.seq (.reg [.ev (some 79) none (.w (.mv (.t 14))),
 .ev (some 2) none (.w (.mv (.t 79)))])
 (.seq (.reg [.ev (some 80) none (.w (.mv (.t 0))),
 .ev (some 81) none (.w (.fad 4 (.t 13))),
 .ev (some 82) none (.r (.ld (some 4) (.t 81))),
 .ev (some 83) none (.w (.mv (.t 11))),
 .ev (some 84) none (.w (.mv (.t 12))),
 .ev (some 85) none (.w (.iad 4 (.t 83) (.t 84))),
 .ev (some 86) none (.r (.ld (some 4) (.t 85))),
 .mk (some 87) none (.call 184 [.t 80, .t 82, .t 86]) [] []])
 (.reg [.ev (some 88) none (.w (.fad 10 (.t 10))),
 .ev (some 89) none (.r (.ld none (.t 88))),
 .ev (some 90) none (.r (.ld (some 11) (.t 13))),
 .ev (some 91) none (.w (.lnl (.t 89))),
 .ev (some 92) none (.a (.bsl 11 1 [.i (.ofNat 0), .i (.ofNat 0), .s [], .s [], .i (.ofNat 0), .i (.ofNat 0), .s [], .l0, .l0, .l0, .l0] [(0, 11, .k (.a [.i (.ofNat 0), .i (.ofNat 0), .s [], .s [], .i (.ofNat 0), .i (.ofNat 0), .s [], .l0, .l0, .l0, .l0]))])),
 .mk (some 93) none (.app 11 176 (.t 89) (.t 92)) [] [],
 .ev (some 94) none (.w (.iad 11 (.t 93) (.t 91))),
 .ev (some 95) none (.w (.fad 10 (.t 10))),
 .e2  11 (.t 94) (.t 90)  1 (.t 95) (.t 93)])))))
 (.reg [.ev (some 65) none (.w (.mv (.t 12))),
 .ev (some 66) none (.w (.bin .add (.t 65) (.k (.c (.i (.ofNat 1)))))),
 .ev (some 12) none (.w (.mv (.t 66)))]))))))) (.seq (.reg [.ev (some 31) none (.w (.mv (.t 0))),
 .ev (some 32) none (.m (.call 181 [.t 31])),
 .ev (some 33) none (.w (.fad 4 (.t 10))),
 .ev none none (.m (.st 4 (.t 33) (.t 32)))])
 (.seq (.reg [.ev (some 34) none (.w (.fad 0 (.t 5))),
 .ev (some 35) none (.r (.ld none (.t 34))),
 .ev (some 36) none (.w (.bin .eql (.t 35) (.k (.c (.i (.ofNat 18))))))])
 (.cond (.t 36) (.seq (.seq (.reg [.ev (some 37) none (.w (.mv (.t 2))),
 .ev (some 38) none (.w (.fad 2 (.t 5))),
 .ev (some 39) none (.r (.ld none (.t 38))),
 .ev (some 40) none (.m (.call 178 [.t 37, .t 39])),
 .ev (some 41) none (.w (.mv (.t 3))),
 .ev (some 42) none (.w (.bin .geq (.t 40) (.t 41)))])
 (.cond (.t 42) (.reg [.ev (some 43) none (.w (.mv (.t 0))),
 .ev (some 44) none (.m (.call 118 [.t 43, .k (.c (.i (.ofNat 3)))]))]) .skip))
 (.reg [.ev (some 45) none (.w (.mv (.t 2))),
 .ev (some 46) none (.w (.fad 2 (.t 5))),
 .ev (some 47) none (.r (.ld none (.t 46))),
 .ev (some 48) none (.w (.fad 4 (.t 10))),
 .ev (some 49) none (.r (.ld (some 4) (.t 48))),
 .ev (some 50) none (.w (.build [.l0, .i (.ofNat 0), .i (.ofNat 0), .s [], .l0] [(1, 4, .t 49)])),
 .ev (some 51) none (.m (.call 182 [.t 45, .t 47, .t 50])),
 .ev (some 2) none (.w (.mv (.t 51)))])) .skip)))))))))
 (.seq (.reg [.ev (some 96) none (.r (.ld (some 11) (.t 10))),
 .ev (some 97) none (.w (.mv (.t 2))),
 .ev none none (.m (.st 11 (.t 8) (.t 96))),
 .ev (some 9) none (.w (.mv (.t 97)))])
 .ret))))), [.c (some 11) 8, .t 9]⟩
theorem c223 : cFn ty ibs (cDraw ty ibs) [[.ev 0, .ev 1, .ev 2, .ev 3, .ev 4, .ev 5, .ev 6, .ev 7], [.ev 0, .ev 1, .ev 2, .ev 3, .ev 4, .ev 5, .ev 6, .ev 8, .e2 7 9]] f223 = some q223 := by decide +kernel
noncomputable def q224 : MFn := ⟨(.seq (.reg [.ev (some 2) none (.w (.mv (.k (.c .l0))))])
 (.seq (.reg [.ev (some 5) none (.a (.bsl 1 0 [] [])),
 .ev (some 3) none (.w (.mv (.t 5)))])
 (.seq (.seq (.reg [.ev (some 4) none (.w (.mv (.k (.c (.i (.ofNat 0))))))])
 (.blk 0 (.loop (.seq (.seq (.reg [.ev (some 6) none (.w (.mv (.t 4))),
 .ev (some 7) none (.w (.mv (.t 0))),
 .ev (some 8) none (.w (.bin .lss (.t 6) (.t 7)))])
 (.cond (.t 8) .skip (.exit 0)))
 (.seq (.blk 1 (.reg [.ev (some 11) none (.w (.mv (.t 3))),
 .ev (some 12) none (.w (.mv (.t 4))),
 .ev (some 13) none (.a (.bsl 1 1 [.i (.ofNat 0)] [(0, 1, .t 12)])),
 .ev (some 14) none (.m (.app 1 8 (.t 11) (.t 13))),
 .ev (some 3) none (.w (.mv (.t 14)))]))
 (.reg [.ev (some 9) none (.w (.mv (.t 4))),
 .ev (some 10) none (.w (.bin .add (.t 9) (.k (.c (.i (.ofNat 1)))))),
 .ev (some 4) none (.w (.mv (.t 10)))]))))))
 (.seq (.reg [.ev (some 15) none (.w (.mv (.t 3))),
 .ev (some 2) none (.w (.mv (.t 15)))])
 .ret)))), [.t 2]⟩
theorem c224 : cFn ty ibs (cDraw ty ibs) [] f224 = some q224 := by decide +kernel
noncomputable def q225 : MFn := ⟨(.seq (.reg [.ev (some 1) none (.a (.box (.t 0))),
 .ev (some 2) none (.w (.mv (.k (.c (.i (.ofNat 0))))))])
 (.seq (.reg [.ev (some 3) none (.w (.mv (.k (.c (.i (.ofNat 1))))))])
 (.seq (.seq (.reg [.ev (some 4) none (.w (.mv (.k (.c (.i (.ofNat 0))))))])
 (.blk 0 (.loop (.seq (.seq (.reg [.ev (some 5) none (.w (.mv (.t 4))),
 .ev (some 6) none (.w (.fad 3 (.t 1))),
 .ev (some 7) none (.r (.ld none (.t 6))),
 .ev (some 8) none (.w (.lnl (.t 7))),
 .ev (some 9) none (.w (.bin .lss (.t 5) (.t 8)))])
 (.cond (.t 9) .skip (.exit 0)))
 (.seq (.blk 1 (.reg [.ev (some 12) none (.w (.mv (.t 3))),
 .ev (some 13) none (.w (.fad 3 (.t 1))),
 .ev (some 14) none (.r (.ld none (.t 13))),
 .ev (some 15) none (.w (.mv (.t 4))),
 .ev (some 16) none (.w (.iad 4 (.t 14) (.t 15))),
 .ev (some 17) none (.r (.ld (some 4) (.t 16))),
 .ev (some 18) none (.m (.call 225 [.t 17])),
 .ev (some 19) none (.w (.bin .add (.t 12) (.t 18))),
 .ev (some 3) none (.w (.mv (.t 19)))]))
 (.reg [.ev (some 10) none (.w (.mv (.t 4))),
 .ev (some 11) none (.w (.bin .add (.t 10) (.k (.c (.i (.ofNat 1)))))),
 .ev (some 4) none (.w (.mv (.t 11)))]))))))
 (.seq (.reg [.ev (some 20) none (.w (.mv (.t 3))),
 .ev (some 2) none (.w (.mv (.t 20)))])
 .ret)))), [.t 2]⟩
theorem c225 : cFn ty ibs (cDraw ty ibs) [] f225 = some q225 := by decide +kernel
noncomputable def q226 : MFn := ⟨(.seq (.reg [.ev (some 1) none (.a (.box (.t 0))),
 .ev (some 2) none (.w (.mv (.k (.c (.b false)))))])
 (.seq (.seq (.reg [.ev (some 3) none (.w (.mv (.k (.c (.i (.ofNat 0))))))])
 (.blk 0 (.loop (.seq (.seq (.reg [.ev (some 5) none (.w (.mv (.t 3))),
 .ev (some 6) none (.w (.fad 3 (.t 1))),
 .ev (some 7) none (.r (.ld none (.t 6))),
 .ev (some 8) none (.w (.lnl (.t 7))),
 .ev (some 9) none (.w (.bin .lss (.t 5) (.t 8)))])
 (.cond (.t 9) .skip (.exit 0)))
 (.seq (.blk 1 (.seq (.reg [.ev (some 12) none (.w (.fad 3 (.t 1))),
 .ev (some 13) none (.r (.ld none (.t 12))),
 .ev (some 14) none (.w (.mv (.t 3))),
 .ev (some 15) none (.w (.iad 4 (.t 13) (.t 14))),
 .ev (some 16) none (.r (.ld (some 4) (.t 15))),
 .ev (some 17) none (.m (.call 226 [.t 16])),
 .ev (some 18) none (.w (.un .not (.t 17)))])
 (.cond (.t 18) (.seq (.reg [.ev (some 2) none (.w (.mv (.k (.c (.b false)))))])
 .ret) .skip)))
 (.reg [.ev (some 10) none (.w (.mv (.t 3))),
 .ev (some 11) none (.w (.bin .add (.t 10) (.k (.c (.i (.ofNat 1)))))),
 .ev (some 3) none (.w (.mv (.t 11)))]))))))
 (.seq (.reg [.ev (some 19) none (.w (.fad 3 (.t 1))),
 .ev (some 20) none (.r (.ld none (.t 19))),
 .ev (some 21) none (.w (.lnl (.t 20))),
 .ev (some 4) none (.w (.mv (.t 21)))])
 (.seq (.seq (.reg [.ev (some 22) none (.w (.fad 0 (.t 1))),
 .ev (some 23) none (.r (.ld none (.t 22)))])
 (.blk 2 (.seq (.reg [.ev (some 25) none (.w (.bin .eql (.t 23) (.k (.c (.i (.ofNat 1)))))),
 .ev (some 24) none (.w (.mv (.t 25)))])
 (.cond (.t 24) (.seq (.reg [.ev (some 26) none (.w (.fad 1 (.t 1))),
 .ev (some 27) none (.r (.ld none (.t 26))),
 .ev (some 28) none (.w (.bin .eql (.t 27) (.k (.c (.i (.ofNat 0)))))),
 .ev (some 29) none (.w (.mv (.t 28))),
 .ev (some 30) (some (29, true)) (.w (.fad 2 (.t 1))),
 .ev (some 31) (some (29, true)) (.r (.ld none (.t 30))),
 .ev (some 32) (some (29, true)) (.w (.bin .eql (.t 31) (.k (.c (.s []))))),
 .ev (some 33) none (.w (.pick (.t 29) (.t 32) (.k (.c (.b false))))),
 .ev (some 34) none (.w (.mv (.t 33))),
 .ev (some 35) (some (34, true)) (.w (.mv (.t 4))),
 .ev (some 36) (some (34, true)) (.w (.bin .eql (.t 35) (.k (.c (.i (.ofNat 0)))))),
 .ev (some 37) none (.w (.pick (.t 34) (.t 36) (.k (.c (.b false))))),
 .ev (some 2) none (.w (.mv (.t 37)))])
 .ret) (.seq (.reg [.ev (some 39) none (.w (.bin .eql (.t 23) (.k (.c (.i (.ofNat 2)))))),
 .ev (some 38) none (.w (.mv (.t 39)))])
 (.cond (.t 38) (.seq (.reg [.ev (some 40) none (.w (.fad 1 (.t 1))),
 .ev (some 41) none (.r (.ld none (.t 40))),
 .ev (some 42) none (.w (.bin .geq (.t 41) (.k (.c (.i (.ofNat 0)))))),
 .ev (some 43) none (.w (.mv (.t 42))),
 .ev (some 44) (some (43, true)) (.w (.fad 2 (.t 1))),
 .ev (some 45) (some (43, true)) (.r (.ld none (.t 44))),
 .ev (some 46) (some (43, true)) (.w (.bin .eql (.t 45) (.k (.c (.s []))))),
 .ev (some 47) none (.w (.pick (.t 43) (.t 46) (.k (.c (.b false))))),
 .ev (some 48) none (.w (.mv (.t 47))),
 .ev (some 49) (some (48, true)) (.w (.mv (.t 4))),
 .ev (some 50) (some (48, true)) (.w (.bin .eql (.t 49) (.k (.c (.i (.ofNat 0)))))),
 .ev (some 51) none (.w (.pick (.t 48) (.t 50) (.k (.c (.b false))))),
 .ev (some 2) none (.w (.mv (.t 51)))])
 .ret) (.seq (.reg [.ev (some 53) none (.w (.bin .eql (.t 23) (.k (.c (.i (.ofNat 3)))))),
 .ev (some 52) none (.w (.mv (.t 53)))])
 (.cond (.t 52) (.seq (.reg [.ev (some 54) none (.w (.fad 1 (.t 1))),
 .ev (some 55) none (.r (.ld none (.t 54))),
 .ev (some 56) none (.w (.bin .eql (.t 55) (.k (.c (.i (.ofNat 0)))))),
 .ev (some 57) none (.w (.mv (.t 56))),
 .ev (some 58) (some (57, true)) (.w (.fad 2 (.t 1))),
 .ev (some 59) (some (57, true)) (.r (.ld none (.t 58))),
 .ev (some 60) (some (57, true)) (.w (.bin .eql (.t 59) (.k (.c (.s []))))),
 .ev (some 61) none (.w (.pick (.t 57) (.t 60) (.k (.c (.b false))))),
 .ev (some 62) none (.w (.mv (.t 61))),
 .ev (some 63) (some (62, true)) (.w (.mv (.t 4))),
 .ev (some 64) (some (62, true)) (.w (.bin .eql (.t 63) (.k (.c (.i (.ofNat 2)))))),
 .ev (some 65) none (.w (.pick (.t 62) (.t 64) (.k (.c (.b false))))),
 .ev (some 2) none (.w (.mv (.t 65)))])
 .ret) .skip))))))))
 (.seq (.reg [.ev (some 66) none (.w (.fad 0 (.t 1))),
 .ev (some 67) none (.r (.ld none (.t 66))),
 .ev (some 68) none (.w (.bin .eql (.t 67) (.k (.c (.i (.ofNat 4)))))),
 .ev (some 69) none (.w (.mv (.t 68))),
 .ev (some 70) (some (69, true)) (.w (.fad 1 (.t 1))),
 .ev (some 71) (some (69, true)) (.r (.ld none (.t 70))),
 .ev (some 72) (some (69, true)) (.w (.bin .eql (.t 71) (.k (.c (.i (.ofNat 0)))))),
 .ev (some 73) none (.w (.pick (.t 69) (.t 72) (.k (.c (.b false))))),
 .ev (some 74) none (.w (.mv (.t 73))),
 .ev (some 75) (some (74, true)) (.w (.fad 2 (.t 1))),
 .ev (some 76) (some (74, true)) (.r (.ld none (.t 75))),
 .ev (some 77) (some (74, true)) (.w (.bin .neq (.t 76) (.k (.c (.s []))))),
 .ev (some 78) none (.w (.pick (.t 74) (.t 77) (.k (.c (.b false))))),
 .ev (some 2) none (.w (.mv (.t 78)))])
 .ret))))), [.t 2]⟩
theorem c226 : cFn ty ibs (cDraw ty ibs) [] f226 = some q226 := by decide +kernel
noncomputable def q228 : MFn := ⟨(.seq (.reg [.ev (some 2) none (.a (.al [.i (.ofNat 0), .i (.ofNat 0), .s [], .s [], .l0]))])
 (.seq (.seq (.reg [.ev (some 7) none (.w (.mv (.t 0))),
 .ev (some 8) none (.m (.call 15 [.t 7, .k (.c (.s [112, 117, 116]))]))])
 (.cond (.t 8) (.seq (.reg [.ev (some 9) none (.w (.mv (.t 0))),
 .ev (some 10) none (.m (.call 241 [.t 9])),
 .ev (some 3) none (.a (.al [.i (.ofNat 0), .i (.ofNat 0), .s [], .s [], .l0])),
 .ev none none (.m (.st 5 (.t 3) (.t 10)))])
 (.seq (.reg [.ev (some 11) none (.r (.ld (some 5) (.t 3))),
 .ev (some 12) none (.a (.bsl 5 1 [.i (.ofNat 0), .i (.ofNat 0), .s [], .s [], .l0] [(0, 5, .t 11)])),
 .ev (some 13) none (.w (.build [.i (.ofNat 0), .i (.ofNat 0), .s [], .s [], .l0] [(0, 1, .k (.c (.i (.ofNat 16)))), (4, 1, .t 12)])),
 .ev none none (.m (.st 5 (.t 2) (.t 13)))])
 .ret)) .skip))
 (.seq (.reg [.ev (some 14) none (.w (.mv (.t 0))),
 .ev (some 15) none (.m (.call 130 [.t 14])),
 .ev (some 4) none (.w (.mv (.t 15)))])
 (.seq (.reg [.ev (some 16) none (.w (.mv (.t 0))),
 .ev (some 17) none (.m (.call 241 [.t 16])),
 .ev (some 5) none (.a (.al [.i (.ofNat 0), .i (.ofNat 0), .s [], .s [], .l0])),
 .ev none none (.m (.st 5 (.t 5) (.t 17)))])
 (.seq (.blk 0 (.loop (.seq (.seq (.reg [.ev (some 18) none (.w (.mv (.t 0))),
 .ev (some 19) none (.m (.call 242 [.t 18]))])
 (.cond (.t 19) .skip (.exit 0)))
 (.blk 1 (.seq (.reg [.ev (some 20) none (.w (.mv (.t 0))),
 .ev (some 21) none (.m (.call 241 [.t 20])),
 .ev (some 6) none (.a (.al [.i (.ofNat 0), .i (.ofNat 0), .s [], .s [], .l0])),
 .ev none none (.m (.st 5 (.t 6) (.t 21)))])
 (.seq (.reg [.ev (some 22) none (.w (.mv (.t 4)))])
 (.cond (.t 22) (.reg [.ev (some 23) none (.w (.fad 4 (.t 5))),
 .ev (some 24) none (.r (.ld none (.t 23))),
 .ev (some 25) none (.r (.ld (some 5) (.t 6))),
 .ev (some 26) none (.a (.bsl 5 1 [.i (.ofNat 0), .i (.ofNat 0), .s [], .s [], .l0] [(0, 5, .t 25)])),
 .ev (some 27) none (.m (.app 5 72 (.t 24) (.t 26))),
 .ev (some 28) none (.w (.fad 4 (.t 5))),
 .ev none none (.m (.st 1 (.t 28) (.t 27)))]) (.reg [.ev (some 29) none (.r (.ld (some 5) (.t 5))),
 .ev (some 30) none (.r (.ld (some 5) (.t 6))),
 .ev (some 31) none (.a (.bsl 5 2 [.i (.ofNat 0), .i (.ofNat 0), .s [], .s [], .l0, .i (.ofNat 0), .i (.ofNat 0), .s [], .s [], .l0] [(0, 5, .t 29), (5, 5, .t 30)])),
 .ev (some 32) none (.w (.build [.i (.ofNat 0), .i (.ofNat 0), .s [], .s [], .l0] [(0, 1, .k (.c (.i (.ofNat 4)))), (4, 1, .t 31)])),
 .ev none none (.m (.st 5 (.t 5) (.t 32)))]))))))))
 (.seq (.reg [.ev (some 33) none (.r (.ld (some 5) (.t 5))),
 .ev none none (.m (.st 5 (.t 2) (.t 33)))])
 .ret)))))), [.c (some 5) 2]⟩
theorem c228 : cFn ty ibs (cDraw ty ibs) [] f228 = some q228 := by decide +kernel
noncomputable def q229 : MFn := ⟨(.seq (.reg [.ev (some 4) none (.w (.mv (.k (.c (.i (.ofNat 0))))))])
 (.seq (.seq (.reg [.ev (some 6) none (.w (.mv (.t 0))),
 .ev (some 7) none (.w (.lnl (.t 6))),
 .ev (some 8) none (.w (.mv (.k (.c (.i (.ofNat 0))))))])
 (.blk 0 (.loop (.seq (.reg [.ev (some 9) none (.w (.bin .lss (.t 8) (.t 7)))])
 (.seq (.cond (.t 9) .skip (.exit 0))
 (.seq (.blk 1 (.seq (.reg [.ev (some 10) none (.w (.mv (.t 8))),
 .ev (some 5) none (.w (.mv (.t 10)))])
 (.seq (.reg [.ev (some 11) none (.w (.mv (.t 1))),
 .ev (some 12) none (.w (.mv (.t 0))),
 .ev (some 13) none (.w (.mv (.t 5))),
 .ev (some 14) none (.w (.iad 5 (.t 12) (.t 13))),
 .ev (some 15) none (.r (.ld (some 5) (.t 14))),
 .ev (some 16) none (.m (.cal (.t 11) [.t 15]))])
 (.cond (.t 16) (.seq (.reg [.ev (some 17) none (.w (.mv (.t 5))),
 .ev (some 4) none (.w (.mv (.t 17)))])
 .ret) .skip))))
 (.reg [.ev (some 18) none (.w (.bin .add (.t 8) (.k (.c (.i (.ofNat 1)))))),
 .ev (some 8) none (.w (.mv (.t 18)))])))))))
 (.seq (.reg [.ev (some 4) none (.w (.mv (.k (.c (.i (.negSucc 0))))))])
 .ret))), [.t 4]⟩
theorem c229 : cFn ty ibs (cDraw ty ibs) [] f229 = some q229 := by decide +kernel
noncomputable def q230 : MFn := ⟨(.seq (.reg [.ev (some 1) none (.a (.box (.t 0))),
 .ev (some 2) none (.w (.mv (.k (.c .l0))))])
 (.seq (.reg [.ev (some 4) none (.r (.ld (some 4) (.t 1))),
 .ev (some 5) none (.m (.call 243 [.t 4, .k (.c .l0)])),
 .ev (some 3) none (.w (.mv (.t 5)))])
 (.seq (.reg [.ev (some 6) none (.w (.mv (.t 3))),
 .ev (some 7) none (.m (.call 244 [.t 6]))])
 (.seq (.reg [.ev (some 8) none (.w (.mv (.t 3))),
 .ev (some 2) none (.w (.mv (.t 8)))])
 .ret)))), [.t 2]⟩
theorem c230 : cFn ty ibs (cDraw ty ibs) [] f230 = some q230 := by decide +kernel
noncomputable def q231 : MFn := ⟨(.seq (.reg [.ev (some 4) none (.w (.mv (.k (.c (.b false)))))])
 (.seq (.reg [.ev (some 5) none (.w (.mv (.t 0))),
 .ev (some 6) none (.w (.mv (.t 1))),
 .ev (some 7) none (.m (.call 209 [.t 5, .t 6])),
 .ev (some 8) none (.w (.bin .geq (.t 7) (.k (.c (.i (.ofNat 0)))))),
 .ev (some 4) none (.w (.mv (.t 8)))])
 .ret)), [.t 4]⟩
theorem c231 : cFn ty ibs (cDraw ty ibs) [] f231 = some q231 := by decide +kernel
noncomputable def q232 : MFn := ⟨(.seq (.reg [.ev (some 1) none (.a (.box (.t 0))),
 .ev (some 2) none (.w (.mv (.k (.c (.b false)))))])
 (.seq (.reg [.ev (some 3) none (.w (.fad 1 (.t 1))),
 .ev (some 4) none (.r (.ld (some 4) (.t 3))),
 .ev (some 5) none (.m (.call 156 [.t 4])),
 .ev (some 6) none (.w (.bin .gtr (.t 5) (.k (.c (.i (.ofNat 200)))))),
 .ev (some 2) none (.w (.mv (.t 6)))])
 .ret)), [.t 2]⟩
theorem c232 : cFn ty ibs (cDraw ty ibs) [] f232 = some q232 := by decide +kernel
noncomputable def q233 : MFn := ⟨(.seq (.reg [.ev (some 4) none (.w (.mv (.k (.c .l0))))])
 (.seq (.reg [.ev (some 8) none (.w (.mv (.t 0))),
 .ev (some 9) none (.w (.mv (.t 1))),
 .ev (some 10) none (.m (.call 245 [.t 8, .t 9])),
 .ev (some 5) none (.w (.mv (.t 10)))])
 (.seq (.seq (.reg [.ev (some 11) none (.w (.mv (.t 5))),
 .ev (some 12) none (.w (.bin .eql (.t 11) (.k (.c (.i (.negSucc 0))))))])
 (.cond (.t 12) (.seq (.reg [.ev (some 13) none (.w (.mv (.t 0))),
 .ev (some 4) none (.w (.mv (.t 13)))])
 .ret) .skip))
 (.seq (.seq (.reg [.ev (some 14) none (.w (.mv (.t 5))),
 .ev (some 15) none (.w (.bin .add (.t 14) (.k (.c (.i (.ofNat 1)))))),
 .ev (some 6) none (.w (.mv (.t 15)))])
 (.blk 0 (.loop (.seq (.seq (.reg [.ev (some 16) none (.w (.mv (.t 6))),
 .ev (some 17) none (.w (.mv (.t 0))),
 .ev (some 18) none (.w (.lnl (.t 17))),
 .ev (some 19) none (.w (.bin .lss (.t 16) (.t 18)))])
 (.cond (.t 19) .skip (.exit 0)))
 (.seq (.blk 1 (.seq (.reg [.ev (some 22) none (.w (.mv (.t 0))),
 .ev (some 23) none (.w (.mv (.t 6))),
 .ev (some 24) none (.w (.iad 1 (.t 22) (.t 23))),
 .ev (some 25) none (.r (.ld none (.t 24))),
 .ev (some 7) none (.w (.mv (.t 25)))])
 (.seq (.reg [.ev (some 26) none (.w (.mv (.t 1))),
 .ev (some 27) none (.w (.mv (.t 7))),
 .ev (some 28) none (.m (.cal (.t 26) [.t 27])),
 .ev (some 29) none (.w (.un .not (.t 28)))])
 (.cond (.t 29) (.seq (.reg [.ev (some 30) none (.w (.mv (.t 0))),
 .ev (some 31) none (.w (.mv (.t 5))),
 .ev (some 32) none (.w (.mv (.t 7))),
 .ev (some 33) none (.w (.iad 1 (.t 30) (.t 31))),
 .ev none none (.m (.st 1 (.t 33) (.t 32)))])
 (.reg [.ev (some 34) none (.w (.mv (.t 5))),
 .ev (some 35) none (.w (.bin .add (.t 34) (.k (.c (.i (.ofNat 1)))))),
 .ev (some 5) none (.w (.mv (.t 35)))])) .skip))))
 (.reg [.ev (some 20) none (.w (.mv (.t 6))),
 .ev (some 21) none (.w (.bin .add (.t 20) (.k (.c (.i (.ofNat 1)))))),
 .ev (some 6) none (.w (.mv (.t 21)))]))))))
 (.seq (.reg [.ev (some 36) none (.w (.mv (.t 0))),
 .ev (some 37) none (.w (.mv (.t 5))),
 .ev (some 38) none (.w (.sll 1 (.t 36) (some (.t 37)) none none)),
 .ev none none (.m (.clr 1 [.i (.ofNat 0)] (.t 38)))])
 (.seq (.reg [.ev (some 39) none (.w (.mv (.t 0))),
 .ev (some 40) none (.w (.mv (.t 5))),
 .ev (some 41) none (.w (.sll 1 (.t 39) none (some (.t 40)) none)),
 .ev (some 4) none (.w (.mv (.t 41)))])
 .ret)))))), [.t 4]⟩
theorem c233 : cFn ty ibs (cDraw ty ibs) [] f233 = some q233 := by decide +kernel
noncomputable def q234 : MFn := ⟨(.seq (.reg [.ev (some 2) none (.a (.box (.t 0))),
 .ev (some 3) none (.w (.mv (.k (.c (.b false)))))])
 (.seq (.reg [.ev (some 4) none (.r (.ld none (.t 1))),
 .ev (some 5) none (.w (.mkf 236 [.t 2])),
 .ev (some 6) none (.m (.call 235 [.t 4, .t 5])),
 .ev (some 3) none (.w (.mv (.t 6)))])
 .ret)), [.t 3]⟩
theorem c234 : cFn ty ibs (cDraw ty ibs) [] f234 = some q234 := by decide +kernel
noncomputable def q235 : MFn := ⟨(.seq (.reg [.ev (some 4) none (.w (.mv (.k (.c (.b false)))))])
 (.seq (.reg [.ev (some 5) none (.w (.mv (.t 0))),
 .ev (some 6) none (.w (.mv (.t 1))),
 .ev (some 7) none (.m (.call 246 [.t 5, .t 6])),
 .ev (some 8) none (.w (.bin .geq (.t 7) (.k (.c (.i (.ofNat 0)))))),
 .ev (some 4) none (.w (.mv (.t 8)))])
 .ret)), [.t 4]⟩
theorem c235 : cFn ty ibs (cDraw ty ibs) [] f235 = some q235 := by decide +kernel
noncomputable def q236 : MFn := ⟨(.seq (.reg [.ev (some 2) none (.a (.box (.t 0))),
 .ev (some 3) none (.w (.mv (.k (.c (.b false)))))])
 (.seq (.reg [.ev (some 4) none (.w (.fad 0 (.t 2))),
 .ev (some 5) none (.r (.ld none (.t 4))),
 .ev (some 6) none (.r (.ld none (.t 1))),
 .mk (some 7) none (.call 90 [.t 5, .t 6]) [] [],
 .ev (some 8) none (.w (.un .not (.t 7))),
 .ev (some 9) none (.w (.mv (.t 8))),
 .ev (some 10) (some (9, true)) (.w (.fad 1 (.t 2))),
 .ev (some 11) (some (9, true)) (.r (.ld (some 4) (.t 10))),
 .ev (some 13) (some (9, true)) (.r (.ld none (.t 1))),
 .mk (some 12) (some (9, true)) (.call 230 [.t 11]) [(13, .ld none (.t 1))] [],
 .mk (some 14) (some (9, true)) (.call 90 [.t 12, .t 13]) [] [],
 .ev (some 15) none (.w (.pick (.t 9) (.t 14) (.k (.c (.b false))))),
 .ev (some 3) none (.w (.mv (.t 15)))])
 .ret)), [.t 3]⟩
theorem c236 : cFn ty ibs (cDraw ty ibs) [[.ev 0, .ev 1, .ev 2, .ev 3, .ev 4, .ev 5, .ev 6, .ev 7, .ev 9, .ev 8, .ev 10, .ev 11, .ev 12]] f236 = some q236 := by decide +kernel
noncomputable def q237 : MFn := ⟨(.seq (.reg [.ev (some 2) none (.a (.al [.i (.ofNat 0), .i (.ofNat 0), .s [], .s [], .l0]))])
 (.seq (.seq (.reg [.ev (some 6) none (.w (.mv (.t 0))),
 .ev (some 7) none (.m (.call 32 [.t 6, .k (.c (.s [112, 117, 116]))]))])
 (.cond (.t 7) (.seq (.reg [.ev (some 8) none (.w (.mv (.t 0))),
 .ev (some 9) none (.m (.call 101 [.t 8]))])
 (.seq (.reg [.ev (some 10) none (.w (.mv (.t 0))),
 .ev (some 11) none (.m (.call 247 [.t 10])),
 .ev (some 12) none (.a (.bsl 5 1 [.i (.ofNat 0), .i (.ofNat 0), .s [], .s [], .l0] [(0, 5, .t 11)])),
 .ev (some 13) none (.m (.call 105 [.k (.c (.i (.ofNat 16))), .t 12])),
 .ev none none (.m (.st 5 (.t 2) (.t 13)))])
 .ret)) .skip))
 (.seq (.seq (.reg [.ev (some 14) none (.w (.mv (.t 0))),
 .ev (some 15) none (.m (.call 166 [.t 14]))])
 (.cond (.t 15) (.seq (.reg [.ev (some 16) none (.w (.mv (.t 0))),
 .ev (some 17) none (.m (.call 96 [.t 16, .k (.c (.b true))])),
 .ev (some 18) none (.w (.build [.i (.ofNat 0), .i (.ofNat 0), .s [], .s [], .l0] [(0, 1, .k (.c (.i (.ofNat 15)))), (2, 1, .t 17)])),
 .ev (some 3) none (.a (.al [.i (.ofNat 0), .i (.ofNat 0), .s [], .s [], .l0])),
 .ev none none (.m (.st 5 (.t 3) (.t 18)))])
 (.seq (.blk 0 (.loop (.seq (.seq (.reg [.ev (some 19) none (.w (.mv (.t 0))),
 .ev (some 20) none (.m (.call 218 [.t 19]))])
 (.cond (.t 20) .skip (.exit 0)))
 (.blk 1 (.reg [.ev (some 21) none (.w (.fad 4 (.t 3))),
 .ev (some 22) none (.r (.ld none (.t 21))),
 .ev (some 23) none (.w (.mv (.t 0))),
 .mk (some 24) none (.call 247 [.t 23]) [(22, .ld none (.t 21))] [],
 .ev (some 25) none (.a (.bsl 5 1 [.i (.ofNat 0), .i (.ofNat 0), .s [], .s [], .l0] [(0, 5, .t 24)])),
 .mk (some 26) none (.app 5 72 (.t 22) (.t 25)) [] [],
 .ev (some 27) none (.w (.fad 4 (.t 3))),
 .mk none none (.st 1 (.t 27) (.t 26)) [] []])))))
 (.seq (.reg [.ev (some 28) none (.r (.ld (some 5) (.t 3))),
 .ev none none (.m (.st 5 (.t 2) (.t 28)))])
 .ret))) .skip))
 (.seq (.reg [.ev (some 29) none (.w (.mv (.t 0))),
 .ev (some 30) none (.m (.call 247 [.t 29])),
 .ev (some 4) none (.a (.al [.i (.ofNat 0), .i (.ofNat 0), .s [], .s [], .l0])),
 .ev none none (.m (.st 5 (.t 4) (.t 30)))])
 (.seq (.blk 2 (.loop (.seq (.seq (.reg [.ev (some 31) none (.w (.mv (.t 0))),
 .ev (some 32) none (.m (.call 218 [.t 31]))])
 (.cond (.t 32) .skip (.exit 2)))
 (.blk 3 (.seq (.reg [.ev (some 33) none (.w (.mv (.t 0))),
 .ev (some 34) none (.m (.call 247 [.t 33])),
 .ev (some 5) none (.a (.al [.i (.ofNat 0), .i (.ofNat 0), .s [], .s [], .l0])),
 .ev none none (.m (.st 5 (.t 5) (.t 34)))])
 (.reg [.ev (some 35) none (.r (.ld (some 5) (.t 4))),
 .ev (some 36) none (.r (.ld (some 5) (.t 5))),
 .ev (some 37) none (.a (.bsl 5 2 [.i (.ofNat 0), .i (.ofNat 0), .s [], .s [], .l0, .i (.ofNat 0), .i (.ofNat 0), .s [], .s [], .l0] [(0, 5, .t 35), (5, 5, .t 36)])),
 .ev (some 38) none (.m (.call 105 [.k (.c (.i (.ofNat 4))), .t 37])),
 .ev none none (.m (.st 5 (.t 4) (.t 38)))]))))))
 (.seq (.reg [.ev (some 39) none (.r (.ld (some 5) (.t 4))),
 .ev none none (.m (.st 5 (.t 2) (.t 39)))])
 .ret)))))), [.c (some 5) 2]⟩
theorem c237 : cFn ty ibs (cDraw ty ibs) [[.ev 0, .ev 1, .ev 2, .ev 3, .ev 4, .ev 5, .ev 6, .ev 7]] f237 = some q237 := by decide +kernel
noncomputable def q238 : MFn := ⟨(.seq (.reg [.ev (some 2) none (.a (.box (.t 0))),
 .ev (some 4) none (.w (.mv (.k (.c (.b false)))))])
 (.seq (.seq (.reg [.ev (some 6) none (.w (.fad 0 (.t 2))),
 .ev (some 7) none (.r (.ld none (.t 6))),
 .ev (some 8) none (.w (.bin .eql (.t 7) (.k (.c (.i (.ofNat 2)))))),
 .ev (some 9) none (.w (.mv (.t 8))),
 .ev (some 10) (some (9, true)) (.w (.fad 1 (.t 2))),
 .ev (some 11) (some (9, true)) (.r (.ld none (.t 10))),
 .ev (some 12) (some (9, true)) (.w (.mv (.t 1))),
 .ev (some 13) (some (9, true)) (.w (.bin .eql (.t 11) (.t 12))),
 .ev (some 14) none (.w (.pick (.t 9) (.t 13) (.k (.c (.b false)))))])
 (.cond (.t 14) (.seq (.reg [.ev (some 4) none (.w (.mv (.k (.c (.b true)))))])
 .ret) .skip))
 (.seq (.seq (.reg [.ev (some 5) none (.w (.mv (.k (.c (.i (.ofNat 0))))))])
 (.blk 0 (.loop (.seq (.seq (.reg [.ev (some 15) none (.w (.mv (.t 5))),
 .ev (some 16) none (.w (.fad 3 (.t 2))),
 .ev (some 17) none (.r (.ld none (.t 16))),
 .ev (some 18) none (.w (.lnl (.t 17))),
 .ev (some 19) none (.w (.bin .lss (.t 15) (.t 18)))])
 (.cond (.t 19) .skip (.exit 0)))
 (.seq (.blk 1 (.seq (.reg [.ev (some 22) none (.w (.fad 3 (.t 2))),
 .ev (some 23) none (.r (.ld none (.t 22))),
 .ev (some 24) none (.w (.mv (.t 5))),
 .ev (some 25) none (.w (.iad 4 (.t 23) (.t 24))),
 .ev (some 26) none (.r (.ld (some 4) (.t 25))),
 .ev (some 27) none (.w (.mv (.t 1))),
 .ev (some 28) none (.m (.call 238 [.t 26, .t 27]))])
 (.cond (.t 28) (.seq (.reg [.ev (some 4) none (.w (.mv (.k (.c (.b true)))))])
 .ret) .skip)))
 (.reg [.ev (some 20) none (.w (.mv (.t 5))),
 .ev (some 21) none (.w (.bin .add (.t 20) (.k (.c (.i (.ofNat 1)))))),
 .ev (some 5) none (.w (.mv (.t 21)))]))))))
 (.seq (.reg [.ev (some 4) none (.w (.mv (.k (.c (.b false)))))])
 .ret)))), [.t 4]⟩
theorem c238 : cFn ty ibs (cDraw ty ibs) [] f238 = some q238 := by decide +kernel
noncomputable def q239 : MFn := ⟨(.seq (.reg [.ev (some 5) none (.a (.box (.t 2))),
 .ev (some 6) none (.w (.mv (.k (.c .l0)))),
 .ev (some 7) none (.w (.mv (.k (.c (.b false)))))])
 (.seq (.reg [.ev (some 10) none (.w (.mv (.t 1))),
 .ev (some 11) none (.r (.ld (some 4) (.t 5))),
 .ev (some 12) none (.w (.build [.i (.ofNat 0), .i (.ofNat 0), .i (.ofNat 0), .s [], .l0] [(0, 1, .t 10), (1, 4, .t 11)])),
 .ev (some 13) none (.a (.bsl 5 1 [.i (.ofNat 0), .i (.ofNat 0), .i (.ofNat 0), .s [], .l0] [(0, 5, .t 12)])),
 .ev (some 8) none (.w (.mv (.t 13)))])
 (.seq (.seq (.reg [.ev (some 9) none (.w (.mv (.k (.c (.i (.ofNat 0))))))])
 (.blk 0 (.loop (.seq (.seq (.reg [.ev (some 14) none (.w (.mv (.t 9))),
 .ev (some 15) none (.w (.mv (.t 0))),
 .ev (some 16) none (.w (.lnl (.t 15))),
 .ev (some 17) none (.w (.bin .lss (.t 14) (.t 16)))])
 (.cond (.t 17) .skip (.exit 0)))
 (.seq (.blk 1 (.seq (.reg [.ev (some 20) none (.w (.mv (.t 0))),
 .ev (some 21) none (.w (.mv (.t 9))),
 .ev (some 22) none (.w (.mv (.t 8))),
 .ev (some 23) none (.w (.mv (.t 0))),
 .ev (some 24) none (.w (.mv (.t 9))),
 .ev (some 25) none (.w (.iad 5 (.t 23) (.t 24))),
 .ev (some 26) none (.w (.fad 1 (.t 25))),
 .ev (some 27) none (.r (.ld (some 4) (.t 26))),
 .ev (some 28) none (.m (.call 44 [.t 22, .t 27])),
 .ev (some 29) none (.w (.iad 5 (.t 20) (.t 21))),
 .ev (some 30) none (.w (.fad 1 (.t 29))),
 .ev none none (.m (.st 4 (.t 30) (.t 28)))])
 (.seq (.reg [.ev (some 31) none (.w (.mv (.t 0))),
 .ev (some 32) none (.w (.mv (.t 9))),
 .ev (some 33) none (.w (.iad 5 (.t 31) (.t 32))),
 .ev (some 34) none (.w (.fad 1 (.t 33))),
 .ev (some 35) none (.r (.ld (some 4) (.t 34))),
 .ev (some 36) none (.m (.call 225 [.t 35])),
 .ev (some 37) none (.w (.bin .gtr (.t 36) (.k (.c (.i (.ofNat 200))))))])
 (.cond (.t 37) (.seq (.reg [.ev (some 38) none (.w (.mv (.t 0))),
 .ev (some 6) none (.w (.mv (.t 38))),
 .ev (some 7) none (.w (.mv (.k (.c (.b false)))))])
 .ret) .skip))))
 (.reg [.ev (some 18) none (.w (.mv (.t 9))),
 .ev (some 19) none (.w (.bin .add (.t 18) (.k (.c (.i (.ofNat 1)))))),
 .ev (some 9) none (.w (.mv (.t 19)))]))))))
 (.seq (.reg [.ev (some 39) none (.w (.mv (.t 0))),
 .ev (some 40) none (.w (.mv (.t 1))),
 .ev (some 41) none (.r (.ld (some 4) (.t 5))),
 .ev (some 42) none (.m (.call 121 [.t 41])),
 .ev (some 43) none (.w (.build [.i (.ofNat 0), .i (.ofNat 0), .i (.ofNat 0), .s [], .l0] [(0, 1, .t 40), (1, 4, .t 42)])),
 .ev (some 44) none (.a (.bsl 5 1 [.i (.ofNat 0), .i (.ofNat 0), .i (.ofNat 0), .s [], .l0] [(0, 5, .t 43)])),
 .ev (some 45) none (.m (.app 5 64 (.t 39) (.t 44))),
 .ev (some 6) none (.w (.mv (.t 45))),
 .ev (some 7) none (.w (.mv (.k (.c (.b true)))))])
 .ret)))), [.t 6, .t 7]⟩
theorem c239 : cFn ty ibs (cDraw ty ibs) [] f239 = some q239 := by decide +kernel
noncomputable def q240 : MFn := ⟨(.seq (.reg [.ev (some 3) none (.a (.box (.t 1))),
 .ev (some 4) none (.w (.mv (.k (.c .l0))))])
 (.seq (.reg [.ev (some 10) none (.a (.bsl 1 0 [] [])),
 .ev (some 5) none (.w (.mv (.t 10)))])
 (.seq (.reg [.ev (some 11) none (.r (.ld (some 4) (.t 3))),
 .ev (some 12) none (.m (.call 248 [.t 11])),
 .ev (some 6) none (.w (.mv (.t 12)))])
 (.seq (.seq (.reg [.ev (some 7) none (.w (.mv (.k (.c (.i (.ofNat 0))))))])
 (.blk 0 (.loop (.seq (.seq (.reg [.ev (some 13) none (.w (.mv (.t 7))),
 .ev (some 14) none (.w (.mv (.t 6))),
 .ev (some 15) none (.w (.lnl (.t 14))),
 .ev (some 16) none (.w (.bin .lss (.t 13) (.t 15)))])
 (.cond (.t 16) .skip (.exit 0)))
 (.seq (.blk 1 (.seq (.reg [.ev (some 8) none (.w (.mv (.k (.c (.b true)))))])
 (.seq (.seq (.reg [.ev (some 9) none (.w (.mv (.k (.c (.i (.ofNat 0))))))])
 (.blk 2 (.loop (.seq (.seq (.reg [.ev (some 19) none (.w (.mv (.t 9))),
 .ev (some 20) none (.w (.mv (.t 0))),
 .ev (some 21) none (.w (.lnl (.t 20))),
 .ev (some 22) none (.w (.bin .lss (.t 19) (.t 21)))])
 (.cond (.t 22) .skip (.exit 2)))
 (.seq (.blk 3 (.seq (.reg [.ev (some 25) none (.w (.mv (.t 0))),
 .ev (some 26) none (.w (.mv (.t 9))),
 .ev (some 27) none (.w (.iad 5 (.t 25) (.t 26))),
 .ev (some 28) none (.w (.fad 1 (.t 27))),
 .ev (some 29) none (.r (.ld (some 4) (.t 28))),
 .ev (some 30) none (.w (.mv (.t 6))),
 .ev (some 31) none (.w (.mv (.t 7))),
 .ev (some 32) none (.w (.iad 1 (.t 30) (.t 31))),
 .ev (some 33) none (.r (.ld none (.t 32))),
 .mk (some 34) none (.call 238 [.t 29, .t 33]) [] [],
 .ev (some 35) none (.w (.mv (.t 34))),
 .ev (some 36) (some (35, true)) (.w (.mv (.t 0))),
 .ev (some 37) (some (35, true)) (.w (.mv (.t 9))),
 .ev (some 38) (some (35, true)) (.w (.iad 5 (.t 36) (.t 37))),
 .ev (some 39) (some (35, true)) (.w (.fad 0 (.t 38))),
 .ev (some 40) (some (35, true)) (.r (.ld none (.t 39))),
 .ev (some 41) (some (35, true)) (.w (.mv (.t 6))),
 .ev (some 42) (some (35, true)) (.w (.mv (.t 7))),
 .ev (some 43) (some (35, true)) (.w (.iad 1 (.t 41) (.t 42))),
 .ev (some 44) (some (35, true)) (.r (.ld none (.t 43))),
 .mk (some 45) (some (35, true)) (.call 119 [.t 40, .t 44]) [] [],
 .ev (some 46) (some (35, true)) (.w (.un .not (.t 45))),
 .ev (some 47) none (.w (.pick (.t 35) (.t 46) (.k (.c (.b false)))))])
 (.cond (.t 47) (.reg [.ev (some 8) none (.w (.mv (.k (.c (.b false)))))]) .skip)))
 (.reg [.ev (some 23) none (.w (.mv (.t 9))),
 .ev (some 24) none (.w (.bin .add (.t 23) (.k (.c (.i (.ofNat 1)))))),
 .ev (some 9) none (.w (.mv (.t 24)))]))))))
 (.seq (.reg [.ev (some 48) none (.w (.mv (.t 8)))])
 (.cond (.t 48) (.reg [.ev (some 49) none (.w (.mv (.t 5))),
 .ev (some 50) none (.w (.mv (.t 6))),
 .ev (some 51) none (.w (.mv (.t 7))),
 .ev (some 52) none (.w (.iad 1 (.t 50) (.t 51))),
 .ev (some 53) none (.r (.ld none (.t 52))),
 .ev (some 54) none (.a (.bsl 1 1 [.i (.ofNat 0)] [(0, 1, .t 53)])),
 .ev (some 55) none (.m (.app 1 8 (.t 49) (.t 54))),
 .ev (some 5) none (.w (.mv (.t 55)))]) .skip)))))
 (.reg [.ev (some 17) none (.w (.mv (.t 7))),
 .ev (some 18) none (.w (.bin .add (.t 17) (.k (.c (.i (.ofNat 1)))))),
 .ev (some 7) none (.w (.mv (.t 18)))]))))))
 (.seq (.reg [.ev (some 56) none (.w (.mv (.t 5))),
 .ev (some 4) none (.w (.mv (.t 56)))])
 .ret))))), [.t 4]⟩
theorem c240 : cFn ty ibs (cDraw ty ibs) [[.ev 0, .ev 1, .ev 2, .ev 3, .ev 4, .ev 5, .ev 6, .ev 7, .ev 8, .ev 9, .ev 10, .ev 11, .ev 12, .ev 13, .ev 14, .ev 15, .ev 16, .ev 17, .ev 18, .ev 19, .ev 20, .ev 21, .ev 22]] f240 = some q240 := by decide +kernel
noncomputable def q241 : MFn := ⟨(.seq (.reg [.ev (some 2) none (.a (.al [.i (.ofNat 0), .i (.ofNat 0), .s [], .s [], .l0]))])
 (.seq (.reg [.ev (some 5) none (.w (.mv (.t 0))),
 .ev (some 6) none (.m (.call 18 [.t 5])),
 .ev (some 3) none (.a (.al [.i (.ofNat 0), .s [], .i (.ofNat 0), .i (.ofNat 0)])),
 .ev none none (.m (.st 4 (.t 3) (.t 6)))])
 (.seq (.blk 0 (.seq (.reg [.ev (some 8) none (.w (.fad 0 (.t 3))),
 .ev (some 9) none (.r (.ld none (.t 8))),
 .ev (some 10) none (.w (.bin .eql (.t 9) (.k (.c (.i (.ofNat 3)))))),
 .ev (some 7) none (.w (.mv (.t 10)))])
 (.cond (.t 7) (.seq (.reg [.ev (some 11) none (.w (.mv (.t 0))),
 .ev (some 12) none (.m (.call 47 [.t 11]))])
 (.seq (.reg [.ev (some 13) none (.w (.fad 2 (.t 3))),
 .ev (some 14) none (.r (.ld none (.t 13))),
 .ev (some 15) none (.w (.build [.i (.ofNat 0), .i (.ofNat 0), .s [], .s [], .l0] [(0, 1, .k (.c (.i (.ofNat 1)))), (1, 1, .t 14)])),
 .ev none none (.m (.st 5 (.t 2) (.t 15)))])
 .ret)) (.seq (.reg [.ev (some 17) none (.w (.mv (.t 0))),
 .ev (some 18) none (.m (.call 49 [.t 17])),
 .ev (some 16) none (.w (.mv (.t 18)))])
 (.cond (.t 16) (.seq (.reg [.ev (some 19) none (.w (.mv (.t 0))),
 .ev (some 20) none (.m (.call 47 [.t 19]))])
 (.seq (.reg [.ev (some 21) none (.w (.fad 1 (.t 3))),
 .ev (some 22) none (.r (.ld none (.t 21))),
 .ev (some 23) none (.w (.build [.i (.ofNat 0), .i (.ofNat 0), .s [], .s [], .l0] [(0, 1, .k (.c (.i (.ofNat 2)))), (2, 1, .t 22)])),
 .ev none none (.m (.st 5 (.t 2) (.t 23)))])
 .ret)) (.seq (.reg [.ev (some 25) none (.w (.mv (.t 0))),
 .ev (some 26) none (.m (.call 130 [.t 25])),
 .ev (some 24) none (.w (.mv (.t 26)))])
 (.cond (.t 24) (.seq (.reg [.ev (some 27) none (.w (.mv (.t 0))),
 .ev (some 28) none (.m (.call 47 [.t 27]))])
 (.seq (.reg [.ev (some 29) none (.w (.fad 1 (.t 3))),
 .ev (some 30) none (.r (.ld none (.t 29))),
 .ev (some 31) none (.w (.build [.i (.ofNat 0), .i (.ofNat 0), .s [], .s [], .l0] [(0, 1, .k (.c (.i (.ofNat 15)))), (2, 1, .t 30)])),
 .ev none none (.m (.st 5 (.t 2) (.t 31)))])
 .ret)) .skip)))))))
 (.seq (.reg [.ev (some 32) none (.w (.mv (.t 0))),
 .ev (some 33) none (.m (.call 51 [.t 32, .k (.c (.s [40]))]))])
 (.seq (.reg [.ev (some 34) none (.w (.mv (.t 0))),
 .ev (some 35) none (.m (.call 17 [.t 34])),
 .ev (some 4) none (.a (.al [.i (.ofNat 0), .i (.ofNat 0), .s [], .s [], .l0])),
 .ev none none (.m (.st 5 (.t 4) (.t 35)))])
 (.seq (.reg [.ev (some 36) none (.w (.mv (.t 0))),
 .ev (some 37) none (.m (.call 51 [.t 36, .k (.c (.s [41]))]))])
 (.seq (.reg [.ev (some 38) none (.r (.ld (some 5) (.t 4))),
 .ev none none (.m (.st 5 (.t 2) (.t 38)))])
 .ret))))))), [.c (some 5) 2]⟩
theorem c241 : cFn ty ibs (cDraw ty ibs) [] f241 = some q241 := by decide +kernel
noncomputable def q242 : MFn := ⟨(.seq (.reg [.ev (some 2) none (.w (.mv (.k (.c (.b false)))))])
 (.seq (.reg [.ev (some 3) none (.w (.mv (.t 0))),
 .ev (some 4) none (.w (.nilc (.t 3))),
 .ev (some 5) none (.w (.fad 2 (.t 4))),
 .ev (some 6) none (.r (.ld none (.t 5))),
 .ev (some 7) none (.w (.bin .lss (.t 6) (.k (.c (.i (.ofNat 0)))))),
 .ev (some 8) none (.w (.mv (.t 7))),
 .ev (some 9) (some (8, true)) (.w (.mv (.t 0))),
 .ev (some 10) (some (8, true)) (.m (.call 49 [.t 9])),
 .ev (some 11) (some (8, true)) (.w (.mv (.t 10))),
 .ev (some 12) (some (11, false)) (.w (.mv (.t 0))),
 .ev (some 13) (some (11, false)) (.m (.call 130 [.t 12])),
 .ev (some 14) (some (8, true)) (.w (.pick (.t 11) (.k (.c (.b true))) (.t 13))),
 .ev (some 15) (some (8, true)) (.w (.mv (.t 14))),
 .ev (some 16) (some (15, false)) (.w (.mv (.t 0))),
 .ev (some 17) (some (15, false)) (.m (.call 18 [.t 16])),
 .ev (some 18) (some (15, false)) (.w (.fld 0 none (.t 17))),
 .ev (some 19) (some (15, false)) (.w (.bin .eql (.t 18) (.k (.c (.i (.ofNat 3)))))),
 .ev (some 20) (some (8, true)) (.w (.pick (.t 15) (.k (.c (.b true))) (.t 19))),
 .ev (some 21) (some (8, true)) (.w (.mv (.t 20))),
 .ev (some 22) (some (21, false)) (.w (.mv (.t 0))),
 .ev (some 23) (some (21, false)) (.m (.call 46 [.t 22, .k (.c (.s [40]))])),
 .ev (some 24) (some (8, true)) (.w (.pick (.t 21) (.k (.c (.b true))) (.t 23))),
 .ev (some 25) none (.w (.pick (.t 8) (.t 24) (.k (.c (.b false))))),
 .ev (some 2) none (.w (.mv (.t 25)))])
 .ret)), [.t 2]⟩
theorem c242 : cFn ty ibs (cDraw ty ibs) [] f242 = some q242 := by decide +kernel
noncomputable def q243 : MFn := ⟨(.seq (.reg [.ev (some 2) none (.a (.box (.t 0))),
 .ev (some 4) none (.w (.mv (.k (.c .l0))))])
 (.seq (.seq (.reg [.ev (some 7) none (.w (.fad 0 (.t 2))),
 .ev (some 8) none (.r (.ld none (.t 7))),
 .ev (some 9) none (.w (.bin .eql (.t 8) (.k (.c (.i (.ofNat 2)))))),
 .ev (some 10) none (.w (.mv (.t 9))),
 .ev (some 11) (some (10, true)) (.w (.mv (.t 1))),
 .ev (some 12) (some (10, true)) (.w (.fad 1 (.t 2))),
 .ev (some 13) (some (10, true)) (.r (.ld none (.t 12))),
 .ev (some 14) (some (10, true)) (.m (.call 90 [.t 11, .t 13])),
 .ev (some 15) (some (10, true)) (.w (.un .not (.t 14))),
 .ev (some 16) none (.w (.pick (.t 10) (.t 15) (.k (.c (.b false)))))])
 (.cond (.t 16) (.reg [.ev (some 17) none (.w (.mv (.t 1))),
 .ev (some 18) none (.w (.fad 1 (.t 2))),
 .ev (some 19) none (.r (.ld none (.t 18))),
 .ev (some 20) none (.a (.bsl 1 1 [.i (.ofNat 0)] [(0, 1, .t 19)])),
 .ev (some 21) none (.m (.app 1 8 (.t 17) (.t 20))),
 .ev (some 1) none (.w (.mv (.t 21)))]) .skip))
 (.seq (.seq (.reg [.ev (some 22) none (.w (.fad 3 (.t 2))),
 .ev (some 23) none (.r (.ld none (.t 22))),
 .ev (some 24) none (.w (.lnl (.t 23))),
 .ev (some 25) none (.w (.mv (.k (.c (.i (.ofNat 0))))))])
 (.blk 0 (.loop (.seq (.reg [.ev (some 26) none (.w (.bin .lss (.t 25) (.t 24)))])
 (.seq (.cond (.t 26) .skip (.exit 0))
 (.seq (.blk 1 (.seq (.reg [.ev (some 27) none (.w (.iad 4 (.t 23) (.t 25))),
 .ev (some 28) none (.r (.ld (some 4) (.t 27))),
 .ev (some 6) none (.a (.al [.i (.ofNat 0), .i (.ofNat 0), .s [], .l0])),
 .ev none none (.m (.st 4 (.t 6) (.t 28)))])
 (.reg [.ev (some 29) none (.r (.ld (some 4) (.t 6))),
 .ev (some 30) none (.w (.mv (.t 1))),
 .ev (some 31) none (.m (.call 243 [.t 29, .t 30])),
 .ev (some 1) none (.w (.mv (.t 31)))])))
 (.reg [.ev (some 32) none (.w (.bin .add (.t 25) (.k (.c (.i (.ofNat 1)))))),
 .ev (some 25) none (.w (.mv (.t 32)))])))))))
 (.seq (.reg [.ev (some 33) none (.w (.mv (.t 1))),
 .ev (some 4) none (.w (.mv (.t 33)))])
 .ret)))), [.t 4]⟩
theorem c243 : cFn ty ibs (cDraw ty ibs) [] f243 = some q243 := by decide +kernel
noncomputable def q244 : MFn := ⟨(.seq (.reg [.ev (some 3) none (.w (.mv (.t 0))),
 .ev (some 4) none (.w (.lnl (.t 3))),
 .ev (some 2) none (.w (.mv (.t 4)))])
 (.reg [.ev (some 5) none (.w (.mv (.t 0))),
 .ev (some 6) none (.w (.mv (.t 2))),
 .ev (some 7) none (.w (.mv (.t 2))),
 .ev (some 8) none (.w (.cv .u64 (.t 7))),
 .ev (some 9) none (.m (.call 250 [.t 8])),
 .ev (some 10) none (.m (.call 249 [.t 5, .k (.c (.i (.ofNat 0))), .t 6, .t 9]))])), []⟩
theorem c244 : cFn ty ibs (cDraw ty ibs) [] f244 = some q244 := by decide +kernel
noncomputable def q245 : MFn := ⟨(.seq (.reg [.ev (some 4) none (.w (.mv (.k (.c (.i (.ofNat 0))))))])
 (.seq (.seq (.reg [.ev (some 6) none (.w (.mv (.t 0))),
 .ev (some 7) none (.w (.lnl (.t 6))),
 .ev (some 8) none (.w (.mv (.k (.c (.i (.ofNat 0))))))])
 (.blk 0 (.loop (.seq (.reg [.ev (some 9) none (.w (.bin .lss (.t 8) (.t 7)))])
 (.seq (.cond (.t 9) .skip (.exit 0))
 (.seq (.blk 1 (.seq (.reg [.ev (some 10) none (.w (.mv (.t 8))),
 .ev (some 5) none (.w (.mv (.t 10)))])
 (.seq (.reg [.ev (some 11) none (.w (.mv (.t 1))),
 .ev (some 12) none (.w (.mv (.t 0))),
 .ev (some 13) none (.w (.mv (.t 5))),
 .ev (some 14) none (.w (.iad 1 (.t 12) (.t 13))),
 .ev (some 15) none (.r (.ld none (.t 14))),
 .ev (some 16) none (.m (.cal (.t 11) [.t 15]))])
 (.cond (.t 16) (.seq (.reg [.ev (some 17) none (.w (.mv (.t 5))),
 .ev (some 4) none (.w (.mv (.t 17)))])
 .ret) .skip))))
 (.reg [.ev (some 18) none (.w (.bin .add (.t 8) (.k (.c (.i (.ofNat 1)))))),
 .ev (some 8) none (.w (.mv (.t 18)))])))))))
 (.seq (.reg [.ev (some 4) none (.w (.mv (.k (.c (.i (.negSucc 0))))))])
 .ret))), [.t 4]⟩
theorem c245 : cFn ty ibs (cDraw ty ibs) [] f245 = some q245 := by decide +kernel
noncomputable def q246 : MFn := ⟨(.seq (.reg [.ev (some 4) none (.w (.mv (.k (.c (.i (.ofNat 0))))))])
 (.seq (.seq (.reg [.ev (some 6) none (.w (.mv (.t 0))),
 .ev (some 7) none (.w (.lnl (.t 6))),
 .ev (some 8) none (.w (.mv (.k (.c (.i (.ofNat 0))))))])
 (.blk 0 (.loop (.seq (.reg [.ev (some 9) none (.w (.bin .lss (.t 8) (.t 7)))])
 (.seq (.cond (.t 9) .skip (.exit 0))
 (.seq (.blk 1 (.seq (.reg [.ev (some 10) none (.w (.mv (.t 8))),
 .ev (some 5) none (.w (.mv (.t 10)))])
 (.seq (.reg [.ev (some 11) none (.w (.mv (.t 1))),
 .ev (some 12) none (.w (.mv (.t 0))),
 .ev (some 13) none (.w (.mv (.t 5))),
 .ev (some 14) none (.w (.iad 5 (.t 12) (.t 13))),
 .ev (some 15) none (.r (.ld (some 5) (.t 14))),
 .ev (some 16) none (.m (.cal (.t 11) [.t 15]))])
 (.cond (.t 16) (.seq (.reg [.ev (some 17) none (.w (.mv (.t 5))),
 .ev (some 4) none (.w (.mv (.t 17)))])
 .ret) .skip))))
 (.reg [.ev (some 18) none (.w (.bin .add (.t 8) (.k (.c (.i (.ofNat 1)))))),
 .ev (some 8) none (.w (.mv (.t 18)))])))))))
 (.seq (.reg [.ev (some 4) none (.w (.mv (.k (.c (.i (.negSucc 0))))))])
 .ret))), [.t 4]⟩
theorem c246 : cFn ty ibs (cDraw ty ibs) [] f246 = some q246 := by decide +kernel
noncomputable def q247 : MFn := ⟨(.seq (.reg [.ev (some 2) none (.a (.al [.i (.ofNat 0), .i (.ofNat 0), .s [], .s [], .l0]))])
 (.seq (.reg [.ev (some 5) none (.w (.mv (.t 0))),
 .ev (some 6) none (.m (.call 35 [.t 5])),
 .ev (some 3) none (.a (.al [.i (.ofNat 0), .s [], .i (.ofNat 0), .i (.ofNat 0)])),
 .ev none none (.m (.st 4 (.t 3) (.t 6)))])
 (.seq (.blk 0 (.seq (.reg [.ev (some 8) none (.w (.mv (.t 0))),
 .ev (some 9) none (.w (.nilc (.t 8))),
 .ev (some 10) none (.w (.fad 2 (.t 9))),
 .ev (some 11) none (.r (.ld none (.t 10))),
 .ev (some 12) none (.w (.bin .lss (.t 11) (.k (.c (.i (.ofNat 0)))))),
 .ev (some 13) none (.w (.mv (.t 12))),
 .ev (some 14) (some (13, true)) (.w (.fad 0 (.t 3))),
 .ev (some 15) (some (13, true)) (.r (.ld none (.t 14))),
 .ev (some 16) (some (13, true)) (.w (.bin .eql (.t 15) (.k (.c (.i (.ofNat 3)))))),
 .ev (some 17) none (.w (.pick (.t 13) (.t 16) (.k (.c (.b false))))),
 .ev (some 7) none (.w (.mv (.t 17)))])
 (.cond (.t 7) (.seq (.reg [.ev (some 18) none (.w (.mv (.t 0))),
 .ev (some 19) none (.m (.call 101 [.t 18]))])
 (.seq (.reg [.ev (some 20) none (.w (.fad 2 (.t 3))),
 .ev (some 21) none (.r (.ld none (.t 20))),
 .ev (some 22) none (.w (.build [.i (.ofNat 0), .i (.ofNat 0), .s [], .s [], .l0] [(0, 1, .k (.c (.i (.ofNat 1)))), (1, 1, .t 21)])),
 .ev none none (.m (.st 5 (.t 2) (.t 22)))])
 .ret)) (.seq (.reg [.ev (some 24) none (.w (.mv (.t 0))),
 .ev (some 25) none (.m (.call 97 [.t 24])),
 .ev (some 23) none (.w (.mv (.t 25)))])
 (.cond (.t 23) (.seq (.reg [.ev (some 26) none (.w (.mv (.t 0))),
 .ev (some 27) none (.m (.call 101 [.t 26]))])
 (.seq (.reg [.ev (some 28) none (.w (.fad 1 (.t 3))),
 .ev (some 29) none (.r (.ld none (.t 28))),
 .ev (some 30) none (.w (.build [.i (.ofNat 0), .i (.ofNat 0), .s [], .s [], .l0] [(0, 1, .k (.c (.i (.ofNat 2)))), (2, 1, .t 29)])),
 .ev none none (.m (.st 5 (.t 2) (.t 30)))])
 .ret)) (.seq (.reg [.ev (some 32) none (.w (.mv (.t 0))),
 .ev (some 33) none (.m (.call 166 [.t 32])),
 .ev (some 31) none (.w (.mv (.t 33)))])
 (.cond (.t 31) (.seq (.reg [.ev (some 34) none (.w (.mv (.t 0))),
 .ev (some 35) none (.m (.call 101 [.t 34]))])
 (.seq (.reg [.ev (some 36) none (.w (.fad 1 (.t 3))),
 .ev (some 37) none (.r (.ld none (.t 36))),
 .ev (some 38) none (.w (.build [.i (.ofNat 0), .i (.ofNat 0), .s [], .s [], .l0] [(0, 1, .k (.c (.i (.ofNat 15)))), (2, 1, .t 37)])),
 .ev none none (.m (.st 5 (.t 2) (.t 38)))])
 .ret)) .skip)))))))
 (.seq (.reg [.ev (some 39) none (.w (.mv (.t 0))),
 .ev (some 40) none (.m (.call 98 [.t 39, .k (.c (.s [40]))]))])
 (.seq (.seq (.reg [.ev (some 41) none (.w (.mv (.t 0))),
 .ev (some 42) none (.w (.nilc (.t 41))),
 .ev (some 43) none (.w (.fad 2 (.t 42))),
 .ev (some 44) none (.r (.ld none (.t 43))),
 .ev (some 45) none (.w (.bin .geq (.t 44) (.k (.c (.i (.ofNat 0))))))])
 (.cond (.t 45) (.seq (.reg [.ev (some 46) none (.w (.build [.i (.ofNat 0), .i (.ofNat 0), .s [], .s [], .l0] [])),
 .ev none none (.m (.st 5 (.t 2) (.t 46)))])
 .ret) .skip))
 (.seq (.reg [.ev (some 47) none (.w (.mv (.t 0))),
 .ev (some 48) none (.m (.call 34 [.t 47])),
 .ev (some 4) none (.a (.al [.i (.ofNat 0), .i (.ofNat 0), .s [], .s [], .l0])),
 .ev none none (.m (.st 5 (.t 4) (.t 48)))])
 (.seq (.reg [.ev (some 49) none (.w (.mv (.t 0))),
 .ev (some 50) none (.m (.call 98 [.t 49, .k (.c (.s [41]))]))])
 (.seq (.reg [.ev (some 51) none (.r (.ld (some 5) (.t 4))),
 .ev none none (.m (.st 5 (.t 2) (.t 51)))])
 .ret)))))))), [.c (some 5) 2]⟩
theorem c247 : cFn ty ibs (cDraw ty ibs) [] f247 = some q247 := by decide +kernel
noncomputable def q248 : MFn := ⟨(.seq (.reg [.ev (some 1) none (.a (.box (.t 0))),
 .ev (some 2) none (.w (.mv (.k (.c .l0))))])
 (.seq (.reg [.ev (some 3) none (.r (.ld (some 4) (.t 1))),
 .ev (some 4) none (.a (.bsl 1 0 [] [])),
 .ev (some 5) none (.m (.call 251 [.t 3, .t 4])),
 .ev (some 2) none (.w (.mv (.t 5)))])
 .ret)), [.t 2]⟩
theorem c248 : cFn ty ibs (cDraw ty ibs) [] f248 = some q248 := by decide +kernel
noncomputable def q249 : MFn := ⟨(.seq (.reg [.ev (some 8) none (.w (.mv (.k (.c (.b true)))))])
 (.seq (.reg [.ev (some 9) none (.w (.mv (.k (.c (.b true)))))])
 (.blk 0 (.loop (.blk 1 (.seq (.reg [.ev (some 19) none (.w (.mv (.t 2))),
 .ev (some 20) none (.w (.mv (.t 1))),
 .ev (some 21) none (.w (.bin .sub (.t 19) (.t 20))),
 .ev (some 10) none (.w (.mv (.t 21)))])
 (.seq (.seq (.reg [.ev (some 22) none (.w (.mv (.t 10))),
 .ev (some 23) none (.w (.bin .leq (.t 22) (.k (.c (.i (.ofNat 12))))))])
 (.cond (.t 23) (.seq (.reg [.ev (some 24) none (.w (.mv (.t 0))),
 .ev (some 25) none (.w (.mv (.t 1))),
 .ev (some 26) none (.w (.mv (.t 2))),
 .ev (some 27) none (.m (.call 252 [.t 24, .t 25, .t 26]))])
 .ret) .skip))
 (.seq (.seq (.reg [.ev (some 28) none (.w (.mv (.t 3))),
 .ev (some 29) none (.w (.bin .eql (.t 28) (.k (.c (.i (.ofNat 0))))))])
 (.cond (.t 29) (.seq (.reg [.ev (some 30) none (.w (.mv (.t 0))),
 .ev (some 31) none (.w (.mv (.t 1))),
 .ev (some 32) none (.w (.mv (.t 2))),
 .ev (some 33) none (.m (.call 253 [.t 30, .t 31, .t 32]))])
 .ret) .skip))
 (.seq (.seq (.reg [.ev (some 34) none (.w (.mv (.t 8))),
 .ev (some 35) none (.w (.un .not (.t 34)))])
 (.cond (.t 35) (.seq (.reg [.ev (some 36) none (.w (.mv (.t 0))),
 .ev (some 37) none (.w (.mv (.t 1))),
 .ev (some 38) none (.w (.mv (.t 2))),
 .ev (some 39) none (.m (.call 254 [.t 36, .t 37, .t 38]))])
 (.reg [.ev (some 40) none (.w (.mv (.t 3))),
 .ev (some 41) none (.w (.bin .sub (.t 40) (.k (.c (.i (.ofNat 1)))))),
 .ev (some 3) none (.w (.mv (.t 41)))])) .skip))
 (.seq (.reg [.ev (some 43) none (.w (.mv (.t 0))),
 .ev (some 44) none (.w (.mv (.t 1))),
 .ev (some 45) none (.w (.mv (.t 2))),
 .ev (some 46) none (.m (.call 255 [.t 43, .t 44, .t 45])),
 .ev (some 42) none (.w (.mv (.t 46))),
 .ev (some 47) none (.w (.ext 0 (.t 42))),
 .ev (some 48) none (.w (.ext 1 (.t 42))),
 .ev (some 11) none (.w (.mv (.t 47))),
 .ev (some 12) none (.w (.mv (.t 48)))])
 (.seq (.seq (.reg [.ev (some 49) none (.w (.mv (.t 12))),
 .ev (some 50) none (.w (.bin .eql (.t 49) (.k (.c (.i (.ofNat 2))))))])
 (.cond (.t 50) (.seq (.reg [.ev (some 51) none (.w (.mv (.t 0))),
 .ev (some 52) none (.w (.mv (.t 1))),
 .ev (some 53) none (.w (.mv (.t 2))),
 .ev (some 54) none (.m (.call 256 [.t 51, .t 52, .t 53]))])
 (.seq (.reg [.ev (some 55) none (.w (.mv (.t 2))),
 .ev (some 56) none (.w (.bin .sub (.t 55) (.k (.c (.i (.ofNat 1)))))),
 .ev (some 57) none (.w (.mv (.t 11))),
 .ev (some 58) none (.w (.mv (.t 1))),
 .ev (some 59) none (.w (.bin .sub (.t 57) (.t 58))),
 .ev (some 60) none (.w (.bin .sub (.t 56) (.t 59))),
 .ev (some 11) none (.w (.mv (.t 60)))])
 (.reg [.ev (some 12) none (.w (.mv (.k (.c (.i (.ofNat 1))))))]))) .skip))
 (.seq (.seq (.reg [.ev (some 61) none (.w (.mv (.t 8))),
 .ev (some 62) none (.w (.mv (.t 61))),
 .ev (some 63) (some (62, true)) (.w (.mv (.t 9))),
 .ev (some 64) none (.w (.pick (.t 62) (.t 63) (.k (.c (.b false))))),
 .ev (some 65) none (.w (.mv (.t 64))),
 .ev (some 66) (some (65, true)) (.w (.mv (.t 12))),
 .ev (some 67) (some (65, true)) (.w (.bin .eql (.t 66) (.k (.c (.i (.ofNat 1)))))),
 .ev (some 68) none (.w (.pick (.t 65) (.t 67) (.k (.c (.b false)))))])
 (.cond (.t 68) (.seq (.reg [.ev (some 69) none (.w (.mv (.t 0))),
 .ev (some 70) none (.w (.mv (.t 1))),
 .ev (some 71) none (.w (.mv (.t 2))),
 .ev (some 72) none (.m (.call 257 [.t 69, .t 70, .t 71]))])
 (.cond (.t 72) .ret .skip)) .skip))
 (.seq (.seq (.reg [.ev (some 73) none (.w (.mv (.t 1))),
 .ev (some 74) none (.w (.bin .gtr (.t 73) (.k (.c (.i (.ofNat 0)))))),
 .ev (some 75) none (.w (.mv (.t 74))),
 .ev (some 76) (some (75, true)) (.w (.mv (.t 0))),
 .ev (some 77) (some (75, true)) (.w (.mv (.t 1))),
 .ev (some 78) (some (75, true)) (.w (.bin .sub (.t 77) (.k (.c (.i (.ofNat 1)))))),
 .ev (some 79) (some (75, true)) (.w (.iad 1 (.t 76) (.t 78))),
 .ev (some 80) (some (75, true)) (.r (.ld none (.t 79))),
 .ev (some 81) (some (75, true)) (.w (.mv (.t 0))),
 .ev (some 82) (some (75, true)) (.w (.mv (.t 11))),
 .ev (some 83) (some (75, true)) (.w (.iad 1 (.t 81) (.t 82))),
 .ev (some 84) (some (75, true)) (.r (.ld none (.t 83))),
 .mk (some 85) (some (75, true)) (.call 258 [.t 80, .t 84]) [] [],
 .ev (some 86) (some (75, true)) (.w (.un .not (.t 85))),
 .ev (some 87) none (.w (.pick (.t 75) (.t 86) (.k (.c (.b false)))))])
 (.cond (.t 87) (.seq (.reg [.ev (some 88) none (.w (.mv (.t 0))),
 .ev (some 89) none (.w (.mv (.t 1))),
 .ev (some 90) none (.w (.mv (.t 2))),
 .ev (some 91) none (.w (.mv (.t 11))),
 .ev (some 92) none (.m (.call 259 [.t 88, .t 89, .t 90, .t 91])),
 .ev (some 13) none (.w (.mv (.t 92)))])
 (.seq (.reg [.ev (some 93) none (.w (.mv (.t 13))),
 .ev (some 1) none (.w (.mv (.t 93)))])
 (.exit 1))) .skip))
 (.seq (.reg [.ev (some 95) none (.w (.mv (.t 0))),
 .ev (some 96) none (.w (.mv (.t 1))),
 .ev (some 97) none (.w (.mv (.t 2))),
 .ev (some 98) none (.w (.mv (.t 11))),
 .ev (some 99) none (.m (.call 260 [.t 95, .t 96, .t 97, .t 98])),
 .ev (some 94) none (.w (.mv (.t 99))),
 .ev (some 100) none (.w (.ext 0 (.t 94))),
 .ev (some 101) none (.w (.ext 1 (.t 94))),
 .ev (some 14) none (.w (.mv (.t 100))),
 .ev (some 15) none (.w (.mv (.t 101)))])
 (.seq (.reg [.ev (some 102) none (.w (.mv (.t 15))),
 .ev (some 9) none (.w (.mv (.t 102)))])
 (.seq (.reg [.ev (some 103) none (.w (.mv (.t 14))),
 .ev (some 104) none (.w (.mv (.t 1))),
 .ev (some 105) none (.w (.bin .sub (.t 103) (.t 104))),
 .ev (some 106) none (.w (.mv (.t 2))),
 .ev (some 107) none (.w (.mv (.t 14))),
 .ev (some 108) none (.w (.bin .sub (.t 106) (.t 107))),
 .ev (some 16) none (.w (.mv (.t 105))),
 .ev (some 17) none (.w (.mv (.t 108)))])
 (.seq (.reg [.ev (some 109) none (.w (.mv (.t 10))),
 .ev (some 110) none (.w (.bin .quo (.t 109) (.k (.c (.i (.ofNat 8)))))),
 .ev (some 18) none (.w (.mv (.t 110)))])
 (.seq (.reg [.ev (some 111) none (.w (.mv (.t 16))),
 .ev (some 112) none (.w (.mv (.t 17))),
 .ev (some 113) none (.w (.bin .lss (.t 111) (.t 112)))])
 (.cond (.t 113) (.seq (.reg [.ev (some 114) none (.w (.mv (.t 16))),
 .ev (some 115) none (.w (.mv (.t 18))),
 .ev (some 116) none (.w (.bin .geq (.t 114) (.t 115))),
 .ev (some 8) none (.w (.mv (.t 116)))])
 (.seq (.reg [.ev (some 117) none (.w (.mv (.t 0))),
 .ev (some 118) none (.w (.mv (.t 1))),
 .ev (some 119) none (.w (.mv (.t 14))),
 .ev (some 120) none (.w (.mv (.t 3))),
 .ev (some 121) none (.m (.call 249 [.t 117, .t 118, .t 119, .t 120]))])
 (.reg [.ev (some 122) none (.w (.mv (.t 14))),
 .ev (some 123) none (.w (.bin .add (.t 122) (.k (.c (.i (.ofNat 1)))))),
 .ev (some 1) none (.w (.mv (.t 123)))]))) (.seq (.reg [.ev (some 124) none (.w (.mv (.t 17))),
 .ev (some 125) none (.w (.mv (.t 18))),
 .ev (some 126) none (.w (.bin .geq (.t 124) (.t 125))),
 .ev (some 8) none (.w (.mv (.t 126)))])
 (.seq (.reg [.ev (some 127) none (.w (.mv (.t 0))),
 .ev (some 128) none (.w (.mv (.t 14))),
 .ev (some 129) none (.w (.bin .add (.t 128) (.k (.c (.i (.ofNat 1)))))),
 .ev (some 130) none (.w (.mv (.t 2))),
 .ev (some 131) none (.w (.mv (.t 3))),
 .ev (some 132) none (.m (.call 249 [.t 127, .t 129, .t 130, .t 131]))])
 (.reg [.ev (some 133) none (.w (.mv (.t 14))),
 .ev (some 2) none (.w (.mv (.t 133)))])))))))))))))))))))))), []⟩
theorem c249 : cFn ty ibs (cDraw ty ibs) [[.ev 0, .ev 1, .ev 2, .ev 3, .ev 4, .ev 5, .ev 6, .ev 7, .ev 8, .ev 9, .ev 10, .ev 11, .ev 12, .ev 13, .ev 14]] f249 = some q249 := by decide +kernel
noncomputable def q250 : MFn := ⟨(.seq (.reg [.ev (some 2) none (.w (.mv (.k (.c (.i (.ofNat 0))))))])
 (.seq (.cond (.k (.c (.b false))) (.seq (.reg [.ev (some 3) none (.w (.mv (.t 0))),
 .ev (some 4) none (.w (.cv .u32 (.t 3))),
 .ev (some 5) none (.m (.call 261 [.t 4])),
 .ev (some 2) none (.w (.mv (.t 5)))])
 .ret) .skip)
 (.seq (.reg [.ev (some 6) none (.w (.mv (.t 0))),
 .ev (some 7) none (.m (.call 262 [.t 6])),
 .ev (some 2) none (.w (.mv (.t 7)))])
 .ret))), [.t 2]⟩
theorem c250 : cFn ty ibs (cDraw ty ibs) [] f250 = some q250 := by decide +kernel
end Go.Ev
