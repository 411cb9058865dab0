/-
The table: functions in the evaluator's form, each checked against the program.
-/
import Derived.Test.YtjidglpldjcmdaaGreatEvTb0
set_option linter.unusedVariables false
set_option maxRecDepth 1000000
namespace Go.Ev
open Go Go.Proofs.Tryz

noncomputable def q45 : MFn := ⟨(.seq (.reg [.ev (some 4) none (.a (.al [.i (.ofNat 0), .s [], .i (.ofNat 0), .i (.ofNat 0)]))])
 (.seq (.reg [.ev (some 10) none (.w (.mv (.t 0))),
 .ev (some 11) none (.w (.mv (.t 1))),
 .ev (some 12) none (.w (.ixs (.t 10) (.t 11))),
 .ev (some 5) none (.w (.mv (.t 12)))])
 (.seq (.blk 0 (.seq (.reg [.ev (some 14) none (.w (.mv (.t 5))),
 .ev (some 15) none (.m (.call 122 [.t 14])),
 .ev (some 13) none (.w (.mv (.t 15)))])
 (.cond (.t 13) (.seq (.reg [.ev (some 16) none (.w (.mv (.t 0))),
 .ev (some 17) none (.w (.mv (.t 1))),
 .ev (some 18) none (.w (.mv (.t 1))),
 .ev (some 19) none (.w (.mv (.t 0))),
 .ev (some 20) none (.w (.mv (.t 1))),
 .ev (some 21) none (.m (.call 123 [.t 19, .t 20, .k (.c (.f 122 []))])),
 .ev (some 22) none (.w (.bin .add (.t 18) (.t 21))),
 .ev (some 23) none (.w (.sls (.t 16) (some (.t 17)) (some (.t 22)))),
 .ev (some 6) none (.w (.mv (.t 23)))])
 (.seq (.seq (.reg [.ev (some 24) none (.w (.mv (.t 6))),
 .ev (some 25) none (.w (.lns (.t 24))),
 .ev (some 26) none (.w (.bin .gtr (.t 25) (.k (.c (.i (.ofNat 8))))))])
 (.cond (.t 26) (.seq (.reg [.ev (some 27) none (.w (.build [.i (.ofNat 0), .s [], .i (.ofNat 0), .i (.ofNat 0)] [])),
 .ev none none (.m (.st 4 (.t 4) (.t 27)))])
 .ret) .skip))
 (.seq (.seq (.reg [.ev (some 28) none (.w (.mv (.t 5))),
 .ev (some 29) none (.m (.call 124 [.t 28]))])
 (.cond (.t 29) (.seq (.reg [.ev (some 30) none (.w (.mv (.t 6))),
 .ev (some 31) none (.w (.mv (.t 1))),
 .ev (some 32) none (.w (.build [.i (.ofNat 0), .s [], .i (.ofNat 0), .i (.ofNat 0)] [(0, 1, .k (.c (.i (.ofNat 1)))), (1, 1, .t 30), (2, 1, .k (.c (.i (.ofNat 0)))), (3, 1, .t 31)])),
 .ev none none (.m (.st 4 (.t 4) (.t 32)))])
 .ret) .skip))
 (.seq (.reg [.ev (some 33) none (.w (.mv (.t 6))),
 .ev (some 34) none (.w (.mv (.t 1))),
 .ev (some 35) none (.w (.build [.i (.ofNat 0), .s [], .i (.ofNat 0), .i (.ofNat 0)] [(0, 1, .k (.c (.i (.ofNat 2)))), (1, 1, .t 33), (2, 1, .k (.c (.i (.ofNat 0)))), (3, 1, .t 34)])),
 .ev none none (.m (.st 4 (.t 4) (.t 35)))])
 .ret)))) (.seq (.reg [.ev (some 37) none (.w (.mv (.t 5))),
 .ev (some 38) none (.m (.call 125 [.t 37])),
 .ev (some 36) none (.w (.mv (.t 38)))])
 (.cond (.t 36) (.seq (.reg [.ev (some 39) none (.w (.mv (.t 0))),
 .ev (some 40) none (.w (.mv (.t 1))),
 .ev (some 41) none (.w (.mv (.t 1))),
 .ev (some 42) none (.w (.mv (.t 0))),
 .ev (some 43) none (.w (.mv (.t 1))),
 .ev (some 44) none (.m (.call 123 [.t 42, .t 43, .k (.c (.f 125 []))])),
 .ev (some 45) none (.w (.bin .add (.t 41) (.t 44))),
 .ev (some 46) none (.w (.sls (.t 39) (some (.t 40)) (some (.t 45)))),
 .ev (some 7) none (.w (.mv (.t 46)))])
 (.seq (.reg [.ev (some 48) none (.w (.mv (.t 7))),
 .ev (some 49) none (.m (.call 126 [.t 48])),
 .ev (some 47) none (.w (.mv (.t 49))),
 .ev (some 50) none (.w (.ext 0 (.t 47))),
 .ev (some 51) none (.w (.ext 1 (.t 47))),
 .ev (some 8) none (.w (.mv (.t 50))),
 .ev (some 9) none (.w (.mv (.t 51)))])
 (.seq (.seq (.reg [.ev (some 52) none (.w (.mv (.t 9))),
 .ev (some 53) none (.w (.un .not (.t 52)))])
 (.cond (.t 53) (.seq (.reg [.ev (some 54) none (.w (.build [.i (.ofNat 0), .s [], .i (.ofNat 0), .i (.ofNat 0)] [])),
 .ev none none (.m (.st 4 (.t 4) (.t 54)))])
 .ret) .skip))
 (.seq (.reg [.ev (some 55) none (.w (.mv (.t 7))),
 .ev (some 56) none (.w (.mv (.t 8))),
 .ev (some 57) none (.w (.mv (.t 1))),
 .ev (some 58) none (.w (.build [.i (.ofNat 0), .s [], .i (.ofNat 0), .i (.ofNat 0)] [(0, 1, .k (.c (.i (.ofNat 3)))), (1, 1, .t 55), (2, 1, .t 56), (3, 1, .t 57)])),
 .ev none none (.m (.st 4 (.t 4) (.t 58)))])
 .ret)))) (.seq (.seq (.reg [.ev (some 60) none (.w (.mv (.t 0))),
 .ev (some 61) none (.w (.mv (.t 1))),
 .ev (some 62) none (.w (.sls (.t 60) (some (.t 61)) none)),
 .ev (some 63) none (.m (.call 127 [.t 62, .k (.c (.s [45, 62]))])),
 .ev (some 59) none (.w (.mv (.t 63)))])
 (.cond (.t 59) .skip (.reg [.ev (some 64) none (.w (.mv (.t 0))),
 .ev (some 65) none (.w (.mv (.t 1))),
 .ev (some 66) none (.w (.sls (.t 64) (some (.t 65)) none)),
 .ev (some 67) none (.m (.call 127 [.t 66, .k (.c (.s [61, 61]))])),
 .ev (some 59) none (.w (.mv (.t 67)))])))
 (.cond (.t 59) (.seq (.reg [.ev (some 68) none (.w (.mv (.t 0))),
 .ev (some 69) none (.w (.mv (.t 1))),
 .ev (some 70) none (.w (.mv (.t 1))),
 .ev (some 71) none (.w (.bin .add (.t 70) (.k (.c (.i (.ofNat 2)))))),
 .ev (some 72) none (.w (.sls (.t 68) (some (.t 69)) (some (.t 71)))),
 .ev (some 73) none (.w (.mv (.t 1))),
 .ev (some 74) none (.w (.build [.i (.ofNat 0), .s [], .i (.ofNat 0), .i (.ofNat 0)] [(0, 1, .k (.c (.i (.ofNat 4)))), (1, 1, .t 72), (2, 1, .k (.c (.i (.ofNat 0)))), (3, 1, .t 73)])),
 .ev none none (.m (.st 4 (.t 4) (.t 74)))])
 .ret) (.seq (.reg [.ev (some 76) none (.w (.mv (.t 5))),
 .ev (some 77) none (.m (.call 128 [.k (.c (.s [40, 41, 123, 125, 59, 61, 124, 43, 45, 42, 60, 95])), .t 76])),
 .ev (some 78) none (.w (.bin .geq (.t 77) (.k (.c (.i (.ofNat 0)))))),
 .ev (some 75) none (.w (.mv (.t 78)))])
 (.cond (.t 75) (.seq (.reg [.ev (some 79) none (.w (.mv (.t 0))),
 .ev (some 80) none (.w (.mv (.t 1))),
 .ev (some 81) none (.w (.mv (.t 1))),
 .ev (some 82) none (.w (.bin .add (.t 81) (.k (.c (.i (.ofNat 1)))))),
 .ev (some 83) none (.w (.sls (.t 79) (some (.t 80)) (some (.t 82)))),
 .ev (some 84) none (.w (.mv (.t 1))),
 .ev (some 85) none (.w (.build [.i (.ofNat 0), .s [], .i (.ofNat 0), .i (.ofNat 0)] [(0, 1, .k (.c (.i (.ofNat 4)))), (1, 1, .t 83), (2, 1, .k (.c (.i (.ofNat 0)))), (3, 1, .t 84)])),
 .ev none none (.m (.st 4 (.t 4) (.t 85)))])
 .ret) .skip)))))))))
 (.seq (.reg [.ev (some 86) none (.w (.build [.i (.ofNat 0), .s [], .i (.ofNat 0), .i (.ofNat 0)] [])),
 .ev none none (.m (.st 4 (.t 4) (.t 86)))])
 .ret)))), [.c (some 4) 4]⟩
theorem c45 : cFn ty ibs (cDraw ty ibs) [] f45 = some q45 := by decide +kernel
noncomputable def q46 : MFn := ⟨(.seq (.reg [.ev (some 4) none (.w (.mv (.k (.c (.b false)))))])
 (.seq (.reg [.ev (some 6) none (.w (.mv (.t 0))),
 .ev (some 7) none (.m (.call 18 [.t 6])),
 .ev (some 5) none (.a (.al [.i (.ofNat 0), .s [], .i (.ofNat 0), .i (.ofNat 0)])),
 .ev none none (.m (.st 4 (.t 5) (.t 7)))])
 (.seq (.reg [.ev (some 8) none (.w (.fad 1 (.t 5))),
 .ev (some 9) none (.r (.ld none (.t 8))),
 .ev (some 10) none (.w (.mv (.t 1))),
 .ev (some 11) none (.w (.bin .eql (.t 9) (.t 10))),
 .ev (some 12) none (.w (.mv (.t 11))),
 .ev (some 13) (some (12, true)) (.w (.fad 0 (.t 5))),
 .ev (some 14) (some (12, true)) (.r (.ld none (.t 13))),
 .ev (some 15) (some (12, true)) (.w (.bin .eql (.t 14) (.k (.c (.i (.ofNat 4)))))),
 .ev (some 16) (some (12, true)) (.w (.mv (.t 15))),
 .ev (some 17) (some (16, false)) (.w (.fad 0 (.t 5))),
 .ev (some 18) (some (16, false)) (.r (.ld none (.t 17))),
 .ev (some 19) (some (16, false)) (.w (.bin .eql (.t 18) (.k (.c (.i (.ofNat 1)))))),
 .ev (some 20) (some (12, true)) (.w (.pick (.t 16) (.k (.c (.b true))) (.t 19))),
 .ev (some 21) none (.w (.pick (.t 12) (.t 20) (.k (.c (.b false))))),
 .ev (some 4) none (.w (.mv (.t 21)))])
 .ret))), [.t 4]⟩
theorem c46 : cFn ty ibs (cDraw ty ibs) [] f46 = some q46 := by decide +kernel
noncomputable def q47 : MFn := ⟨(.seq (.reg [.ev (some 2) none (.w (.mv (.t 0))),
 .ev (some 3) none (.w (.nilc (.t 2))),
 .ev (some 4) none (.w (.fad 1 (.t 3))),
 .ev (some 5) none (.r (.ld none (.t 4))),
 .ev (some 6) none (.w (.mv (.t 0))),
 .ev (some 7) none (.w (.nilc (.t 6))),
 .ev (some 8) none (.w (.fad 0 (.t 7))),
 .ev (some 9) none (.r (.ld none (.t 8))),
 .ev (some 10) none (.w (.lnl (.t 9))),
 .ev (some 11) none (.w (.bin .sub (.t 10) (.k (.c (.i (.ofNat 1)))))),
 .ev (some 12) none (.w (.bin .lss (.t 5) (.t 11)))])
 (.cond (.t 12) (.reg [.ev (some 13) none (.w (.mv (.t 0))),
 .ev (some 14) none (.w (.nilc (.t 13))),
 .ev (some 15) none (.w (.fad 1 (.t 14))),
 .ev (some 16) none (.r (.ld none (.t 15))),
 .ev (some 17) none (.w (.bin .add (.t 16) (.k (.c (.i (.ofNat 1)))))),
 .ev (some 18) none (.w (.nilc (.t 13))),
 .ev (some 19) none (.w (.fad 1 (.t 18))),
 .ev none none (.m (.st 1 (.t 19) (.t 17)))]) .skip)), []⟩
theorem c47 : cFn ty ibs (cDraw ty ibs) [[.ev 0, .ev 1, .ev 2, .ev 3, .ev 4, .ev 5, .ev 6, .ev 7, .ev 8, .ev 9, .ev 10]] f47 = some q47 := by decide +kernel
noncomputable def q48 : MFn := ⟨(.seq (.reg [.ev (some 2) none (.w (.mv (.k (.c (.s [])))))])
 (.seq (.reg [.ev (some 3) none (.w (.mv (.t 0))),
 .ev (some 4) none (.w (.mv (.t 0))),
 .ev (some 5) none (.m (.call 130 [.t 4])),
 .ev (some 6) none (.m (.call 129 [.t 3, .t 5])),
 .ev (some 2) none (.w (.mv (.t 6)))])
 .ret)), [.t 2]⟩
theorem c48 : cFn ty ibs (cDraw ty ibs) [] f48 = some q48 := by decide +kernel
noncomputable def q49 : MFn := ⟨(.seq (.reg [.ev (some 2) none (.w (.mv (.k (.c (.b false)))))])
 (.seq (.reg [.ev (some 3) none (.w (.mv (.t 0))),
 .ev (some 4) none (.m (.call 18 [.t 3])),
 .ev (some 5) none (.w (.fld 0 none (.t 4))),
 .ev (some 6) none (.w (.bin .eql (.t 5) (.k (.c (.i (.ofNat 1)))))),
 .ev (some 7) none (.w (.mv (.t 6))),
 .ev (some 8) (some (7, true)) (.w (.mv (.t 0))),
 .ev (some 9) (some (7, true)) (.m (.call 18 [.t 8])),
 .ev (some 10) (some (7, true)) (.w (.fld 1 none (.t 9))),
 .ev (some 11) (some (7, true)) (.m (.call 131 [.t 10])),
 .ev (some 12) (some (7, true)) (.w (.un .not (.t 11))),
 .ev (some 13) none (.w (.pick (.t 7) (.t 12) (.k (.c (.b false))))),
 .ev (some 2) none (.w (.mv (.t 13)))])
 .ret)), [.t 2]⟩
theorem c49 : cFn ty ibs (cDraw ty ibs) [] f49 = some q49 := by decide +kernel
noncomputable def q50 : MFn := ⟨(.seq (.reg [.ev (some 2) none (.w (.mv (.k (.c (.s [])))))])
 (.seq (.reg [.ev (some 3) none (.w (.mv (.t 0))),
 .ev (some 4) none (.w (.mv (.t 0))),
 .ev (some 5) none (.m (.call 49 [.t 4])),
 .ev (some 6) none (.m (.call 129 [.t 3, .t 5])),
 .ev (some 2) none (.w (.mv (.t 6)))])
 .ret)), [.t 2]⟩
theorem c50 : cFn ty ibs (cDraw ty ibs) [] f50 = some q50 := by decide +kernel
noncomputable def q51 : MFn := ⟨(.seq (.reg [.ev (some 4) none (.w (.mv (.t 0))),
 .ev (some 5) none (.w (.mv (.t 1))),
 .ev (some 6) none (.m (.call 15 [.t 4, .t 5])),
 .ev (some 7) none (.w (.un .not (.t 6)))])
 (.cond (.t 7) (.reg [.ev (some 8) none (.w (.mv (.t 0))),
 .ev (some 9) none (.m (.call 19 [.t 8]))]) .skip)), []⟩
theorem c51 : cFn ty ibs (cDraw ty ibs) [] f51 = some q51 := by decide +kernel
noncomputable def q52 : MFn := ⟨(.seq (.reg [.ev (some 2) none (.w (.mv (.k (.c (.b false)))))])
 (.seq (.reg [.ev (some 3) none (.w (.mv (.t 0))),
 .ev (some 4) none (.w (.nilc (.t 3))),
 .ev (some 5) none (.w (.fad 2 (.t 4))),
 .ev (some 6) none (.r (.ld none (.t 5))),
 .ev (some 7) none (.w (.bin .lss (.t 6) (.k (.c (.i (.ofNat 0)))))),
 .ev (some 8) none (.w (.mv (.t 7))),
 .ev (some 9) (some (8, true)) (.w (.mv (.t 0))),
 .ev (some 10) (some (8, true)) (.m (.call 49 [.t 9])),
 .ev (some 11) (some (8, true)) (.w (.mv (.t 10))),
 .ev (some 12) (some (11, false)) (.w (.mv (.t 0))),
 .ev (some 13) (some (11, false)) (.m (.call 18 [.t 12])),
 .ev (some 14) (some (11, false)) (.w (.fld 0 none (.t 13))),
 .ev (some 15) (some (11, false)) (.w (.bin .eql (.t 14) (.k (.c (.i (.ofNat 2)))))),
 .ev (some 16) (some (8, true)) (.w (.pick (.t 11) (.k (.c (.b true))) (.t 15))),
 .ev (some 17) (some (8, true)) (.w (.mv (.t 16))),
 .ev (some 18) (some (17, false)) (.w (.mv (.t 0))),
 .ev (some 19) (some (17, false)) (.m (.call 46 [.t 18, .k (.c (.s [40]))])),
 .ev (some 20) (some (8, true)) (.w (.pick (.t 17) (.k (.c (.b true))) (.t 19))),
 .ev (some 21) none (.w (.pick (.t 8) (.t 20) (.k (.c (.b false))))),
 .ev (some 2) none (.w (.mv (.t 21)))])
 .ret)), [.t 2]⟩
theorem c52 : cFn ty ibs (cDraw ty ibs) [] f52 = some q52 := by decide +kernel
noncomputable def q53 : MFn := ⟨(.seq (.reg [.ev (some 4) none (.a (.al [.i (.ofNat 0), .i (.ofNat 0), .s [], .l0]))])
 (.seq (.reg [.ev (some 8) none (.w (.mv (.t 0))),
 .ev (some 9) none (.m (.call 18 [.t 8])),
 .ev (some 5) none (.a (.al [.i (.ofNat 0), .s [], .i (.ofNat 0), .i (.ofNat 0)])),
 .ev none none (.m (.st 4 (.t 5) (.t 9)))])
 (.seq (.blk 0 (.seq (.reg [.ev (some 11) none (.w (.mv (.t 0))),
 .ev (some 12) none (.m (.call 49 [.t 11])),
 .ev (some 10) none (.w (.mv (.t 12)))])
 (.cond (.t 10) (.seq (.reg [.ev (some 13) none (.w (.mv (.t 1))),
 .ev (some 14) none (.w (.fad 1 (.t 5))),
 .ev (some 15) none (.r (.ld none (.t 14))),
 .ev (some 16) none (.m (.call 132 [.t 13, .t 15])),
 .ev (some 6) none (.w (.mv (.t 16)))])
 (.seq (.reg [.ev (some 17) none (.w (.mv (.t 0))),
 .ev (some 18) none (.w (.mv (.t 0))),
 .ev (some 19) none (.w (.nilc (.t 18))),
 .ev (some 20) none (.w (.fad 3 (.t 19))),
 .ev (some 21) none (.r (.ld none (.t 20))),
 .ev (some 22) none (.w (.mv (.t 21))),
 .ev (some 23) (some (22, false)) (.w (.mv (.t 6))),
 .ev (some 24) (some (22, false)) (.w (.bin .lss (.t 23) (.k (.c (.i (.ofNat 0)))))),
 .ev (some 25) none (.w (.pick (.t 22) (.k (.c (.b true))) (.t 24))),
 .ev (some 26) none (.w (.nilc (.t 17))),
 .ev (some 27) none (.w (.fad 3 (.t 26))),
 .ev none none (.m (.st 1 (.t 27) (.t 25)))])
 (.seq (.reg [.ev (some 28) none (.w (.mv (.t 0))),
 .ev (some 29) none (.m (.call 47 [.t 28]))])
 (.seq (.reg [.ev (some 30) none (.w (.mv (.t 6))),
 .ev (some 31) none (.w (.build [.i (.ofNat 0), .i (.ofNat 0), .s [], .l0] [(0, 1, .k (.c (.i (.ofNat 2)))), (1, 1, .t 30)])),
 .ev none none (.m (.st 4 (.t 4) (.t 31)))])
 .ret)))) (.seq (.reg [.ev (some 33) none (.w (.fad 0 (.t 5))),
 .ev (some 34) none (.r (.ld none (.t 33))),
 .ev (some 35) none (.w (.bin .eql (.t 34) (.k (.c (.i (.ofNat 2)))))),
 .ev (some 36) none (.w (.mv (.t 35))),
 .ev (some 37) (some (36, true)) (.w (.fad 1 (.t 5))),
 .ev (some 38) (some (36, true)) (.r (.ld none (.t 37))),
 .ev (some 39) (some (36, true)) (.w (.bin .eql (.t 38) (.k (.c (.s [73, 110, 116]))))),
 .ev (some 40) none (.w (.pick (.t 36) (.t 39) (.k (.c (.b false))))),
 .ev (some 32) none (.w (.mv (.t 40)))])
 (.cond (.t 32) (.seq (.reg [.ev (some 41) none (.w (.mv (.t 0))),
 .ev (some 42) none (.m (.call 47 [.t 41]))])
 (.seq (.reg [.ev (some 43) none (.w (.build [.i (.ofNat 0), .i (.ofNat 0), .s [], .l0] [(0, 1, .k (.c (.i (.ofNat 1))))])),
 .ev none none (.m (.st 4 (.t 4) (.t 43)))])
 .ret)) (.seq (.reg [.ev (some 45) none (.w (.fad 0 (.t 5))),
 .ev (some 46) none (.r (.ld none (.t 45))),
 .ev (some 47) none (.w (.bin .eql (.t 46) (.k (.c (.i (.ofNat 2)))))),
 .ev (some 44) none (.w (.mv (.t 47)))])
 (.cond (.t 44) (.seq (.reg [.ev (some 48) none (.w (.mv (.t 0))),
 .ev (some 49) none (.m (.call 47 [.t 48]))])
 (.seq (.reg [.ev (some 50) none (.w (.fad 1 (.t 5))),
 .ev (some 51) none (.r (.ld none (.t 50))),
 .ev (some 52) none (.w (.build [.i (.ofNat 0), .i (.ofNat 0), .s [], .l0] [(0, 1, .k (.c (.i (.ofNat 4)))), (2, 1, .t 51)])),
 .ev none none (.m (.st 4 (.t 4) (.t 52)))])
 .ret)) .skip)))))))
 (.seq (.reg [.ev (some 53) none (.w (.mv (.t 0))),
 .ev (some 54) none (.m (.call 51 [.t 53, .k (.c (.s [40]))]))])
 (.seq (.reg [.ev (some 55) none (.w (.mv (.t 0))),
 .ev (some 56) none (.w (.mv (.t 1))),
 .ev (some 57) none (.m (.call 133 [.t 55, .t 56])),
 .ev (some 7) none (.a (.al [.i (.ofNat 0), .i (.ofNat 0), .s [], .l0])),
 .ev none none (.m (.st 4 (.t 7) (.t 57)))])
 (.seq (.reg [.ev (some 58) none (.w (.mv (.t 0))),
 .ev (some 59) none (.m (.call 51 [.t 58, .k (.c (.s [41]))]))])
 (.seq (.reg [.ev (some 60) none (.r (.ld (some 4) (.t 7))),
 .ev none none (.m (.st 4 (.t 4) (.t 60)))])
 .ret))))))), [.c (some 4) 4]⟩
theorem c53 : cFn ty ibs (cDraw ty ibs) [] f53 = some q53 := by decide +kernel
noncomputable def q54 : MFn := ⟨(.seq (.reg [.ev (some 3) none (.a (.box (.t 1))),
 .ev (some 4) none (.a (.al [.i (.ofNat 0), .i (.ofNat 0), .s [], .s [], .l0]))])
 (.seq (.reg [.ev (some 7) none (.w (.mv (.t 0))),
 .ev (some 8) none (.m (.call 51 [.t 7, .k (.c (.s [61]))]))])
 (.seq (.reg [.ev (some 9) none (.w (.mv (.t 0))),
 .ev (some 10) none (.m (.call 17 [.t 9])),
 .ev (some 5) none (.a (.al [.i (.ofNat 0), .i (.ofNat 0), .s [], .s [], .l0])),
 .ev none none (.m (.st 5 (.t 5) (.t 10)))])
 (.seq (.reg [.ev (some 11) none (.w (.mv (.t 0))),
 .ev (some 12) none (.m (.call 51 [.t 11, .k (.c (.s [105, 110]))]))])
 (.seq (.reg [.ev (some 13) none (.w (.mv (.t 0))),
 .ev (some 14) none (.m (.call 17 [.t 13])),
 .ev (some 6) none (.a (.al [.i (.ofNat 0), .i (.ofNat 0), .s [], .s [], .l0])),
 .ev none none (.m (.st 5 (.t 6) (.t 14)))])
 (.seq (.reg [.ev (some 15) none (.r (.ld (some 5) (.t 5))),
 .ev (some 16) none (.r (.ld (some 5) (.t 6))),
 .ev (some 17) none (.a (.bsl 5 2 [.i (.ofNat 0), .i (.ofNat 0), .s [], .s [], .l0, .i (.ofNat 0), .i (.ofNat 0), .s [], .s [], .l0] [(0, 5, .t 15), (5, 5, .t 16)])),
 .ev (some 18) none (.w (.fad 4 (.t 3))),
 .ev none none (.m (.st 1 (.t 18) (.t 17)))])
 (.seq (.reg [.ev (some 19) none (.r (.ld (some 5) (.t 3))),
 .ev none none (.m (.st 5 (.t 4) (.t 19)))])
 .ret))))))), [.c (some 5) 4]⟩
theorem c54 : cFn ty ibs (cDraw ty ibs) [] f54 = some q54 := by decide +kernel
noncomputable def q55 : MFn := ⟨(.seq (.reg [.ev (some 2) none (.a (.al [.i (.ofNat 0), .i (.ofNat 0), .s [], .s [], .l0]))])
 (.seq (.reg [.ev (some 7) none (.w (.mv (.t 0))),
 .ev (some 8) none (.m (.call 17 [.t 7])),
 .ev (some 3) none (.a (.al [.i (.ofNat 0), .i (.ofNat 0), .s [], .s [], .l0])),
 .ev none none (.m (.st 5 (.t 3) (.t 8)))])
 (.seq (.reg [.ev (some 9) none (.r (.ld (some 5) (.t 3))),
 .ev (some 10) none (.a (.bsl 5 1 [.i (.ofNat 0), .i (.ofNat 0), .s [], .s [], .l0] [(0, 5, .t 9)])),
 .ev (some 11) none (.w (.build [.i (.ofNat 0), .i (.ofNat 0), .s [], .s [], .l0] [(0, 1, .k (.c (.i (.ofNat 7)))), (4, 1, .t 10)])),
 .ev (some 4) none (.a (.al [.i (.ofNat 0), .i (.ofNat 0), .s [], .s [], .l0])),
 .ev none none (.m (.st 5 (.t 4) (.t 11)))])
 (.seq (.reg [.ev (some 12) none (.w (.mv (.t 0))),
 .ev (some 13) none (.m (.call 51 [.t 12, .k (.c (.s [111, 102]))]))])
 (.seq (.reg [.ev (some 14) none (.w (.mv (.t 0))),
 .ev (some 15) none (.m (.call 51 [.t 14, .k (.c (.s [123]))]))])
 (.seq (.blk 0 (.loop (.seq (.seq (.reg [.ev (some 16) none (.w (.mv (.t 0))),
 .ev (some 17) none (.w (.nilc (.t 16))),
 .ev (some 18) none (.w (.fad 2 (.t 17))),
 .ev (some 19) none (.r (.ld none (.t 18))),
 .ev (some 20) none (.w (.bin .lss (.t 19) (.k (.c (.i (.ofNat 0))))))])
 (.cond (.t 20) .skip (.exit 0)))
 (.blk 1 (.seq (.reg [.ev (some 21) none (.w (.mv (.t 0))),
 .ev (some 22) none (.m (.call 134 [.t 21])),
 .ev (some 5) none (.a (.al [.i (.ofNat 0), .i (.ofNat 0), .s [], .s [], .l0])),
 .ev none none (.m (.st 5 (.t 5) (.t 22)))])
 (.seq (.reg [.ev (some 23) none (.w (.mv (.t 0))),
 .ev (some 24) none (.m (.call 51 [.t 23, .k (.c (.s [45, 62]))]))])
 (.seq (.reg [.ev (some 25) none (.w (.mv (.t 0))),
 .ev (some 26) none (.m (.call 17 [.t 25])),
 .ev (some 6) none (.a (.al [.i (.ofNat 0), .i (.ofNat 0), .s [], .s [], .l0])),
 .ev none none (.m (.st 5 (.t 6) (.t 26)))])
 (.seq (.reg [.ev (some 27) none (.w (.fad 4 (.t 4))),
 .ev (some 28) none (.r (.ld none (.t 27))),
 .ev (some 29) none (.r (.ld (some 5) (.t 5))),
 .ev (some 30) none (.r (.ld (some 5) (.t 6))),
 .ev (some 31) none (.a (.bsl 5 2 [.i (.ofNat 0), .i (.ofNat 0), .s [], .s [], .l0, .i (.ofNat 0), .i (.ofNat 0), .s [], .s [], .l0] [(0, 5, .t 29), (5, 5, .t 30)])),
 .ev (some 32) none (.w (.build [.i (.ofNat 0), .i (.ofNat 0), .s [], .s [], .l0] [(0, 1, .k (.c (.i (.ofNat 8)))), (4, 1, .t 31)])),
 .ev (some 33) none (.a (.bsl 5 1 [.i (.ofNat 0), .i (.ofNat 0), .s [], .s [], .l0] [(0, 5, .t 32)])),
 .ev (some 34) none (.m (.app 5 72 (.t 28) (.t 33))),
 .ev (some 35) none (.w (.fad 4 (.t 4))),
 .ev none none (.m (.st 1 (.t 35) (.t 34)))])
 (.seq (.reg [.ev (some 36) none (.w (.mv (.t 0))),
 .ev (some 37) none (.m (.call 15 [.t 36, .k (.c (.s [59]))])),
 .ev (some 38) none (.w (.un .not (.t 37)))])
 (.cond (.t 38) (.exit 0) .skip))))))))))
 (.seq (.reg [.ev (some 39) none (.w (.mv (.t 0))),
 .ev (some 40) none (.m (.call 51 [.t 39, .k (.c (.s [125]))]))])
 (.seq (.reg [.ev (some 41) none (.r (.ld (some 5) (.t 4))),
 .ev none none (.m (.st 5 (.t 2) (.t 41)))])
 .ret)))))))), [.c (some 5) 2]⟩
theorem c55 : cFn ty ibs (cDraw ty ibs) [] f55 = some q55 := by decide +kernel
noncomputable def q56 : MFn := ⟨(.seq (.reg [.ev (some 2) none (.a (.al [.i (.ofNat 0), .i (.ofNat 0), .s [], .s [], .l0]))])
 (.seq (.reg [.ev (some 6) none (.w (.mv (.t 0))),
 .ev (some 7) none (.m (.call 135 [.t 6])),
 .ev (some 3) none (.a (.al [.i (.ofNat 0), .i (.ofNat 0), .s [], .s [], .l0])),
 .ev none none (.m (.st 5 (.t 3) (.t 7)))])
 (.seq (.reg [.ev (some 4) none (.w (.mv (.k (.c (.i (.ofNat 13))))))])
 (.seq (.seq (.reg [.ev (some 8) none (.w (.mv (.t 0))),
 .ev (some 9) none (.m (.call 15 [.t 8, .k (.c (.s [60]))])),
 .ev (some 10) none (.w (.un .not (.t 9)))])
 (.cond (.t 10) (.seq (.reg [.ev (some 4) none (.w (.mv (.k (.c (.i (.ofNat 14))))))])
 (.seq (.reg [.ev (some 11) none (.w (.mv (.t 0))),
 .ev (some 12) none (.m (.call 15 [.t 11, .k (.c (.s [61, 61]))])),
 .ev (some 13) none (.w (.un .not (.t 12)))])
 (.cond (.t 13) (.seq (.reg [.ev (some 14) none (.r (.ld (some 5) (.t 3))),
 .ev none none (.m (.st 5 (.t 2) (.t 14)))])
 .ret) .skip))) .skip))
 (.seq (.reg [.ev (some 15) none (.w (.mv (.t 0))),
 .ev (some 16) none (.m (.call 135 [.t 15])),
 .ev (some 5) none (.a (.al [.i (.ofNat 0), .i (.ofNat 0), .s [], .s [], .l0])),
 .ev none none (.m (.st 5 (.t 5) (.t 16)))])
 (.seq (.reg [.ev (some 17) none (.w (.mv (.t 4))),
 .ev (some 18) none (.r (.ld (some 5) (.t 3))),
 .ev (some 19) none (.r (.ld (some 5) (.t 5))),
 .ev (some 20) none (.a (.bsl 5 2 [.i (.ofNat 0), .i (.ofNat 0), .s [], .s [], .l0, .i (.ofNat 0), .i (.ofNat 0), .s [], .s [], .l0] [(0, 5, .t 18), (5, 5, .t 19)])),
 .ev (some 21) none (.w (.build [.i (.ofNat 0), .i (.ofNat 0), .s [], .s [], .l0] [(0, 1, .t 17), (4, 1, .t 20)])),
 .ev none none (.m (.st 5 (.t 2) (.t 21)))])
 .ret)))))), [.c (some 5) 2]⟩
theorem c56 : cFn ty ibs (cDraw ty ibs) [] f56 = some q56 := by decide +kernel
noncomputable def q57 : MFn := ⟨(.seq (.reg [.ev (some 4) none (.w (.mv (.k (.c (.b false)))))])
 (.seq (.reg [.ev (some 5) none (.w (.mv (.t 0))),
 .ev (some 6) none (.w (.mv (.t 1))),
 .ev (some 7) none (.m (.call 136 [.t 5, .t 6])),
 .ev (some 8) none (.w (.bin .geq (.t 7) (.k (.c (.i (.ofNat 0)))))),
 .ev (some 4) none (.w (.mv (.t 8)))])
 .ret)), [.t 4]⟩
theorem c57 : cFn ty ibs (cDraw ty ibs) [] f57 = some q57 := by decide +kernel
noncomputable def q58 : MFn := ⟨(.seq (.reg [.ev (some 1) none (.a (.box (.t 0))),
 .ev (some 2) none (.w (.mv (.k (.c (.b false)))))])
 (.seq (.reg [.ev (some 3) none (.r (.ld (some 4) (.t 1))),
 .ev (some 4) none (.m (.call 59 [.t 3])),
 .ev (some 5) none (.w (.bin .gtr (.t 4) (.k (.c (.i (.ofNat 24)))))),
 .ev (some 2) none (.w (.mv (.t 5)))])
 .ret)), [.t 2]⟩
theorem c58 : cFn ty ibs (cDraw ty ibs) [] f58 = some q58 := by decide +kernel
noncomputable def q59 : MFn := ⟨(.seq (.reg [.ev (some 1) none (.a (.box (.t 0))),
 .ev (some 2) none (.w (.mv (.k (.c (.i (.ofNat 0))))))])
 (.seq (.reg [.ev (some 3) none (.w (.mv (.k (.c (.i (.ofNat 0))))))])
 (.seq (.seq (.reg [.ev (some 6) none (.w (.fad 3 (.t 1))),
 .ev (some 7) none (.r (.ld none (.t 6))),
 .ev (some 8) none (.w (.lnl (.t 7))),
 .ev (some 9) none (.w (.mv (.k (.c (.i (.ofNat 0))))))])
 (.blk 0 (.loop (.seq (.reg [.ev (some 10) none (.w (.bin .lss (.t 9) (.t 8)))])
 (.seq (.cond (.t 10) .skip (.exit 0))
 (.seq (.blk 1 (.seq (.reg [.ev (some 11) none (.w (.iad 4 (.t 7) (.t 9))),
 .ev (some 12) none (.r (.ld (some 4) (.t 11))),
 .ev (some 5) none (.a (.al [.i (.ofNat 0), .i (.ofNat 0), .s [], .l0])),
 .ev none none (.m (.st 4 (.t 5) (.t 12)))])
 (.reg [.ev (some 13) none (.w (.mv (.t 3))),
 .ev (some 14) none (.r (.ld (some 4) (.t 5))),
 .ev (some 15) none (.m (.call 59 [.t 14])),
 .ev (some 16) none (.w (.mnx true (.t 13) (.t 15))),
 .ev (some 3) none (.w (.mv (.t 16)))])))
 (.reg [.ev (some 17) none (.w (.bin .add (.t 9) (.k (.c (.i (.ofNat 1)))))),
 .ev (some 9) none (.w (.mv (.t 17)))])))))))
 (.seq (.reg [.ev (some 18) none (.w (.mv (.t 3))),
 .ev (some 19) none (.w (.bin .add (.t 18) (.k (.c (.i (.ofNat 1)))))),
 .ev (some 2) none (.w (.mv (.t 19)))])
 .ret)))), [.t 2]⟩
theorem c59 : cFn ty ibs (cDraw ty ibs) [] f59 = some q59 := by decide +kernel
noncomputable def q60 : MFn := ⟨(.seq (.reg [.ev (some 1) none (.a (.box (.t 0))),
 .ev (some 2) none (.w (.mv (.k (.c (.i (.ofNat 0))))))])
 (.seq (.reg [.ev (some 3) none (.w (.mv (.k (.c (.i (.ofNat 0))))))])
 (.seq (.seq (.reg [.ev (some 6) none (.w (.fad 4 (.t 1))),
 .ev (some 7) none (.r (.ld none (.t 6))),
 .ev (some 8) none (.w (.lnl (.t 7))),
 .ev (some 9) none (.w (.mv (.k (.c (.i (.ofNat 0))))))])
 (.blk 0 (.loop (.seq (.reg [.ev (some 10) none (.w (.bin .lss (.t 9) (.t 8)))])
 (.seq (.cond (.t 10) .skip (.exit 0))
 (.seq (.blk 1 (.seq (.reg [.ev (some 11) none (.w (.iad 5 (.t 7) (.t 9))),
 .ev (some 12) none (.r (.ld (some 5) (.t 11))),
 .ev (some 5) none (.a (.al [.i (.ofNat 0), .i (.ofNat 0), .s [], .s [], .l0])),
 .ev none none (.m (.st 5 (.t 5) (.t 12)))])
 (.reg [.ev (some 13) none (.w (.mv (.t 3))),
 .ev (some 14) none (.r (.ld (some 5) (.t 5))),
 .ev (some 15) none (.m (.call 60 [.t 14])),
 .ev (some 16) none (.w (.mnx true (.t 13) (.t 15))),
 .ev (some 3) none (.w (.mv (.t 16)))])))
 (.reg [.ev (some 17) none (.w (.bin .add (.t 9) (.k (.c (.i (.ofNat 1)))))),
 .ev (some 9) none (.w (.mv (.t 17)))])))))))
 (.seq (.reg [.ev (some 18) none (.w (.mv (.t 3))),
 .ev (some 19) none (.w (.bin .add (.t 18) (.k (.c (.i (.ofNat 1)))))),
 .ev (some 2) none (.w (.mv (.t 19)))])
 .ret)))), [.t 2]⟩
theorem c60 : cFn ty ibs (cDraw ty ibs) [] f60 = some q60 := by decide +kernel
noncomputable def q61 : MFn := ⟨(.seq (.reg [.ev (some 4) none (.w (.mv (.k (.c (.i (.ofNat 0))))))])
 (.seq (.seq (.reg [.ev (some 6) none (.w (.mv (.t 0))),
 .ev (some 7) none (.w (.lnl (.t 6))),
 .ev (some 8) none (.w (.mv (.k (.c (.i (.ofNat 0))))))])
 (.blk 0 (.loop (.seq (.reg [.ev (some 9) none (.w (.bin .lss (.t 8) (.t 7)))])
 (.seq (.cond (.t 9) .skip (.exit 0))
 (.seq (.blk 1 (.seq (.reg [.ev (some 10) none (.w (.mv (.t 8))),
 .ev (some 5) none (.w (.mv (.t 10)))])
 (.seq (.reg [.ev (some 11) none (.w (.mv (.t 1))),
 .ev (some 12) none (.w (.mv (.t 0))),
 .ev (some 13) none (.w (.mv (.t 5))),
 .ev (some 14) none (.w (.iad 3 (.t 12) (.t 13))),
 .ev (some 15) none (.r (.ld (some 3) (.t 14))),
 .ev (some 16) none (.m (.cal (.t 11) [.t 15]))])
 (.cond (.t 16) (.seq (.reg [.ev (some 17) none (.w (.mv (.t 5))),
 .ev (some 4) none (.w (.mv (.t 17)))])
 .ret) .skip))))
 (.reg [.ev (some 18) none (.w (.bin .add (.t 8) (.k (.c (.i (.ofNat 1)))))),
 .ev (some 8) none (.w (.mv (.t 18)))])))))))
 (.seq (.reg [.ev (some 4) none (.w (.mv (.k (.c (.i (.negSucc 0))))))])
 .ret))), [.t 4]⟩
theorem c61 : cFn ty ibs (cDraw ty ibs) [] f61 = some q61 := by decide +kernel
noncomputable def q62 : MFn := ⟨(.seq (.reg [.ev (some 1) none (.a (.box (.t 0))),
 .ev (some 2) none (.w (.mv (.k (.c (.b false)))))])
 (.seq (.reg [.ev (some 7) none (.w (.fad 2 (.t 1))),
 .ev (some 8) none (.r (.ld none (.t 7))),
 .ev (some 9) none (.w (.bin .eql (.t 8) (.k (.c (.s []))))),
 .ev (some 10) none (.w (.fad 3 (.t 1))),
 .ev (some 11) none (.r (.ld none (.t 10))),
 .ev (some 12) none (.w (.bin .eql (.t 11) (.k (.c (.s []))))),
 .ev (some 13) none (.w (.fad 1 (.t 1))),
 .ev (some 14) none (.r (.ld none (.t 13))),
 .ev (some 15) none (.w (.bin .eql (.t 14) (.k (.c (.i (.ofNat 0)))))),
 .ev (some 3) none (.w (.mv (.k (.c (.i (.negSucc 0)))))),
 .ev (some 4) none (.w (.mv (.t 9))),
 .ev (some 5) none (.w (.mv (.t 12))),
 .ev (some 6) none (.w (.mv (.t 15)))])
 (.seq (.seq (.reg [.ev (some 16) none (.w (.fad 0 (.t 1))),
 .ev (some 17) none (.r (.ld none (.t 16)))])
 (.blk 0 (.seq (.reg [.ev (some 19) none (.w (.bin .eql (.t 17) (.k (.c (.i (.ofNat 1)))))),
 .ev (some 18) none (.w (.mv (.t 19)))])
 (.cond (.t 18) (.reg [.ev (some 20) none (.w (.fad 1 (.t 1))),
 .ev (some 21) none (.r (.ld none (.t 20))),
 .ev (some 22) none (.m (.call 137 [.t 21, .k (.c (.i (.ofNat 0))), .k (.c (.i (.ofNat 1073741823)))])),
 .ev (some 3) none (.w (.mv (.k (.c (.i (.ofNat 0)))))),
 .ev (some 6) none (.w (.mv (.t 22)))]) (.seq (.reg [.ev (some 24) none (.w (.bin .eql (.t 17) (.k (.c (.i (.ofNat 2)))))),
 .ev (some 23) none (.w (.mv (.t 24)))])
 (.cond (.t 23) (.reg [.ev (some 25) none (.w (.fad 2 (.t 1))),
 .ev (some 26) none (.r (.ld none (.t 25))),
 .ev (some 27) none (.m (.call 138 [.t 26])),
 .ev (some 3) none (.w (.mv (.k (.c (.i (.ofNat 0)))))),
 .ev (some 4) none (.w (.mv (.t 27)))]) (.seq (.reg [.ev (some 29) none (.w (.bin .eql (.t 17) (.k (.c (.i (.ofNat 3)))))),
 .ev (some 28) none (.w (.mv (.t 29)))])
 (.cond (.t 28) (.reg [.ev (some 30) none (.w (.fad 2 (.t 1))),
 .ev (some 31) none (.r (.ld none (.t 30))),
 .ev (some 32) none (.m (.call 138 [.t 31])),
 .ev (some 3) none (.w (.mv (.k (.c (.i (.ofNat 1)))))),
 .ev (some 4) none (.w (.mv (.t 32)))]) (.seq (.reg [.ev (some 34) none (.w (.bin .eql (.t 17) (.k (.c (.i (.ofNat 16)))))),
 .ev (some 33) none (.w (.mv (.t 34)))])
 (.cond (.t 33) (.reg [.ev (some 3) none (.w (.mv (.k (.c (.i (.ofNat 1))))))]) (.seq (.reg [.ev (some 36) none (.w (.bin .eql (.t 17) (.k (.c (.i (.ofNat 5)))))),
 .ev (some 35) none (.w (.mv (.t 36)))])
 (.cond (.t 35) (.reg [.ev (some 37) none (.w (.fad 2 (.t 1))),
 .ev (some 38) none (.r (.ld none (.t 37))),
 .ev (some 39) none (.m (.call 138 [.t 38])),
 .ev (some 3) none (.w (.mv (.k (.c (.i (.ofNat 2)))))),
 .ev (some 4) none (.w (.mv (.t 39)))]) (.seq (.reg [.ev (some 41) none (.w (.bin .eql (.t 17) (.k (.c (.i (.ofNat 6)))))),
 .ev (some 40) none (.w (.mv (.t 41)))])
 (.cond (.t 40) (.reg [.ev (some 42) none (.w (.fad 2 (.t 1))),
 .ev (some 43) none (.r (.ld none (.t 42))),
 .ev (some 45) none (.w (.fad 3 (.t 1))),
 .ev (some 46) none (.r (.ld none (.t 45))),
 .mk (some 44) none (.call 138 [.t 43]) [(46, .ld none (.t 45))] [],
 .mk (some 47) none (.call 138 [.t 46]) [] [],
 .ev (some 3) none (.w (.mv (.k (.c (.i (.ofNat 2)))))),
 .ev (some 4) none (.w (.mv (.t 44))),
 .ev (some 5) none (.w (.mv (.t 47)))]) (.seq (.seq (.reg [.ev (some 49) none (.w (.bin .eql (.t 17) (.k (.c (.i (.ofNat 4)))))),
 .ev (some 48) none (.w (.mv (.t 49)))])
 (.cond (.t 48) .skip (.seq (.reg [.ev (some 50) none (.w (.bin .eql (.t 17) (.k (.c (.i (.ofNat 10)))))),
 .ev (some 48) none (.w (.mv (.t 50)))])
 (.cond (.t 48) .skip (.seq (.reg [.ev (some 51) none (.w (.bin .eql (.t 17) (.k (.c (.i (.ofNat 11)))))),
 .ev (some 48) none (.w (.mv (.t 51)))])
 (.cond (.t 48) .skip (.seq (.reg [.ev (some 52) none (.w (.bin .eql (.t 17) (.k (.c (.i (.ofNat 12)))))),
 .ev (some 48) none (.w (.mv (.t 52)))])
 (.cond (.t 48) .skip (.seq (.reg [.ev (some 53) none (.w (.bin .eql (.t 17) (.k (.c (.i (.ofNat 13)))))),
 .ev (some 48) none (.w (.mv (.t 53)))])
 (.cond (.t 48) .skip (.reg [.ev (some 54) none (.w (.bin .eql (.t 17) (.k (.c (.i (.ofNat 14)))))),
 .ev (some 48) none (.w (.mv (.t 54)))])))))))))))
 (.cond (.t 48) (.reg [.ev (some 3) none (.w (.mv (.k (.c (.i (.ofNat 2))))))]) (.seq (.reg [.ev (some 56) none (.w (.bin .eql (.t 17) (.k (.c (.i (.ofNat 9)))))),
 .ev (some 55) none (.w (.mv (.t 56)))])
 (.cond (.t 55) (.reg [.ev (some 3) none (.w (.mv (.k (.c (.i (.ofNat 3))))))]) (.seq (.reg [.ev (some 58) none (.w (.bin .eql (.t 17) (.k (.c (.i (.ofNat 15)))))),
 .ev (some 57) none (.w (.mv (.t 58)))])
 (.cond (.t 57) (.reg [.ev (some 59) none (.w (.fad 4 (.t 1))),
 .ev (some 60) none (.r (.ld none (.t 59))),
 .ev (some 61) none (.w (.lnl (.t 60))),
 .ev (some 62) none (.w (.fad 2 (.t 1))),
 .ev (some 63) none (.r (.ld none (.t 62))),
 .mk (some 64) none (.call 139 [.t 63]) [(60, .ld none (.t 59))] [],
 .ev (some 3) none (.w (.mv (.t 61))),
 .ev (some 4) none (.w (.mv (.t 64)))]) (.seq (.reg [.ev (some 66) none (.w (.bin .eql (.t 17) (.k (.c (.i (.ofNat 7)))))),
 .ev (some 65) none (.w (.mv (.t 66)))])
 (.cond (.t 65) (.seq (.reg [.ev (some 67) none (.w (.mv (.t 6))),
 .ev (some 68) none (.w (.mv (.t 67))),
 .ev (some 69) (some (68, true)) (.w (.mv (.t 4))),
 .ev (some 70) none (.w (.pick (.t 68) (.t 69) (.k (.c (.b false))))),
 .ev (some 71) none (.w (.mv (.t 70))),
 .ev (some 72) (some (71, true)) (.w (.mv (.t 5))),
 .ev (some 73) none (.w (.pick (.t 71) (.t 72) (.k (.c (.b false))))),
 .ev (some 74) none (.w (.mv (.t 73))),
 .ev (some 75) (some (74, true)) (.w (.fad 4 (.t 1))),
 .ev (some 76) (some (74, true)) (.r (.ld none (.t 75))),
 .ev (some 77) (some (74, true)) (.w (.lnl (.t 76))),
 .ev (some 78) (some (74, true)) (.w (.bin .geq (.t 77) (.k (.c (.i (.ofNat 2)))))),
 .ev (some 79) none (.w (.pick (.t 74) (.t 78) (.k (.c (.b false))))),
 .ev (some 80) none (.w (.mv (.t 79))),
 .ev (some 81) (some (80, true)) (.w (.fad 4 (.t 1))),
 .ev (some 82) (some (80, true)) (.r (.ld none (.t 81))),
 .ev (some 83) (some (80, true)) (.w (.iad 5 (.t 82) (.k (.c (.i (.ofNat 0)))))),
 .ev (some 84) (some (80, true)) (.r (.ld (some 5) (.t 83))),
 .ev (some 85) (some (80, true)) (.m (.call 62 [.t 84])),
 .ev (some 86) none (.w (.pick (.t 80) (.t 85) (.k (.c (.b false))))),
 .ev (some 87) none (.w (.mv (.t 86))),
 .ev (some 88) (some (87, true)) (.w (.fad 4 (.t 1))),
 .ev (some 89) (some (87, true)) (.r (.ld none (.t 88))),
 .ev (some 90) (some (87, true)) (.w (.sll 5 (.t 89) (some (.k (.c (.i (.ofNat 1))))) none none)),
 .ev (some 91) (some (87, true)) (.m (.call 140 [.t 90, .k (.c (.f 141 []))])),
 .ev (some 92) none (.w (.pick (.t 87) (.t 91) (.k (.c (.b false))))),
 .ev (some 2) none (.w (.mv (.t 92)))])
 .ret) .skip))))))))))))))))))))))
 (.seq (.reg [.ev (some 93) none (.w (.mv (.t 6))),
 .ev (some 94) none (.w (.mv (.t 93))),
 .ev (some 95) (some (94, true)) (.w (.mv (.t 4))),
 .ev (some 96) none (.w (.pick (.t 94) (.t 95) (.k (.c (.b false))))),
 .ev (some 97) none (.w (.mv (.t 96))),
 .ev (some 98) (some (97, true)) (.w (.mv (.t 5))),
 .ev (some 99) none (.w (.pick (.t 97) (.t 98) (.k (.c (.b false))))),
 .ev (some 100) none (.w (.mv (.t 99))),
 .ev (some 101) (some (100, true)) (.w (.fad 4 (.t 1))),
 .ev (some 102) (some (100, true)) (.r (.ld none (.t 101))),
 .ev (some 103) (some (100, true)) (.w (.lnl (.t 102))),
 .ev (some 104) (some (100, true)) (.w (.mv (.t 3))),
 .ev (some 105) (some (100, true)) (.w (.bin .eql (.t 103) (.t 104))),
 .ev (some 106) none (.w (.pick (.t 100) (.t 105) (.k (.c (.b false))))),
 .ev (some 107) none (.w (.mv (.t 106))),
 .ev (some 108) (some (107, true)) (.w (.fad 4 (.t 1))),
 .ev (some 109) (some (107, true)) (.r (.ld none (.t 108))),
 .ev (some 110) (some (107, true)) (.m (.call 140 [.t 109, .k (.c (.f 62 []))])),
 .ev (some 111) none (.w (.pick (.t 107) (.t 110) (.k (.c (.b false))))),
 .ev (some 2) none (.w (.mv (.t 111)))])
 .ret)))), [.t 2]⟩
theorem c62 : cFn ty ibs (cDraw ty ibs) [[.ev 0, .ev 1, .ev 2, .ev 3, .ev 4, .ev 5, .ev 6, .ev 7, .ev 8, .ev 9, .ev 10, .ev 11, .ev 12], [.ev 0, .ev 1, .ev 3, .ev 4, .ev 2, .ev 5, .ev 6, .ev 7, .ev 8], [.ev 0, .ev 1, .ev 2, .ev 3, .ev 4, .ev 5, .ev 6, .ev 7]] f62 = some q62 := by decide +kernel
noncomputable def q63 : MFn := ⟨(.seq (.reg [.ev (some 1) none (.a (.box (.t 0))),
 .ev (some 2) none (.w (.mv (.k (.c (.b false)))))])
 (.seq (.reg [.ev (some 3) none (.r (.ld (some 3) (.t 1))),
 .ev (some 4) none (.m (.call 64 [.t 3])),
 .ev (some 5) none (.w (.un .not (.t 4))),
 .ev (some 2) none (.w (.mv (.t 5)))])
 .ret)), [.t 2]⟩
theorem c63 : cFn ty ibs (cDraw ty ibs) [] f63 = some q63 := by decide +kernel
noncomputable def q64 : MFn := ⟨(.seq (.reg [.ev (some 1) none (.a (.box (.t 0))),
 .ev (some 2) none (.w (.mv (.k (.c (.b false)))))])
 (.seq (.seq (.reg [.ev (some 5) none (.w (.fad 0 (.t 1))),
 .ev (some 6) none (.r (.ld none (.t 5))),
 .ev (some 7) none (.m (.call 139 [.t 6])),
 .ev (some 8) none (.w (.un .not (.t 7))),
 .ev (some 9) none (.w (.mv (.t 8))),
 .ev (some 10) (some (9, false)) (.w (.fad 1 (.t 1))),
 .ev (some 11) (some (9, false)) (.r (.ld none (.t 10))),
 .ev (some 12) (some (9, false)) (.m (.call 137 [.t 11, .k (.c (.i (.ofNat 0))), .k (.c (.i (.ofNat 26)))])),
 .ev (some 13) (some (9, false)) (.w (.un .not (.t 12))),
 .ev (some 14) none (.w (.pick (.t 9) (.k (.c (.b true))) (.t 13))),
 .ev (some 15) none (.w (.mv (.t 14))),
 .ev (some 16) (some (15, false)) (.w (.fad 2 (.t 1))),
 .ev (some 17) (some (15, false)) (.r (.ld none (.t 16))),
 .ev (some 18) (some (15, false)) (.w (.lnl (.t 17))),
 .ev (some 19) (some (15, false)) (.w (.bin .eql (.t 18) (.k (.c (.i (.ofNat 0)))))),
 .ev (some 20) none (.w (.pick (.t 15) (.k (.c (.b true))) (.t 19)))])
 (.cond (.t 20) (.seq (.reg [.ev (some 2) none (.w (.mv (.k (.c (.b false)))))])
 .ret) .skip))
 (.seq (.seq (.reg [.ev (some 21) none (.w (.fad 2 (.t 1))),
 .ev (some 22) none (.r (.ld none (.t 21))),
 .ev (some 23) none (.w (.lnl (.t 22))),
 .ev (some 24) none (.w (.mv (.k (.c (.i (.ofNat 0))))))])
 (.blk 0 (.loop (.seq (.reg [.ev (some 25) none (.w (.bin .lss (.t 24) (.t 23)))])
 (.seq (.cond (.t 25) .skip (.exit 0))
 (.seq (.blk 1 (.seq (.reg [.ev (some 26) none (.w (.iad 2 (.t 22) (.t 24))),
 .ev (some 27) none (.r (.ld (some 2) (.t 26))),
 .ev (some 4) none (.a (.al [.s [], .l0])),
 .ev none none (.m (.st 2 (.t 4) (.t 27)))])
 (.seq (.reg [.ev (some 28) none (.w (.fad 0 (.t 4))),
 .ev (some 29) none (.r (.ld none (.t 28))),
 .ev (some 30) none (.m (.call 139 [.t 29])),
 .ev (some 31) none (.w (.un .not (.t 30))),
 .ev (some 32) none (.w (.mv (.t 31))),
 .ev (some 33) (some (32, false)) (.w (.fad 1 (.t 4))),
 .ev (some 34) (some (32, false)) (.r (.ld none (.t 33))),
 .ev (some 35) (some (32, false)) (.w (.mkf 142 [.t 1])),
 .ev (some 36) (some (32, false)) (.m (.call 57 [.t 34, .t 35])),
 .ev (some 37) none (.w (.pick (.t 32) (.k (.c (.b true))) (.t 36)))])
 (.cond (.t 37) (.seq (.reg [.ev (some 2) none (.w (.mv (.k (.c (.b false)))))])
 .ret) .skip))))
 (.reg [.ev (some 38) none (.w (.bin .add (.t 24) (.k (.c (.i (.ofNat 1)))))),
 .ev (some 24) none (.w (.mv (.t 38)))])))))))
 (.seq (.reg [.ev (some 2) none (.w (.mv (.k (.c (.b true)))))])
 .ret)))), [.t 2]⟩
theorem c64 : cFn ty ibs (cDraw ty ibs) [] f64 = some q64 := by decide +kernel
noncomputable def q65 : MFn := ⟨(.seq (.reg [.ev (some 2) none (.w (.mv (.k (.c (.b false)))))])
 (.seq (.reg [.ev (some 8) none (.a (.bsl 1 0 [] [])),
 .ev (some 3) none (.w (.mv (.t 8)))])
 (.seq (.seq (.reg [.ev (some 9) none (.w (.mv (.t 0))),
 .ev (some 10) none (.w (.lnl (.t 9))),
 .ev (some 11) none (.w (.mv (.k (.c (.i (.ofNat 0))))))])
 (.blk 0 (.loop (.seq (.reg [.ev (some 12) none (.w (.bin .lss (.t 11) (.t 10)))])
 (.seq (.cond (.t 12) .skip (.exit 0))
 (.seq (.blk 1 (.seq (.reg [.ev (some 13) none (.w (.mv (.t 11))),
 .ev (some 14) none (.w (.iad 3 (.t 9) (.t 11))),
 .ev (some 15) none (.r (.ld (some 3) (.t 14))),
 .ev (some 5) none (.a (.al [.s [], .i (.ofNat 0), .l0])),
 .ev (some 4) none (.w (.mv (.t 13))),
 .ev none none (.m (.st 3 (.t 5) (.t 15)))])
 (.seq (.seq (.reg [.ev (some 16) none (.w (.mv (.t 0))),
 .ev (some 17) none (.w (.fad 0 (.t 5))),
 .ev (some 18) none (.r (.ld none (.t 17))),
 .ev (some 19) none (.m (.call 68 [.t 16, .t 18])),
 .ev (some 20) none (.w (.mv (.t 4))),
 .ev (some 21) none (.w (.bin .neq (.t 19) (.t 20)))])
 (.cond (.t 21) (.seq (.reg [.ev (some 2) none (.w (.mv (.k (.c (.b true)))))])
 .ret) .skip))
 (.seq (.reg [.ev (some 22) none (.w (.fad 2 (.t 5))),
 .ev (some 23) none (.r (.ld none (.t 22))),
 .ev (some 24) none (.w (.lnl (.t 23))),
 .ev (some 25) none (.w (.mv (.k (.c (.i (.ofNat 0))))))])
 (.blk 2 (.loop (.seq (.reg [.ev (some 26) none (.w (.bin .lss (.t 25) (.t 24)))])
 (.seq (.cond (.t 26) .skip (.exit 2))
 (.seq (.blk 3 (.seq (.reg [.ev (some 27) none (.w (.iad 2 (.t 23) (.t 25))),
 .ev (some 28) none (.r (.ld (some 2) (.t 27))),
 .ev (some 7) none (.a (.al [.s [], .l0])),
 .ev none none (.m (.st 2 (.t 7) (.t 28)))])
 (.seq (.seq (.reg [.ev (some 29) none (.w (.mv (.t 3))),
 .ev (some 30) none (.w (.fad 0 (.t 7))),
 .ev (some 31) none (.r (.ld none (.t 30))),
 .ev (some 32) none (.m (.call 144 [.t 29, .t 31]))])
 (.cond (.t 32) (.seq (.reg [.ev (some 2) none (.w (.mv (.k (.c (.b true)))))])
 .ret) .skip))
 (.reg [.ev (some 33) none (.w (.mv (.t 3))),
 .ev (some 34) none (.w (.fad 0 (.t 7))),
 .ev (some 35) none (.r (.ld none (.t 34))),
 .ev (some 36) none (.a (.bsl 1 1 [.s []] [(0, 1, .t 35)])),
 .ev (some 37) none (.m (.app 1 16 (.t 33) (.t 36))),
 .ev (some 3) none (.w (.mv (.t 37)))]))))
 (.reg [.ev (some 38) none (.w (.bin .add (.t 25) (.k (.c (.i (.ofNat 1)))))),
 .ev (some 25) none (.w (.mv (.t 38)))]))))))))))
 (.reg [.ev (some 39) none (.w (.bin .add (.t 11) (.k (.c (.i (.ofNat 1)))))),
 .ev (some 11) none (.w (.mv (.t 39)))])))))))
 (.seq (.reg [.ev (some 2) none (.w (.mv (.k (.c (.b false)))))])
 .ret)))), [.t 2]⟩
theorem c65 : cFn ty ibs (cDraw ty ibs) [] f65 = some q65 := by decide +kernel
noncomputable def q66 : MFn := ⟨(.seq (.reg [.ev (some 3) none (.a (.box (.t 1))),
 .ev (some 4) none (.w (.mv (.k (.c (.b false)))))])
 (.seq (.seq (.reg [.ev (some 9) none (.w (.mv (.t 0))),
 .ev (some 10) none (.w (.lnl (.t 9))),
 .ev (some 11) none (.w (.mv (.k (.c (.i (.ofNat 0))))))])
 (.blk 0 (.loop (.seq (.reg [.ev (some 12) none (.w (.bin .lss (.t 11) (.t 10)))])
 (.seq (.cond (.t 12) .skip (.exit 0))
 (.seq (.blk 1 (.seq (.reg [.ev (some 13) none (.w (.iad 3 (.t 9) (.t 11))),
 .ev (some 14) none (.r (.ld (some 3) (.t 13))),
 .ev (some 6) none (.a (.al [.s [], .i (.ofNat 0), .l0])),
 .ev none none (.m (.st 3 (.t 6) (.t 14)))])
 (.seq (.reg [.ev (some 15) none (.w (.fad 2 (.t 6))),
 .ev (some 16) none (.r (.ld none (.t 15))),
 .ev (some 17) none (.w (.lnl (.t 16))),
 .ev (some 18) none (.w (.mv (.k (.c (.i (.ofNat 0))))))])
 (.blk 2 (.loop (.seq (.reg [.ev (some 19) none (.w (.bin .lss (.t 18) (.t 17)))])
 (.seq (.cond (.t 19) .skip (.exit 2))
 (.seq (.blk 3 (.seq (.reg [.ev (some 20) none (.w (.iad 2 (.t 16) (.t 18))),
 .ev (some 21) none (.r (.ld (some 2) (.t 20))),
 .ev (some 8) none (.a (.al [.s [], .l0])),
 .ev none none (.m (.st 2 (.t 8) (.t 21)))])
 (.seq (.reg [.ev (some 22) none (.w (.fad 1 (.t 8))),
 .ev (some 23) none (.r (.ld none (.t 22))),
 .ev (some 24) none (.w (.mkf 145 [.t 3])),
 .ev (some 25) none (.m (.call 57 [.t 23, .t 24]))])
 (.cond (.t 25) (.seq (.reg [.ev (some 4) none (.w (.mv (.k (.c (.b true)))))])
 .ret) .skip))))
 (.reg [.ev (some 26) none (.w (.bin .add (.t 18) (.k (.c (.i (.ofNat 1)))))),
 .ev (some 18) none (.w (.mv (.t 26)))])))))))))
 (.reg [.ev (some 27) none (.w (.bin .add (.t 11) (.k (.c (.i (.ofNat 1)))))),
 .ev (some 11) none (.w (.mv (.t 27)))])))))))
 (.seq (.reg [.ev (some 4) none (.w (.mv (.k (.c (.b false)))))])
 .ret))), [.t 4]⟩
theorem c66 : cFn ty ibs (cDraw ty ibs) [] f66 = some q66 := by decide +kernel
noncomputable def q67 : MFn := ⟨(.seq (.reg [.ev (some 2) none (.a (.box (.t 0))),
 .ev (some 3) none (.w (.mv (.k (.c (.b false)))))])
 (.seq (.reg [.ev (some 4) none (.w (.fad 0 (.t 2))),
 .ev (some 5) none (.r (.ld none (.t 4))),
 .ev (some 6) none (.w (.bin .eql (.t 5) (.k (.c (.i (.ofNat 4)))))),
 .ev (some 7) none (.w (.mv (.t 6))),
 .ev (some 8) (some (7, true)) (.r (.ld none (.t 1))),
 .ev (some 9) (some (7, true)) (.w (.fad 2 (.t 2))),
 .ev (some 10) (some (7, true)) (.r (.ld none (.t 9))),
 .ev (some 11) (some (7, true)) (.m (.call 68 [.t 8, .t 10])),
 .ev (some 12) (some (7, true)) (.w (.bin .lss (.t 11) (.k (.c (.i (.ofNat 0)))))),
 .ev (some 13) none (.w (.pick (.t 7) (.t 12) (.k (.c (.b false))))),
 .ev (some 3) none (.w (.mv (.t 13)))])
 .ret)), [.t 3]⟩
theorem c67 : cFn ty ibs (cDraw ty ibs) [] f67 = some q67 := by decide +kernel
noncomputable def q68 : MFn := ⟨(.seq (.reg [.ev (some 3) none (.a (.box (.t 1))),
 .ev (some 4) none (.w (.mv (.k (.c (.i (.ofNat 0))))))])
 (.seq (.reg [.ev (some 5) none (.w (.mv (.t 0))),
 .ev (some 6) none (.w (.mkf 147 [.t 3])),
 .ev (some 7) none (.m (.call 61 [.t 5, .t 6])),
 .ev (some 4) none (.w (.mv (.t 7)))])
 .ret)), [.t 4]⟩
theorem c68 : cFn ty ibs (cDraw ty ibs) [] f68 = some q68 := by decide +kernel
noncomputable def q69 : MFn := ⟨(.seq (.reg [.ev (some 2) none (.a (.box (.t 0))),
 .ev (some 3) none (.w (.mv (.k (.c (.b false)))))])
 (.seq (.reg [.ev (some 4) none (.w (.fad 0 (.t 2))),
 .ev (some 5) none (.r (.ld none (.t 4))),
 .ev (some 6) none (.w (.bin .eql (.t 5) (.k (.c (.i (.ofNat 4)))))),
 .ev (some 7) none (.w (.mv (.t 6))),
 .ev (some 8) (some (7, true)) (.w (.fad 3 (.t 2))),
 .ev (some 9) (some (7, true)) (.r (.ld none (.t 8))),
 .ev (some 10) (some (7, true)) (.w (.lnl (.t 9))),
 .ev (some 11) (some (7, true)) (.r (.ld none (.t 1))),
 .ev (some 12) (some (7, true)) (.r (.ld none (.t 1))),
 .ev (some 13) (some (7, true)) (.w (.fad 2 (.t 2))),
 .ev (some 14) (some (7, true)) (.r (.ld none (.t 13))),
 .mk (some 15) (some (7, true)) (.call 68 [.t 12, .t 14]) [(9, .ld none (.t 8)), (11, .ld none (.t 1))] [],
 .ev (some 16) (some (7, true)) (.w (.iad 3 (.t 11) (.t 15))),
 .ev (some 17) (some (7, true)) (.w (.fad 1 (.t 16))),
 .ev (some 18) (some (7, true)) (.r (.ld none (.t 17))),
 .ev (some 19) (some (7, true)) (.w (.bin .neq (.t 10) (.t 18))),
 .ev (some 20) none (.w (.pick (.t 7) (.t 19) (.k (.c (.b false))))),
 .ev (some 3) none (.w (.mv (.t 20)))])
 .ret)), [.t 3]⟩
theorem c69 : cFn ty ibs (cDraw ty ibs) [[.ev 0, .ev 1, .ev 2, .ev 3, .ev 4, .ev 5, .ev 6, .ev 7, .ev 8, .ev 9, .ev 10, .ev 11, .ev 12, .ev 13, .ev 14, .ev 15, .ev 16, .ev 17]] f69 = some q69 := by decide +kernel
noncomputable def q70 : MFn := ⟨(.seq (.reg [.ev (some 4) none (.w (.mv (.k (.c (.i (.ofNat 0))))))])
 (.seq (.seq (.reg [.ev (some 6) none (.w (.mv (.t 0))),
 .ev (some 7) none (.w (.lnl (.t 6))),
 .ev (some 8) none (.w (.bin .sub (.t 7) (.k (.c (.i (.ofNat 1)))))),
 .ev (some 5) none (.w (.mv (.t 8)))])
 (.blk 0 (.loop (.seq (.seq (.reg [.ev (some 9) none (.w (.mv (.t 5))),
 .ev (some 10) none (.w (.bin .geq (.t 9) (.k (.c (.i (.ofNat 0))))))])
 (.cond (.t 10) .skip (.exit 0)))
 (.seq (.blk 1 (.seq (.reg [.ev (some 13) none (.w (.mv (.t 0))),
 .ev (some 14) none (.w (.mv (.t 5))),
 .ev (some 15) none (.w (.iad 6 (.t 13) (.t 14))),
 .ev (some 16) none (.w (.fad 0 (.t 15))),
 .ev (some 17) none (.r (.ld none (.t 16))),
 .ev (some 18) none (.w (.mv (.t 1))),
 .ev (some 19) none (.w (.bin .eql (.t 17) (.t 18)))])
 (.cond (.t 19) (.seq (.reg [.ev (some 20) none (.w (.mv (.t 5))),
 .ev (some 4) none (.w (.mv (.t 20)))])
 .ret) .skip)))
 (.reg [.ev (some 11) none (.w (.mv (.t 5))),
 .ev (some 12) none (.w (.bin .sub (.t 11) (.k (.c (.i (.ofNat 1)))))),
 .ev (some 5) none (.w (.mv (.t 12)))]))))))
 (.seq (.reg [.ev (some 4) none (.w (.mv (.k (.c (.i (.negSucc 0))))))])
 .ret))), [.t 4]⟩
theorem c70 : cFn ty ibs (cDraw ty ibs) [] f70 = some q70 := by decide +kernel
noncomputable def q71 : MFn := ⟨(.seq (.reg [.ev (some 4) none (.w (.mv (.t 0))),
 .ev (some 5) none (.w (.nilc (.t 4))),
 .ev (some 6) none (.w (.fad 3 (.t 5))),
 .ev (some 7) none (.r (.ld none (.t 6))),
 .ev (some 8) none (.w (.bin .eql (.t 7) (.k (.c (.i (.ofNat 0))))))])
 (.cond (.t 8) (.reg [.ev (some 9) none (.w (.mv (.t 0))),
 .ev (some 10) none (.w (.mv (.t 1))),
 .ev (some 11) none (.w (.nilc (.t 9))),
 .ev (some 12) none (.w (.fad 3 (.t 11))),
 .ev none none (.m (.st 1 (.t 12) (.t 10)))]) .skip)), []⟩
theorem c71 : cFn ty ibs (cDraw ty ibs) [] f71 = some q71 := by decide +kernel
noncomputable def q72 : MFn := ⟨(.seq (.reg [.ev (some 4) none (.w (.mv (.k (.c .l0))))])
 (.seq (.reg [.ev (some 7) none (.a (.bsl 4 0 [] [])),
 .ev (some 5) none (.w (.mv (.t 7)))])
 (.seq (.seq (.reg [.ev (some 8) none (.w (.mv (.t 1))),
 .ev (some 9) none (.w (.mv (.k (.c (.i (.ofNat 0))))))])
 (.blk 0 (.loop (.seq (.reg [.ev (some 10) none (.w (.bin .lss (.t 9) (.t 8)))])
 (.seq (.cond (.t 10) .skip (.exit 0))
 (.seq (.blk 1 (.seq (.reg [.ev (some 11) none (.w (.mv (.t 0))),
 .ev (some 12) none (.m (.call 74 [.t 11])),
 .ev (some 6) none (.a (.al [.i (.ofNat 0), .i (.ofNat 0), .s [], .l0])),
 .ev none none (.m (.st 4 (.t 6) (.t 12)))])
 (.reg [.ev (some 13) none (.w (.mv (.t 5))),
 .ev (some 14) none (.r (.ld (some 4) (.t 6))),
 .ev (some 15) none (.a (.bsl 4 1 [.i (.ofNat 0), .i (.ofNat 0), .s [], .l0] [(0, 4, .t 14)])),
 .ev (some 16) none (.m (.app 4 56 (.t 13) (.t 15))),
 .ev (some 5) none (.w (.mv (.t 16)))])))
 (.reg [.ev (some 17) none (.w (.bin .add (.t 9) (.k (.c (.i (.ofNat 1)))))),
 .ev (some 9) none (.w (.mv (.t 17)))])))))))
 (.seq (.reg [.ev (some 18) none (.w (.mv (.t 5))),
 .ev (some 4) none (.w (.mv (.t 18)))])
 .ret)))), [.t 4]⟩
theorem c72 : cFn ty ibs (cDraw ty ibs) [] f72 = some q72 := by decide +kernel
noncomputable def q73 : MFn := ⟨(.seq (.reg [.ev (some 2) none (.a (.box (.t 0))),
 .ev (some 4) none (.a (.al [.i (.ofNat 0), .i (.ofNat 0), .s [], .l0])),
 .ev (some 5) none (.w (.mv (.k (.c (.b false)))))])
 (.seq (.seq (.reg [.ev (some 6) none (.w (.mv (.t 1))),
 .ev (some 7) none (.w (.lnl (.t 6))),
 .ev (some 8) none (.w (.fad 0 (.t 2))),
 .ev (some 9) none (.r (.ld none (.t 8))),
 .ev (some 10) none (.w (.lnl (.t 9))),
 .ev (some 11) none (.w (.bin .neq (.t 7) (.t 10)))])
 (.cond (.t 11) (.seq (.reg [.ev (some 12) none (.w (.build [.i (.ofNat 0), .i (.ofNat 0), .s [], .l0] [])),
 .ev none none (.m (.st 4 (.t 4) (.t 12))),
 .ev (some 5) none (.w (.mv (.k (.c (.b false)))))])
 .ret) .skip))
 (.seq (.reg [.ev (some 13) none (.w (.fad 1 (.t 2))),
 .ev (some 14) none (.r (.ld (some 4) (.t 13))),
 .ev (some 15) none (.w (.fad 0 (.t 2))),
 .ev (some 16) none (.r (.ld none (.t 15))),
 .ev (some 17) none (.w (.mv (.t 1))),
 .ev (some 18) none (.m (.call 30 [.t 14, .t 16, .t 17])),
 .ev none none (.m (.st 4 (.t 4) (.t 18))),
 .ev (some 5) none (.w (.mv (.k (.c (.b true)))))])
 .ret))), [.c (some 4) 4, .t 5]⟩
theorem c73 : cFn ty ibs (cDraw ty ibs) [] f73 = some q73 := by decide +kernel
noncomputable def q74 : MFn := ⟨(.seq (.reg [.ev (some 2) none (.a (.al [.i (.ofNat 0), .i (.ofNat 0), .s [], .l0]))])
 (.seq (.seq (.reg [.ev (some 3) none (.w (.mv (.t 0))),
 .ev (some 4) none (.w (.nilc (.t 3))),
 .ev (some 5) none (.w (.fad 2 (.t 4))),
 .ev (some 6) none (.r (.ld none (.t 5))),
 .ev (some 7) none (.w (.bin .eql (.t 6) (.k (.c (.i (.ofNat 2000))))))])
 (.cond (.t 7) (.seq (.reg [.ev (some 8) none (.w (.mv (.t 0))),
 .ev (some 9) none (.m (.call 71 [.t 8, .k (.c (.i (.ofNat 5)))]))])
 (.seq (.reg [.ev (some 10) none (.w (.build [.i (.ofNat 0), .i (.ofNat 0), .s [], .l0] [(0, 1, .k (.c (.i (.ofNat 2))))])),
 .ev none none (.m (.st 4 (.t 2) (.t 10)))])
 .ret)) .skip))
 (.seq (.reg [.ev (some 11) none (.w (.mv (.t 0))),
 .ev (some 12) none (.w (.nilc (.t 11))),
 .ev (some 13) none (.w (.fad 2 (.t 12))),
 .ev (some 14) none (.r (.ld none (.t 13))),
 .ev (some 15) none (.w (.bin .add (.t 14) (.k (.c (.i (.ofNat 1)))))),
 .ev (some 16) none (.w (.nilc (.t 11))),
 .ev (some 17) none (.w (.fad 2 (.t 16))),
 .ev none none (.m (.st 1 (.t 17) (.t 15)))])
 (.seq (.reg [.ev (some 18) none (.w (.mv (.t 0))),
 .ev (some 19) none (.w (.nilc (.t 18))),
 .ev (some 20) none (.w (.fad 2 (.t 19))),
 .ev (some 21) none (.r (.ld none (.t 20))),
 .ev (some 22) none (.w (.bin .sub (.t 21) (.k (.c (.i (.ofNat 1)))))),
 .ev (some 23) none (.w (.build [.i (.ofNat 0), .i (.ofNat 0), .s [], .l0] [(0, 1, .k (.c (.i (.ofNat 2)))), (1, 1, .t 22)])),
 .ev none none (.m (.st 4 (.t 2) (.t 23)))])
 .ret)))), [.c (some 4) 2]⟩
theorem c74 : cFn ty ibs (cDraw ty ibs) [] f74 = some q74 := by decide +kernel
noncomputable def q75 : MFn := ⟨(.seq (.reg [.ev (some 5) none (.a (.box (.t 2))),
 .ev (some 6) none (.w (.mv (.k (.c .l0))))])
 (.seq (.reg [.ev (some 7) none (.w (.mv (.t 0))),
 .ev (some 9) none (.w (.mv (.t 1))),
 .ev (some 10) none (.r (.ld (some 5) (.t 5))),
 .ev (some 11) none (.w (.build [.s [], .l0, .i (.ofNat 0), .i (.ofNat 0), .s [], .l0] [(0, 1, .t 9), (1, 5, .t 10)])),
 .ev (some 12) none (.a (.bsl 6 1 [.s [], .l0, .i (.ofNat 0), .i (.ofNat 0), .s [], .l0] [(0, 6, .t 11)])),
 .mk (some 8) none (.call 148 [.t 7]) [(10, .ld (some 5) (.t 5))] [(12, .bsl 6 1 [.s [], .l0, .i (.ofNat 0), .i (.ofNat 0), .s [], .l0] [(0, 6, .t 11)])],
 .mk (some 13) none (.app 6 96 (.t 8) (.t 12)) [] [],
 .ev (some 6) none (.w (.mv (.t 13)))])
 .ret)), [.t 6]⟩
theorem c75 : cFn ty ibs (cDraw ty ibs) [[.ev 0, .ev 2, .ev 3, .ev 4, .ev 5, .ev 1, .ev 6, .ev 7]] f75 = some q75 := by decide +kernel
noncomputable def q76 : MFn := ⟨(.seq (.reg [.ev (some 2) none (.a (.box (.t 0))),
 .ev (some 3) none (.a (.box (.t 1))),
 .ev (some 4) none (.a (.al [.i (.ofNat 0), .i (.ofNat 0), .s [], .l0]))])
 (.seq (.reg [.ev (some 5) none (.r (.ld (some 4) (.t 2))),
 .ev (some 6) none (.r (.ld (some 4) (.t 3))),
 .ev (some 7) none (.a (.bsl 4 2 [.i (.ofNat 0), .i (.ofNat 0), .s [], .l0, .i (.ofNat 0), .i (.ofNat 0), .s [], .l0] [(0, 4, .t 5), (4, 4, .t 6)])),
 .ev (some 8) none (.w (.build [.i (.ofNat 0), .i (.ofNat 0), .s [], .l0] [(0, 1, .k (.c (.i (.ofNat 3)))), (3, 1, .t 7)])),
 .ev none none (.m (.st 4 (.t 4) (.t 8)))])
 .ret)), [.c (some 4) 4]⟩
theorem c76 : cFn ty ibs (cDraw ty ibs) [] f76 = some q76 := by decide +kernel
noncomputable def q77 : MFn := ⟨(.seq (.reg [.ev (some 4) none (.a (.box (.t 1))),
 .ev (some 5) none (.a (.box (.t 2)))])
 (.seq (.seq (.reg [.ev (some 8) none (.w (.mv (.t 0))),
 .ev (some 9) none (.w (.nilc (.t 8))),
 .ev (some 10) none (.w (.fad 3 (.t 9))),
 .ev (some 11) none (.r (.ld none (.t 10))),
 .ev (some 12) none (.w (.bin .neq (.t 11) (.k (.c (.i (.ofNat 0))))))])
 (.cond (.t 12) .ret .skip))
 (.seq (.seq (.reg [.ev (some 13) none (.r (.ld (some 4) (.t 4))),
 .ev (some 14) none (.m (.call 86 [.t 13])),
 .ev (some 15) none (.w (.un .not (.t 14))),
 .ev (some 16) none (.w (.mv (.t 15))),
 .ev (some 17) (some (16, false)) (.r (.ld (some 4) (.t 5))),
 .ev (some 18) (some (16, false)) (.m (.call 86 [.t 17])),
 .ev (some 19) (some (16, false)) (.w (.un .not (.t 18))),
 .ev (some 20) none (.w (.pick (.t 16) (.k (.c (.b true))) (.t 19)))])
 (.cond (.t 20) (.seq (.reg [.ev (some 21) none (.w (.mv (.t 0))),
 .ev (some 22) none (.m (.call 71 [.t 21, .k (.c (.i (.ofNat 4)))]))])
 .ret) .skip))
 (.seq (.reg [.ev (some 24) none (.w (.mv (.t 0))),
 .ev (some 25) none (.w (.nilc (.t 24))),
 .ev (some 26) none (.w (.fad 1 (.t 25))),
 .ev (some 27) none (.r (.ld none (.t 26))),
 .ev (some 28) none (.r (.ld (some 4) (.t 4))),
 .ev (some 29) none (.r (.ld (some 4) (.t 5))),
 .mk (some 30) none (.call 149 [.t 27, .t 28, .t 29]) [] [],
 .ev (some 23) none (.w (.mv (.t 30))),
 .ev (some 31) none (.w (.ext 0 (.t 23))),
 .ev (some 32) none (.w (.ext 1 (.t 23))),
 .ev (some 6) none (.w (.mv (.t 31))),
 .ev (some 7) none (.w (.mv (.t 32)))])
 (.seq (.seq (.reg [.ev (some 33) none (.w (.mv (.t 7))),
 .ev (some 34) none (.w (.un .not (.t 33)))])
 (.cond (.t 34) (.seq (.reg [.ev (some 35) none (.w (.mv (.t 0))),
 .ev (some 36) none (.m (.call 71 [.t 35, .k (.c (.i (.ofNat 4)))]))])
 .ret) .skip))
 (.reg [.ev (some 37) none (.w (.mv (.t 0))),
 .ev (some 38) none (.w (.mv (.t 6))),
 .ev (some 39) none (.w (.nilc (.t 37))),
 .ev (some 40) none (.w (.fad 1 (.t 39))),
 .ev none none (.m (.st 1 (.t 40) (.t 38)))])))))), []⟩
theorem c77 : cFn ty ibs (cDraw ty ibs) [[.ev 0, .ev 1, .ev 2, .ev 3, .ev 4, .ev 5, .ev 6, .ev 7, .ev 8, .ev 9, .ev 10, .ev 11]] f77 = some q77 := by decide +kernel
noncomputable def q78 : MFn := ⟨(.seq (.reg [.ev (some 5) none (.a (.box (.t 1)))])
 (.seq (.reg [.ev (some 15) none (.w (.build [.l0, .i (.ofNat 0), .i (.ofNat 0), .s [], .l0] [])),
 .ev (some 8) none (.a (.al [.l0, .i (.ofNat 0), .i (.ofNat 0), .s [], .l0])),
 .ev none none (.m (.st 5 (.t 8) (.t 15)))])
 (.seq (.seq (.reg [.ev (some 16) none (.w (.fad 0 (.t 5))),
 .ev (some 17) none (.r (.ld none (.t 16))),
 .ev (some 18) none (.w (.bin .eql (.t 17) (.k (.c (.i (.ofNat 5))))))])
 (.cond (.t 18) (.seq (.reg [.ev (some 19) none (.w (.mv (.t 0))),
 .ev (some 20) none (.w (.fad 4 (.t 5))),
 .ev (some 21) none (.r (.ld none (.t 20))),
 .ev (some 22) none (.w (.iad 5 (.t 21) (.k (.c (.i (.ofNat 0)))))),
 .ev (some 23) none (.r (.ld (some 5) (.t 22))),
 .ev (some 24) none (.w (.mv (.t 3))),
 .ev (some 25) none (.m (.call 25 [.t 19, .t 23, .t 24])),
 .ev (some 9) none (.a (.al [.i (.ofNat 0), .i (.ofNat 0), .s [], .s [], .i (.ofNat 0), .i (.ofNat 0), .s [], .l0, .l0, .l0, .l0])),
 .ev none none (.m (.st 11 (.t 9) (.t 25)))])
 (.seq (.reg [.ev (some 26) none (.w (.mv (.t 2))),
 .ev (some 27) none (.w (.nilc (.t 26))),
 .ev (some 28) none (.w (.fad 10 (.t 27))),
 .ev (some 29) none (.r (.ld none (.t 28))),
 .ev (some 30) none (.r (.ld (some 11) (.t 9))),
 .ev (some 31) none (.w (.lnl (.t 29))),
 .ev (some 32) none (.a (.bsl 11 1 [.i (.ofNat 0), .i (.ofNat 0), .s [], .s [], .i (.ofNat 0), .i (.ofNat 0), .s [], .l0, .l0, .l0, .l0] [(0, 11, .k (.a [.i (.ofNat 0), .i (.ofNat 0), .s [], .s [], .i (.ofNat 0), .i (.ofNat 0), .s [], .l0, .l0, .l0, .l0]))])),
 .mk (some 33) none (.app 11 176 (.t 29) (.t 32)) [] [],
 .ev (some 34) none (.w (.iad 11 (.t 33) (.t 31))),
 .ev (some 35) none (.w (.nilc (.t 26))),
 .ev (some 36) none (.w (.fad 10 (.t 35))),
 .e2  11 (.t 34) (.t 30)  1 (.t 36) (.t 33)])
 (.reg [.ev (some 37) none (.w (.mv (.t 0))),
 .ev (some 38) none (.w (.mv (.t 3))),
 .ev (some 39) none (.w (.fad 4 (.t 9))),
 .ev (some 40) none (.r (.ld (some 4) (.t 39))),
 .ev (some 41) none (.m (.call 150 [.t 37, .t 38, .t 40])),
 .ev none none (.m (.st 5 (.t 8) (.t 41)))]))) (.seq (.reg [.ev (some 42) none (.w (.mv (.t 0))),
 .ev (some 43) none (.m (.call 74 [.t 42])),
 .ev (some 10) none (.a (.al [.i (.ofNat 0), .i (.ofNat 0), .s [], .l0])),
 .ev none none (.m (.st 4 (.t 10) (.t 43)))])
 (.seq (.reg [.ev (some 44) none (.w (.mv (.t 0))),
 .ev (some 45) none (.m (.call 74 [.t 44])),
 .ev (some 11) none (.a (.al [.i (.ofNat 0), .i (.ofNat 0), .s [], .l0])),
 .ev none none (.m (.st 4 (.t 11) (.t 45)))])
 (.seq (.reg [.ev (some 46) none (.w (.mv (.t 2))),
 .ev (some 47) none (.r (.ld (some 4) (.t 10))),
 .ev (some 48) none (.a (.bsl 4 1 [.i (.ofNat 0), .i (.ofNat 0), .s [], .l0] [(0, 4, .t 47)])),
 .ev (some 49) none (.w (.nilc (.t 46))),
 .ev (some 50) none (.w (.fad 8 (.t 49))),
 .ev none none (.m (.st 1 (.t 50) (.t 48)))])
 (.seq (.reg [.ev (some 51) none (.w (.mv (.t 3))),
 .ev (some 52) none (.w (.fad 2 (.t 5))),
 .ev (some 53) none (.r (.ld none (.t 52))),
 .ev (some 54) none (.r (.ld (some 4) (.t 10))),
 .ev (some 55) none (.r (.ld (some 4) (.t 11))),
 .ev (some 59) none (.w (.fad 3 (.t 5))),
 .ev (some 60) none (.r (.ld none (.t 59))),
 .ev (some 61) none (.r (.ld (some 4) (.t 10))),
 .ev (some 62) none (.w (.build [.l0, .i (.ofNat 0), .i (.ofNat 0), .s [], .l0] [(1, 4, .t 61)])),
 .mk (some 56) none (.call 76 [.t 54, .t 55]) [(53, .ld none (.t 52)), (60, .ld none (.t 59)), (61, .ld (some 4) (.t 10))] [],
 .ev (some 57) none (.w (.build [.l0, .i (.ofNat 0), .i (.ofNat 0), .s [], .l0] [(1, 4, .t 56)])),
 .mk (some 58) none (.call 75 [.t 51, .t 53, .t 57]) [(60, .ld none (.t 59)), (61, .ld (some 4) (.t 10))] [],
 .mk (some 63) none (.call 75 [.t 58, .t 60, .t 62]) [] [],
 .ev (some 12) none (.w (.mv (.t 63)))])
 (.seq (.reg [.ev (some 64) none (.w (.mv (.t 0))),
 .ev (some 65) none (.w (.fad 4 (.t 5))),
 .ev (some 66) none (.r (.ld none (.t 65))),
 .ev (some 67) none (.w (.iad 5 (.t 66) (.k (.c (.i (.ofNat 0)))))),
 .ev (some 68) none (.r (.ld (some 5) (.t 67))),
 .ev (some 69) none (.w (.mv (.t 12))),
 .ev (some 70) none (.m (.call 25 [.t 64, .t 68, .t 69])),
 .ev (some 13) none (.a (.al [.i (.ofNat 0), .i (.ofNat 0), .s [], .s [], .i (.ofNat 0), .i (.ofNat 0), .s [], .l0, .l0, .l0, .l0])),
 .ev none none (.m (.st 11 (.t 13) (.t 70)))])
 (.seq (.reg [.ev (some 71) none (.w (.mv (.t 0))),
 .ev (some 72) none (.w (.fad 4 (.t 13))),
 .ev (some 73) none (.r (.ld (some 4) (.t 72))),
 .ev (some 74) none (.r (.ld (some 4) (.t 11))),
 .ev (some 75) none (.m (.call 77 [.t 71, .t 73, .t 74]))])
 (.seq (.reg [.ev (some 76) none (.w (.mv (.t 2))),
 .ev (some 77) none (.w (.nilc (.t 76))),
 .ev (some 78) none (.w (.fad 10 (.t 77))),
 .ev (some 79) none (.r (.ld none (.t 78))),
 .ev (some 80) none (.r (.ld (some 11) (.t 13))),
 .ev (some 81) none (.w (.lnl (.t 79))),
 .ev (some 82) none (.a (.bsl 11 1 [.i (.ofNat 0), .i (.ofNat 0), .s [], .s [], .i (.ofNat 0), .i (.ofNat 0), .s [], .l0, .l0, .l0, .l0] [(0, 11, .k (.a [.i (.ofNat 0), .i (.ofNat 0), .s [], .s [], .i (.ofNat 0), .i (.ofNat 0), .s [], .l0, .l0, .l0, .l0]))])),
 .mk (some 83) none (.app 11 176 (.t 79) (.t 82)) [] [],
 .ev (some 84) none (.w (.iad 11 (.t 83) (.t 81))),
 .ev (some 85) none (.w (.nilc (.t 76))),
 .ev (some 86) none (.w (.fad 10 (.t 85))),
 .e2  11 (.t 84) (.t 80)  1 (.t 86) (.t 83)])
 (.reg [.ev (some 87) none (.w (.mv (.t 0))),
 .ev (some 88) none (.w (.mv (.t 3))),
 .ev (some 89) none (.r (.ld (some 4) (.t 10))),
 .ev (some 90) none (.r (.ld (some 4) (.t 11))),
 .ev (some 91) none (.m (.call 76 [.t 89, .t 90])),
 .ev (some 92) none (.m (.call 150 [.t 87, .t 88, .t 91])),
 .ev none none (.m (.st 5 (.t 8) (.t 92)))]))))))))))
 (.seq (.reg [.ev (some 93) none (.w (.mv (.t 2))),
 .ev (some 94) none (.w (.fad 0 (.t 8))),
 .ev (some 95) none (.r (.ld none (.t 94))),
 .ev (some 96) none (.m (.call 85 [.t 95])),
 .ev (some 97) none (.w (.nilc (.t 93))),
 .ev (some 98) none (.w (.fad 9 (.t 97))),
 .ev none none (.m (.st 1 (.t 98) (.t 96)))])
 (.seq (.reg [.ev (some 99) none (.w (.mv (.t 0))),
 .ev (some 100) none (.w (.fad 4 (.t 5))),
 .ev (some 101) none (.r (.ld none (.t 100))),
 .ev (some 102) none (.w (.iad 5 (.t 101) (.k (.c (.i (.ofNat 1)))))),
 .ev (some 103) none (.r (.ld (some 5) (.t 102))),
 .ev (some 104) none (.w (.mv (.t 3))),
 .ev (some 105) none (.w (.fad 2 (.t 5))),
 .ev (some 106) none (.r (.ld none (.t 105))),
 .ev (some 107) none (.r (.ld (some 5) (.t 8))),
 .ev (some 14) none (.a (.al [.i (.ofNat 0), .i (.ofNat 0), .s [], .s [], .i (.ofNat 0), .i (.ofNat 0), .s [], .l0, .l0, .l0, .l0])),
 .mk (some 108) none (.call 75 [.t 104, .t 106, .t 107]) [(101, .ld none (.t 100)), (103, .ld (some 5) (.t 102))] [(14, .al [.i (.ofNat 0), .i (.ofNat 0), .s [], .s [], .i (.ofNat 0), .i (.ofNat 0), .s [], .l0, .l0, .l0, .l0])],
 .mk (some 109) none (.call 25 [.t 99, .t 103, .t 108]) [] [(14, .al [.i (.ofNat 0), .i (.ofNat 0), .s [], .s [], .i (.ofNat 0), .i (.ofNat 0), .s [], .l0, .l0, .l0, .l0])],
 .mk none none (.st 11 (.t 14) (.t 109)) [] []])
 (.seq (.reg [.ev (some 110) none (.w (.mv (.t 2))),
 .ev (some 111) none (.w (.nilc (.t 110))),
 .ev (some 112) none (.w (.fad 10 (.t 111))),
 .ev (some 113) none (.r (.ld none (.t 112))),
 .ev (some 114) none (.r (.ld (some 11) (.t 14))),
 .ev (some 115) none (.w (.lnl (.t 113))),
 .ev (some 116) none (.a (.bsl 11 1 [.i (.ofNat 0), .i (.ofNat 0), .s [], .s [], .i (.ofNat 0), .i (.ofNat 0), .s [], .l0, .l0, .l0, .l0] [(0, 11, .k (.a [.i (.ofNat 0), .i (.ofNat 0), .s [], .s [], .i (.ofNat 0), .i (.ofNat 0), .s [], .l0, .l0, .l0, .l0]))])),
 .mk (some 117) none (.app 11 176 (.t 113) (.t 116)) [] [],
 .ev (some 118) none (.w (.iad 11 (.t 117) (.t 115))),
 .ev (some 119) none (.w (.nilc (.t 110))),
 .ev (some 120) none (.w (.fad 10 (.t 119))),
 .e2  11 (.t 118) (.t 114)  1 (.t 120) (.t 117)])
 (.reg [.ev (some 121) none (.w (.mv (.t 2))),
 .ev (some 122) none (.w (.fad 4 (.t 14))),
 .ev (some 123) none (.r (.ld (some 4) (.t 122))),
 .ev (some 124) none (.w (.nilc (.t 121))),
 .ev (some 125) none (.w (.fad 4 (.t 124))),
 .ev none none (.m (.st 4 (.t 125) (.t 123)))]))))))), []⟩
theorem c78 : cFn ty ibs (cDraw ty ibs) [[.ev 0, .ev 1, .ev 2, .ev 3, .ev 4, .ev 5, .ev 6, .ev 7, .ev 8, .ev 10, .ev 11, .e2 9 12], [.ev 0, .ev 1, .ev 2, .ev 3, .ev 4, .ev 8, .ev 9, .ev 10, .ev 11, .ev 5, .ev 6, .ev 7, .ev 12, .ev 13], [.ev 0, .ev 1, .ev 2, .ev 3, .ev 4, .ev 5, .ev 6, .ev 7, .ev 8, .ev 10, .ev 11, .e2 9 12], [.ev 0, .ev 1, .ev 2, .ev 3, .ev 4, .ev 5, .ev 6, .ev 7, .ev 8, .ev 11, .ev 9, .ev 10, .ev 12], [.ev 0, .ev 1, .ev 2, .ev 3, .ev 4, .ev 5, .ev 6, .ev 7, .ev 8, .ev 10, .ev 11, .e2 9 12]] f78 = some q78 := by decide +kernel
end Go.Ev
