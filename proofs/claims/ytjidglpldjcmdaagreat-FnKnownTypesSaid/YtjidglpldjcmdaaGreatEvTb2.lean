/-
The table: functions in the evaluator's form, each checked against the program.
-/
import Derived.Test.YtjidglpldjcmdaaGreatEvTb0
set_option linter.unusedVariables false
set_option maxRecDepth 1000000
namespace Go.Ev
open Go Go.Proofs.Tryz

noncomputable def q26 : MFn := ⟨(.seq (.reg [.ev (some 3) none (.a (.box (.t 1))),
 .ev (some 4) none (.a (.al [.i (.ofNat 0), .i (.ofNat 0), .s [], .s [], .i (.ofNat 0), .i (.ofNat 0), .s [], .l0, .l0, .l0, .l0]))])
 (.seq (.reg [.ev (some 10) none (.w (.fad 0 (.t 3))),
 .ev (some 11) none (.r (.ld none (.t 10))),
 .ev (some 12) none (.w (.fad 1 (.t 3))),
 .ev (some 13) none (.r (.ld none (.t 12))),
 .ev (some 14) none (.w (.fad 2 (.t 3))),
 .ev (some 15) none (.r (.ld none (.t 14))),
 .ev (some 16) none (.w (.fad 3 (.t 3))),
 .ev (some 17) none (.r (.ld none (.t 16))),
 .ev (some 18) none (.w (.mv (.t 0))),
 .ev (some 19) none (.w (.fad 4 (.t 3))),
 .ev (some 20) none (.r (.ld (some 4) (.t 19))),
 .ev (some 22) none (.w (.fad 9 (.t 3))),
 .ev (some 23) none (.r (.ld none (.t 22))),
 .ev (some 5) none (.a (.al [.i (.ofNat 0), .i (.ofNat 0), .s [], .s [], .i (.ofNat 0), .i (.ofNat 0), .s [], .l0, .l0, .l0, .l0])),
 .mk (some 21) none (.call 84 [.t 18, .t 20]) [(11, .ld none (.t 10)), (13, .ld none (.t 12)), (15, .ld none (.t 14)), (17, .ld none (.t 16)), (23, .ld none (.t 22))] [(5, .al [.i (.ofNat 0), .i (.ofNat 0), .s [], .s [], .i (.ofNat 0), .i (.ofNat 0), .s [], .l0, .l0, .l0, .l0])],
 .mk (some 24) none (.call 85 [.t 23]) [(11, .ld none (.t 10)), (13, .ld none (.t 12)), (15, .ld none (.t 14)), (17, .ld none (.t 16))] [(5, .al [.i (.ofNat 0), .i (.ofNat 0), .s [], .s [], .i (.ofNat 0), .i (.ofNat 0), .s [], .l0, .l0, .l0, .l0])],
 .ev (some 25) none (.w (.build [.i (.ofNat 0), .i (.ofNat 0), .s [], .s [], .i (.ofNat 0), .i (.ofNat 0), .s [], .l0, .l0, .l0, .l0] [(0, 1, .t 11), (1, 1, .t 13), (2, 1, .t 15), (3, 1, .t 17), (4, 4, .t 21), (9, 1, .t 24)])),
 .mk none none (.st 11 (.t 5) (.t 25)) [] []])
 (.seq (.seq (.reg [.ev (some 26) none (.w (.fad 8 (.t 3))),
 .ev (some 27) none (.r (.ld none (.t 26))),
 .ev (some 28) none (.w (.lnl (.t 27))),
 .ev (some 29) none (.w (.mv (.k (.c (.i (.ofNat 0))))))])
 (.blk 0 (.loop (.seq (.reg [.ev (some 30) none (.w (.bin .lss (.t 29) (.t 28)))])
 (.seq (.cond (.t 30) .skip (.exit 0))
 (.seq (.blk 1 (.seq (.reg [.ev (some 31) none (.w (.iad 4 (.t 27) (.t 29))),
 .ev (some 32) none (.r (.ld (some 4) (.t 31))),
 .ev (some 7) none (.a (.al [.i (.ofNat 0), .i (.ofNat 0), .s [], .l0])),
 .ev none none (.m (.st 4 (.t 7) (.t 32)))])
 (.reg [.ev (some 33) none (.w (.fad 8 (.t 5))),
 .ev (some 34) none (.r (.ld none (.t 33))),
 .ev (some 35) none (.w (.mv (.t 0))),
 .ev (some 36) none (.r (.ld (some 4) (.t 7))),
 .mk (some 37) none (.call 84 [.t 35, .t 36]) [(34, .ld none (.t 33))] [],
 .ev (some 38) none (.a (.bsl 4 1 [.i (.ofNat 0), .i (.ofNat 0), .s [], .l0] [(0, 4, .t 37)])),
 .mk (some 39) none (.app 4 56 (.t 34) (.t 38)) [] [],
 .ev (some 40) none (.w (.fad 8 (.t 5))),
 .mk none none (.st 1 (.t 40) (.t 39)) [] []])))
 (.reg [.ev (some 41) none (.w (.bin .add (.t 29) (.k (.c (.i (.ofNat 1)))))),
 .ev (some 29) none (.w (.mv (.t 41)))])))))))
 (.seq (.seq (.reg [.ev (some 42) none (.w (.fad 10 (.t 3))),
 .ev (some 43) none (.r (.ld none (.t 42))),
 .ev (some 44) none (.w (.lnl (.t 43))),
 .ev (some 45) none (.w (.mv (.k (.c (.i (.ofNat 0))))))])
 (.blk 2 (.loop (.seq (.reg [.ev (some 46) none (.w (.bin .lss (.t 45) (.t 44)))])
 (.seq (.cond (.t 46) .skip (.exit 2))
 (.seq (.blk 3 (.seq (.reg [.ev (some 47) none (.w (.iad 11 (.t 43) (.t 45))),
 .ev (some 48) none (.r (.ld (some 11) (.t 47))),
 .ev (some 9) none (.a (.al [.i (.ofNat 0), .i (.ofNat 0), .s [], .s [], .i (.ofNat 0), .i (.ofNat 0), .s [], .l0, .l0, .l0, .l0])),
 .ev none none (.m (.st 11 (.t 9) (.t 48)))])
 (.reg [.ev (some 49) none (.w (.fad 10 (.t 5))),
 .ev (some 50) none (.r (.ld none (.t 49))),
 .ev (some 51) none (.w (.mv (.t 0))),
 .ev (some 52) none (.r (.ld (some 11) (.t 9))),
 .mk (some 53) none (.call 26 [.t 51, .t 52]) [(50, .ld none (.t 49))] [],
 .ev (some 54) none (.a (.bsl 11 1 [.i (.ofNat 0), .i (.ofNat 0), .s [], .s [], .i (.ofNat 0), .i (.ofNat 0), .s [], .l0, .l0, .l0, .l0] [(0, 11, .t 53)])),
 .mk (some 55) none (.app 11 176 (.t 50) (.t 54)) [] [],
 .ev (some 56) none (.w (.fad 10 (.t 5))),
 .mk none none (.st 1 (.t 56) (.t 55)) [] []])))
 (.reg [.ev (some 57) none (.w (.bin .add (.t 45) (.k (.c (.i (.ofNat 1)))))),
 .ev (some 45) none (.w (.mv (.t 57)))])))))))
 (.seq (.reg [.ev (some 58) none (.r (.ld (some 11) (.t 5))),
 .ev none none (.m (.st 11 (.t 4) (.t 58)))])
 .ret))))), [.c (some 11) 4]⟩
theorem c26 : cFn ty ibs (cDraw ty ibs) [[.ev 0, .ev 1, .ev 2, .ev 3, .ev 4, .ev 5, .ev 6, .ev 7, .ev 8, .ev 9, .ev 10, .ev 12, .ev 13, .ev 16, .ev 11, .ev 14, .ev 15, .ev 17], [.ev 0, .ev 1, .ev 2, .ev 3, .ev 4, .ev 5, .ev 6, .ev 7, .ev 8], [.ev 0, .ev 1, .ev 2, .ev 3, .ev 4, .ev 5, .ev 6, .ev 7, .ev 8]] f26 = some q26 := by decide +kernel
noncomputable def q27 : MFn := ⟨(.seq (.reg [.ev (some 1) none (.a (.box (.t 0))),
 .ev (some 2) none (.w (.mv (.k (.c (.b false)))))])
 (.seq (.reg [.ev (some 3) none (.w (.fad 4 (.t 1))),
 .ev (some 4) none (.r (.ld (some 4) (.t 3))),
 .ev (some 5) none (.m (.call 86 [.t 4])),
 .ev (some 6) none (.w (.mv (.t 5))),
 .ev (some 7) (some (6, true)) (.w (.fad 8 (.t 1))),
 .ev (some 8) (some (6, true)) (.r (.ld none (.t 7))),
 .ev (some 9) (some (6, true)) (.m (.call 57 [.t 8, .k (.c (.f 87 []))])),
 .ev (some 10) (some (6, true)) (.w (.un .not (.t 9))),
 .ev (some 11) none (.w (.pick (.t 6) (.t 10) (.k (.c (.b false))))),
 .ev (some 12) none (.w (.mv (.t 11))),
 .ev (some 13) (some (12, true)) (.w (.fad 10 (.t 1))),
 .ev (some 14) (some (12, true)) (.r (.ld none (.t 13))),
 .ev (some 15) (some (12, true)) (.m (.call 88 [.t 14, .k (.c (.f 89 []))])),
 .ev (some 16) (some (12, true)) (.w (.un .not (.t 15))),
 .ev (some 17) none (.w (.pick (.t 12) (.t 16) (.k (.c (.b false))))),
 .ev (some 2) none (.w (.mv (.t 17)))])
 .ret)), [.t 2]⟩
theorem c27 : cFn ty ibs (cDraw ty ibs) [] f27 = some q27 := by decide +kernel
noncomputable def q28 : MFn := ⟨(.seq (.reg [.ev (some 2) none (.a (.box (.t 0))),
 .ev (some 4) none (.w (.mv (.k (.c .l0))))])
 (.seq (.seq (.reg [.ev (some 7) none (.w (.fad 0 (.t 2))),
 .ev (some 8) none (.r (.ld none (.t 7))),
 .ev (some 9) none (.w (.bin .eql (.t 8) (.k (.c (.i (.ofNat 2)))))),
 .ev (some 10) none (.w (.mv (.t 9))),
 .ev (some 11) (some (10, true)) (.w (.fad 3 (.t 2))),
 .ev (some 12) (some (10, true)) (.r (.ld none (.t 11))),
 .ev (some 13) (some (10, true)) (.w (.lnl (.t 12))),
 .ev (some 14) (some (10, true)) (.w (.bin .eql (.t 13) (.k (.c (.i (.ofNat 0)))))),
 .ev (some 15) none (.w (.pick (.t 10) (.t 14) (.k (.c (.b false))))),
 .ev (some 16) none (.w (.mv (.t 15))),
 .ev (some 17) (some (16, true)) (.w (.mv (.t 1))),
 .ev (some 18) (some (16, true)) (.w (.fad 1 (.t 2))),
 .ev (some 19) (some (16, true)) (.r (.ld none (.t 18))),
 .ev (some 20) (some (16, true)) (.m (.call 90 [.t 17, .t 19])),
 .ev (some 21) (some (16, true)) (.w (.un .not (.t 20))),
 .ev (some 22) none (.w (.pick (.t 16) (.t 21) (.k (.c (.b false)))))])
 (.cond (.t 22) (.reg [.ev (some 23) none (.w (.mv (.t 1))),
 .ev (some 24) none (.w (.fad 1 (.t 2))),
 .ev (some 25) none (.r (.ld none (.t 24))),
 .ev (some 26) none (.a (.bsl 1 1 [.i (.ofNat 0)] [(0, 1, .t 25)])),
 .ev (some 27) none (.m (.app 1 8 (.t 23) (.t 26))),
 .ev (some 1) none (.w (.mv (.t 27)))]) .skip))
 (.seq (.seq (.reg [.ev (some 28) none (.w (.fad 3 (.t 2))),
 .ev (some 29) none (.r (.ld none (.t 28))),
 .ev (some 30) none (.w (.lnl (.t 29))),
 .ev (some 31) none (.w (.mv (.k (.c (.i (.ofNat 0))))))])
 (.blk 0 (.loop (.seq (.reg [.ev (some 32) none (.w (.bin .lss (.t 31) (.t 30)))])
 (.seq (.cond (.t 32) .skip (.exit 0))
 (.seq (.blk 1 (.seq (.reg [.ev (some 33) none (.w (.iad 4 (.t 29) (.t 31))),
 .ev (some 34) none (.r (.ld (some 4) (.t 33))),
 .ev (some 6) none (.a (.al [.i (.ofNat 0), .i (.ofNat 0), .s [], .l0])),
 .ev none none (.m (.st 4 (.t 6) (.t 34)))])
 (.reg [.ev (some 35) none (.r (.ld (some 4) (.t 6))),
 .ev (some 36) none (.w (.mv (.t 1))),
 .ev (some 37) none (.m (.call 28 [.t 35, .t 36])),
 .ev (some 1) none (.w (.mv (.t 37)))])))
 (.reg [.ev (some 38) none (.w (.bin .add (.t 31) (.k (.c (.i (.ofNat 1)))))),
 .ev (some 31) none (.w (.mv (.t 38)))])))))))
 (.seq (.reg [.ev (some 39) none (.w (.mv (.t 1))),
 .ev (some 4) none (.w (.mv (.t 39)))])
 .ret)))), [.t 4]⟩
theorem c28 : cFn ty ibs (cDraw ty ibs) [] f28 = some q28 := by decide +kernel
noncomputable def q29 : MFn := ⟨(.seq (.reg [.ev (some 1) none (.a (.box (.t 0))),
 .ev (some 2) none (.w (.mv (.k (.c (.s [])))))])
 (.seq (.seq (.reg [.ev (some 6) none (.w (.fad 0 (.t 1))),
 .ev (some 7) none (.r (.ld none (.t 6)))])
 (.blk 0 (.seq (.reg [.ev (some 9) none (.w (.bin .eql (.t 7) (.k (.c (.i (.ofNat 1)))))),
 .ev (some 8) none (.w (.mv (.t 9)))])
 (.cond (.t 8) (.seq (.reg [.ev (some 2) none (.w (.mv (.k (.c (.s [73, 110, 116])))))])
 .ret) (.seq (.reg [.ev (some 11) none (.w (.bin .eql (.t 7) (.k (.c (.i (.ofNat 2)))))),
 .ev (some 10) none (.w (.mv (.t 11)))])
 (.cond (.t 10) (.seq (.seq (.reg [.ev (some 12) none (.w (.fad 1 (.t 1))),
 .ev (some 13) none (.r (.ld none (.t 12))),
 .ev (some 14) none (.w (.bin .lss (.t 13) (.k (.c (.i (.ofNat 0))))))])
 (.cond (.t 14) (.seq (.reg [.ev (some 2) none (.w (.mv (.k (.c (.s [63])))))])
 .ret) .skip))
 (.seq (.reg [.ev (some 15) none (.w (.fad 1 (.t 1))),
 .ev (some 16) none (.r (.ld none (.t 15))),
 .ev (some 17) none (.m (.call 91 [.t 16])),
 .ev (some 2) none (.w (.mv (.t 17)))])
 .ret)) (.seq (.reg [.ev (some 19) none (.w (.bin .eql (.t 7) (.k (.c (.i (.ofNat 3)))))),
 .ev (some 18) none (.w (.mv (.t 19)))])
 (.cond (.t 18) (.seq (.seq (.reg [.ev (some 20) none (.w (.fad 3 (.t 1))),
 .ev (some 21) none (.r (.ld none (.t 20))),
 .ev (some 22) none (.w (.lnl (.t 21))),
 .ev (some 23) none (.w (.bin .neq (.t 22) (.k (.c (.i (.ofNat 2))))))])
 (.cond (.t 23) (.seq (.reg [.ev (some 2) none (.w (.mv (.k (.c (.s [63])))))])
 .ret) .skip))
 (.seq (.reg [.ev (some 24) none (.w (.fad 3 (.t 1))),
 .ev (some 25) none (.r (.ld none (.t 24))),
 .ev (some 26) none (.w (.iad 4 (.t 25) (.k (.c (.i (.ofNat 0)))))),
 .ev (some 27) none (.r (.ld (some 4) (.t 26))),
 .ev (some 31) none (.w (.fad 3 (.t 1))),
 .ev (some 32) none (.r (.ld none (.t 31))),
 .ev (some 33) none (.w (.iad 4 (.t 32) (.k (.c (.i (.ofNat 1)))))),
 .ev (some 34) none (.r (.ld (some 4) (.t 33))),
 .mk (some 28) none (.call 29 [.t 27]) [(32, .ld none (.t 31)), (34, .ld (some 4) (.t 33))] [],
 .ev (some 29) none (.w (.bin .add (.k (.c (.s [40]))) (.t 28))),
 .ev (some 30) none (.w (.bin .add (.t 29) (.k (.c (.s [32, 45, 62, 32]))))),
 .mk (some 35) none (.call 29 [.t 34]) [] [],
 .ev (some 36) none (.w (.bin .add (.t 30) (.t 35))),
 .ev (some 37) none (.w (.bin .add (.t 36) (.k (.c (.s [41]))))),
 .ev (some 2) none (.w (.mv (.t 37)))])
 .ret)) (.seq (.reg [.ev (some 39) none (.w (.bin .eql (.t 7) (.k (.c (.i (.ofNat 4)))))),
 .ev (some 38) none (.w (.mv (.t 39)))])
 (.cond (.t 38) (.seq (.reg [.ev (some 40) none (.w (.fad 2 (.t 1))),
 .ev (some 41) none (.r (.ld none (.t 40))),
 .ev (some 3) none (.w (.mv (.t 41)))])
 (.seq (.seq (.reg [.ev (some 42) none (.w (.fad 3 (.t 1))),
 .ev (some 43) none (.r (.ld none (.t 42))),
 .ev (some 44) none (.w (.lnl (.t 43))),
 .ev (some 45) none (.w (.mv (.k (.c (.i (.ofNat 0))))))])
 (.blk 1 (.loop (.seq (.reg [.ev (some 46) none (.w (.bin .lss (.t 45) (.t 44)))])
 (.seq (.cond (.t 46) .skip (.exit 1))
 (.seq (.blk 2 (.seq (.reg [.ev (some 47) none (.w (.iad 4 (.t 43) (.t 45))),
 .ev (some 48) none (.r (.ld (some 4) (.t 47))),
 .ev (some 5) none (.a (.al [.i (.ofNat 0), .i (.ofNat 0), .s [], .l0])),
 .ev none none (.m (.st 4 (.t 5) (.t 48)))])
 (.reg [.ev (some 49) none (.w (.mv (.t 3))),
 .ev (some 50) none (.r (.ld (some 4) (.t 5))),
 .ev (some 51) none (.m (.call 29 [.t 50])),
 .ev (some 52) none (.w (.bin .add (.k (.c (.s [32]))) (.t 51))),
 .ev (some 53) none (.w (.bin .add (.t 49) (.t 52))),
 .ev (some 3) none (.w (.mv (.t 53)))])))
 (.reg [.ev (some 54) none (.w (.bin .add (.t 45) (.k (.c (.i (.ofNat 1)))))),
 .ev (some 45) none (.w (.mv (.t 54)))])))))))
 (.seq (.seq (.reg [.ev (some 55) none (.w (.fad 3 (.t 1))),
 .ev (some 56) none (.r (.ld none (.t 55))),
 .ev (some 57) none (.w (.lnl (.t 56))),
 .ev (some 58) none (.w (.bin .gtr (.t 57) (.k (.c (.i (.ofNat 0))))))])
 (.cond (.t 58) (.reg [.ev (some 59) none (.w (.mv (.t 3))),
 .ev (some 60) none (.w (.bin .add (.k (.c (.s [40]))) (.t 59))),
 .ev (some 61) none (.w (.bin .add (.t 60) (.k (.c (.s [41]))))),
 .ev (some 3) none (.w (.mv (.t 61)))]) .skip))
 (.seq (.reg [.ev (some 62) none (.w (.mv (.t 3))),
 .ev (some 2) none (.w (.mv (.t 62)))])
 .ret)))) .skip))))))))))
 (.seq (.reg [.ev (some 2) none (.w (.mv (.k (.c (.s [63])))))])
 .ret))), [.t 2]⟩
theorem c29 : cFn ty ibs (cDraw ty ibs) [[.ev 0, .ev 1, .ev 2, .ev 3, .ev 7, .ev 8, .ev 9, .ev 10, .ev 4, .ev 5, .ev 6, .ev 11, .ev 12, .ev 13, .ev 14]] f29 = some q29 := by decide +kernel
noncomputable def q30 : MFn := ⟨(.seq (.reg [.ev (some 3) none (.a (.box (.t 0))),
 .ev (some 6) none (.a (.al [.i (.ofNat 0), .i (.ofNat 0), .s [], .l0]))])
 (.seq (.seq (.reg [.ev (some 12) none (.w (.fad 0 (.t 3))),
 .ev (some 13) none (.r (.ld none (.t 12))),
 .ev (some 14) none (.w (.bin .eql (.t 13) (.k (.c (.i (.ofNat 2)))))),
 .ev (some 15) none (.w (.mv (.t 14))),
 .ev (some 16) (some (15, true)) (.w (.fad 3 (.t 3))),
 .ev (some 17) (some (15, true)) (.r (.ld none (.t 16))),
 .ev (some 18) (some (15, true)) (.w (.lnl (.t 17))),
 .ev (some 19) (some (15, true)) (.w (.bin .eql (.t 18) (.k (.c (.i (.ofNat 0)))))),
 .ev (some 20) none (.w (.pick (.t 15) (.t 19) (.k (.c (.b false)))))])
 (.cond (.t 20) (.seq (.reg [.ev (some 21) none (.w (.mv (.t 1))),
 .ev (some 22) none (.w (.fad 1 (.t 3))),
 .ev (some 23) none (.r (.ld none (.t 22))),
 .ev (some 24) none (.m (.call 92 [.t 21, .t 23])),
 .ev (some 7) none (.w (.mv (.t 24)))])
 (.seq (.reg [.ev (some 25) none (.w (.mv (.t 7))),
 .ev (some 26) none (.w (.bin .geq (.t 25) (.k (.c (.i (.ofNat 0))))))])
 (.cond (.t 26) (.seq (.reg [.ev (some 27) none (.w (.mv (.t 2))),
 .ev (some 28) none (.w (.mv (.t 7))),
 .ev (some 29) none (.w (.iad 4 (.t 27) (.t 28))),
 .ev (some 30) none (.r (.ld (some 4) (.t 29))),
 .ev (some 31) none (.m (.call 93 [.t 30])),
 .ev none none (.m (.st 4 (.t 6) (.t 31)))])
 .ret) .skip))) .skip))
 (.seq (.reg [.ev (some 32) none (.a (.bsl 4 0 [] [])),
 .ev (some 8) none (.w (.mv (.t 32)))])
 (.seq (.seq (.reg [.ev (some 33) none (.w (.fad 3 (.t 3))),
 .ev (some 34) none (.r (.ld none (.t 33))),
 .ev (some 35) none (.w (.lnl (.t 34))),
 .ev (some 36) none (.w (.mv (.k (.c (.i (.ofNat 0))))))])
 (.blk 0 (.loop (.seq (.reg [.ev (some 37) none (.w (.bin .lss (.t 36) (.t 35)))])
 (.seq (.cond (.t 37) .skip (.exit 0))
 (.seq (.blk 1 (.seq (.reg [.ev (some 38) none (.w (.iad 4 (.t 34) (.t 36))),
 .ev (some 39) none (.r (.ld (some 4) (.t 38))),
 .ev (some 10) none (.a (.al [.i (.ofNat 0), .i (.ofNat 0), .s [], .l0])),
 .ev none none (.m (.st 4 (.t 10) (.t 39)))])
 (.seq (.reg [.ev (some 40) none (.r (.ld (some 4) (.t 10))),
 .ev (some 41) none (.w (.mv (.t 1))),
 .ev (some 42) none (.w (.mv (.t 2))),
 .ev (some 43) none (.m (.call 30 [.t 40, .t 41, .t 42])),
 .ev (some 11) none (.a (.al [.i (.ofNat 0), .i (.ofNat 0), .s [], .l0])),
 .ev none none (.m (.st 4 (.t 11) (.t 43)))])
 (.reg [.ev (some 44) none (.w (.mv (.t 8))),
 .ev (some 45) none (.r (.ld (some 4) (.t 11))),
 .ev (some 46) none (.a (.bsl 4 1 [.i (.ofNat 0), .i (.ofNat 0), .s [], .l0] [(0, 4, .t 45)])),
 .ev (some 47) none (.m (.app 4 56 (.t 44) (.t 46))),
 .ev (some 8) none (.w (.mv (.t 47)))]))))
 (.reg [.ev (some 48) none (.w (.bin .add (.t 36) (.k (.c (.i (.ofNat 1)))))),
 .ev (some 36) none (.w (.mv (.t 48)))])))))))
 (.seq (.reg [.ev (some 49) none (.w (.mv (.t 8))),
 .ev (some 50) none (.w (.fad 3 (.t 3))),
 .ev none none (.m (.st 1 (.t 50) (.t 49)))])
 (.seq (.reg [.ev (some 51) none (.r (.ld (some 4) (.t 3))),
 .ev none none (.m (.st 4 (.t 6) (.t 51)))])
 .ret)))))), [.c (some 4) 6]⟩
theorem c30 : cFn ty ibs (cDraw ty ibs) [] f30 = some q30 := by decide +kernel
noncomputable def q31 : MFn := ⟨(.seq (.reg [.ev (some 2) none (.w (.mv (.k (.c .l0)))),
 .ev (some 3) none (.w (.mv (.k (.c (.i (.ofNat 0))))))])
 (.seq (.reg [.ev (some 9) none (.a (.bsl 4 0 [] [])),
 .ev (some 4) none (.w (.mv (.t 9)))])
 (.seq (.seq (.reg [.ev (some 10) none (.w (.mv (.t 0))),
 .ev (some 11) none (.w (.lns (.t 10))),
 .ev (some 12) none (.w (.bin .gtr (.t 11) (.k (.c (.i (.ofNat 3000))))))])
 (.cond (.t 12) (.seq (.reg [.ev (some 13) none (.w (.mv (.t 4))),
 .ev (some 2) none (.w (.mv (.t 13))),
 .ev (some 3) none (.w (.mv (.k (.c (.i (.ofNat 0))))))])
 .ret) .skip))
 (.seq (.reg [.ev (some 5) none (.w (.mv (.k (.c (.i (.ofNat 0))))))])
 (.seq (.blk 0 (.loop (.seq (.seq (.reg [.ev (some 14) none (.w (.mv (.t 5))),
 .ev (some 15) none (.w (.mv (.t 0))),
 .ev (some 16) none (.w (.lns (.t 15))),
 .ev (some 17) none (.w (.bin .lss (.t 14) (.t 16)))])
 (.cond (.t 17) .skip (.exit 0)))
 (.blk 1 (.seq (.seq (.reg [.ev (some 18) none (.w (.mv (.t 0))),
 .ev (some 19) none (.w (.mv (.t 5))),
 .ev (some 20) none (.w (.ixs (.t 18) (.t 19))),
 .ev (some 21) none (.w (.bin .eql (.t 20) (.k (.c (.j .u8 (.ofNat 32)))))),
 .ev (some 22) none (.w (.mv (.t 21))),
 .ev (some 23) (some (22, false)) (.w (.mv (.t 0))),
 .ev (some 24) (some (22, false)) (.w (.mv (.t 5))),
 .ev (some 25) (some (22, false)) (.w (.ixs (.t 23) (.t 24))),
 .ev (some 26) (some (22, false)) (.w (.bin .eql (.t 25) (.k (.c (.j .u8 (.ofNat 10)))))),
 .ev (some 27) none (.w (.pick (.t 22) (.k (.c (.b true))) (.t 26)))])
 (.cond (.t 27) (.seq (.reg [.ev (some 28) none (.w (.mv (.t 5))),
 .ev (some 29) none (.w (.bin .add (.t 28) (.k (.c (.i (.ofNat 1)))))),
 .ev (some 5) none (.w (.mv (.t 29)))])
 (.exit 1)) .skip))
 (.seq (.reg [.ev (some 31) none (.w (.mv (.t 0))),
 .ev (some 32) none (.w (.mv (.t 5))),
 .ev (some 33) none (.m (.call 94 [.t 31, .t 32])),
 .ev (some 30) none (.w (.mv (.t 33))),
 .ev (some 34) none (.w (.ext 0 (.t 30))),
 .ev (some 35) none (.w (.ext 1 (.t 30))),
 .ev (some 36) none (.w (.ext 2 (.t 30))),
 .ev (some 6) none (.a (.al [.i (.ofNat 0), .s [], .i (.ofNat 0), .i (.ofNat 0)])),
 .ev none none (.m (.st 4 (.t 6) (.t 34))),
 .ev (some 7) none (.w (.mv (.t 35))),
 .ev (some 8) none (.w (.mv (.t 36)))])
 (.seq (.seq (.reg [.ev (some 37) none (.w (.mv (.t 8))),
 .ev (some 38) none (.w (.un .not (.t 37)))])
 (.cond (.t 38) (.seq (.reg [.ev (some 39) none (.a (.bsl 4 0 [] [])),
 .ev (some 40) none (.w (.mv (.t 5))),
 .ev (some 2) none (.w (.mv (.t 39))),
 .ev (some 3) none (.w (.mv (.t 40)))])
 .ret) .skip))
 (.seq (.reg [.ev (some 41) none (.w (.mv (.t 4))),
 .ev (some 42) none (.r (.ld (some 4) (.t 6))),
 .ev (some 43) none (.a (.bsl 4 1 [.i (.ofNat 0), .s [], .i (.ofNat 0), .i (.ofNat 0)] [(0, 4, .t 42)])),
 .ev (some 44) none (.m (.app 4 40 (.t 41) (.t 43))),
 .ev (some 4) none (.w (.mv (.t 44)))])
 (.reg [.ev (some 45) none (.w (.mv (.t 7))),
 .ev (some 5) none (.w (.mv (.t 45)))])))))))))
 (.seq (.reg [.ev (some 46) none (.w (.mv (.t 4))),
 .ev (some 47) none (.w (.mv (.t 0))),
 .ev (some 48) none (.w (.lns (.t 47))),
 .ev (some 49) none (.w (.build [.i (.ofNat 0), .s [], .i (.ofNat 0), .i (.ofNat 0)] [(0, 1, .k (.c (.i (.ofNat 0)))), (3, 1, .t 48)])),
 .ev (some 50) none (.a (.bsl 4 1 [.i (.ofNat 0), .s [], .i (.ofNat 0), .i (.ofNat 0)] [(0, 4, .t 49)])),
 .ev (some 51) none (.m (.app 4 40 (.t 46) (.t 50))),
 .ev (some 2) none (.w (.mv (.t 51))),
 .ev (some 3) none (.w (.mv (.k (.c (.i (.negSucc 0))))))])
 .ret)))))), [.t 2, .t 3]⟩
theorem c31 : cFn ty ibs (cDraw ty ibs) [] f31 = some q31 := by decide +kernel
noncomputable def q32 : MFn := ⟨(.seq (.reg [.ev (some 4) none (.w (.mv (.k (.c (.b false)))))])
 (.seq (.reg [.ev (some 6) none (.w (.mv (.t 0))),
 .ev (some 7) none (.m (.call 35 [.t 6])),
 .ev (some 5) none (.a (.al [.i (.ofNat 0), .s [], .i (.ofNat 0), .i (.ofNat 0)])),
 .ev none none (.m (.st 4 (.t 5) (.t 7)))])
 (.seq (.reg [.ev (some 8) none (.w (.mv (.t 0))),
 .ev (some 9) none (.w (.nilc (.t 8))),
 .ev (some 10) none (.w (.fad 2 (.t 9))),
 .ev (some 11) none (.r (.ld none (.t 10))),
 .ev (some 12) none (.w (.bin .lss (.t 11) (.k (.c (.i (.ofNat 0)))))),
 .ev (some 13) none (.w (.mv (.t 12))),
 .ev (some 14) (some (13, true)) (.w (.fad 0 (.t 5))),
 .ev (some 15) (some (13, true)) (.r (.ld none (.t 14))),
 .ev (some 16) (some (13, true)) (.w (.bin .eql (.t 15) (.k (.c (.i (.ofNat 1)))))),
 .ev (some 17) none (.w (.pick (.t 13) (.t 16) (.k (.c (.b false))))),
 .ev (some 18) none (.w (.mv (.t 17))),
 .ev (some 19) (some (18, true)) (.w (.fad 1 (.t 5))),
 .ev (some 20) (some (18, true)) (.r (.ld none (.t 19))),
 .ev (some 21) (some (18, true)) (.w (.mv (.t 1))),
 .ev (some 22) (some (18, true)) (.w (.bin .eql (.t 20) (.t 21))),
 .ev (some 23) none (.w (.pick (.t 18) (.t 22) (.k (.c (.b false))))),
 .ev (some 4) none (.w (.mv (.t 23)))])
 .ret))), [.t 4]⟩
theorem c32 : cFn ty ibs (cDraw ty ibs) [] f32 = some q32 := by decide +kernel
noncomputable def q33 : MFn := ⟨(.seq (.reg [.ev (some 2) none (.a (.al [.s [], .i (.ofNat 0), .l0]))])
 (.seq (.reg [.ev (some 4) none (.w (.mv (.t 0))),
 .ev (some 5) none (.m (.call 95 [.t 4, .k (.c (.s [100, 97, 116, 97]))]))])
 (.seq (.reg [.ev (some 6) none (.w (.mv (.t 0))),
 .ev (some 7) none (.m (.call 96 [.t 6, .k (.c (.b true))])),
 .ev (some 8) none (.w (.build [.s [], .i (.ofNat 0), .l0] [(0, 1, .t 7)])),
 .ev (some 3) none (.a (.al [.s [], .i (.ofNat 0), .l0])),
 .ev none none (.m (.st 3 (.t 3) (.t 8)))])
 (.seq (.reg [.ev (some 9) none (.w (.mv (.t 0))),
 .ev (some 10) none (.w (.nilc (.t 9))),
 .ev (some 11) none (.w (.fad 3 (.t 10))),
 .ev none none (.m (.st 1 (.t 11) (.k (.c .l0))))])
 (.seq (.blk 0 (.loop (.seq (.seq (.reg [.ev (some 12) none (.w (.mv (.t 0))),
 .ev (some 13) none (.m (.call 97 [.t 12]))])
 (.cond (.t 13) .skip (.exit 0)))
 (.blk 1 (.reg [.ev (some 14) none (.w (.mv (.t 0))),
 .ev (some 15) none (.w (.mv (.t 0))),
 .ev (some 16) none (.w (.nilc (.t 15))),
 .ev (some 17) none (.w (.fad 3 (.t 16))),
 .ev (some 18) none (.r (.ld none (.t 17))),
 .ev (some 19) none (.w (.mv (.t 0))),
 .mk (some 20) none (.call 96 [.t 19, .k (.c (.b false))]) [(18, .ld none (.t 17))] [],
 .ev (some 21) none (.a (.bsl 1 1 [.s []] [(0, 1, .t 20)])),
 .mk (some 22) none (.app 1 16 (.t 18) (.t 21)) [] [],
 .ev (some 23) none (.w (.nilc (.t 14))),
 .ev (some 24) none (.w (.fad 3 (.t 23))),
 .mk none none (.st 1 (.t 24) (.t 22)) [] []])))))
 (.seq (.reg [.ev (some 25) none (.w (.mv (.t 0))),
 .ev (some 26) none (.w (.nilc (.t 25))),
 .ev (some 27) none (.w (.fad 3 (.t 26))),
 .ev (some 28) none (.r (.ld none (.t 27))),
 .ev (some 29) none (.w (.lnl (.t 28))),
 .ev (some 30) none (.w (.fad 1 (.t 3))),
 .ev none none (.m (.st 1 (.t 30) (.t 29)))])
 (.seq (.reg [.ev (some 31) none (.w (.mv (.t 0))),
 .ev (some 32) none (.m (.call 98 [.t 31, .k (.c (.s [61]))]))])
 (.seq (.reg [.ev (some 33) none (.w (.fad 2 (.t 3))),
 .ev (some 34) none (.r (.ld none (.t 33))),
 .ev (some 35) none (.w (.mv (.t 0))),
 .mk (some 36) none (.call 99 [.t 35]) [(34, .ld none (.t 33))] [],
 .ev (some 37) none (.a (.bsl 2 1 [.s [], .l0] [(0, 2, .t 36)])),
 .mk (some 38) none (.app 2 40 (.t 34) (.t 37)) [] [],
 .ev (some 39) none (.w (.fad 2 (.t 3))),
 .mk none none (.st 1 (.t 39) (.t 38)) [] []])
 (.seq (.blk 2 (.loop (.seq (.seq (.reg [.ev (some 40) none (.w (.mv (.t 0))),
 .ev (some 41) none (.m (.call 100 [.t 40, .k (.c (.s [124]))]))])
 (.cond (.t 41) .skip (.exit 2)))
 (.blk 3 (.seq (.reg [.ev (some 42) none (.w (.mv (.t 0))),
 .ev (some 43) none (.m (.call 101 [.t 42]))])
 (.reg [.ev (some 44) none (.w (.fad 2 (.t 3))),
 .ev (some 45) none (.r (.ld none (.t 44))),
 .ev (some 46) none (.w (.mv (.t 0))),
 .mk (some 47) none (.call 99 [.t 46]) [(45, .ld none (.t 44))] [],
 .ev (some 48) none (.a (.bsl 2 1 [.s [], .l0] [(0, 2, .t 47)])),
 .mk (some 49) none (.app 2 40 (.t 45) (.t 48)) [] [],
 .ev (some 50) none (.w (.fad 2 (.t 3))),
 .mk none none (.st 1 (.t 50) (.t 49)) [] []]))))))
 (.seq (.reg [.ev (some 51) none (.w (.mv (.t 0))),
 .ev (some 52) none (.m (.call 98 [.t 51, .k (.c (.s [59]))]))])
 (.seq (.reg [.ev (some 53) none (.r (.ld (some 3) (.t 3))),
 .ev none none (.m (.st 3 (.t 2) (.t 53)))])
 .ret))))))))))), [.c (some 3) 2]⟩
theorem c33 : cFn ty ibs (cDraw ty ibs) [[.ev 0, .ev 1, .ev 2, .ev 3, .ev 4, .ev 5, .ev 6, .ev 7, .ev 8, .ev 9, .ev 10, .ev 11], [.ev 0, .ev 1, .ev 2, .ev 3, .ev 4, .ev 5, .ev 6, .ev 7], [.ev 0, .ev 1, .ev 2, .ev 3, .ev 4, .ev 5, .ev 6, .ev 7]] f33 = some q33 := by decide +kernel
noncomputable def q34 : MFn := ⟨(.seq (.reg [.ev (some 2) none (.a (.al [.i (.ofNat 0), .i (.ofNat 0), .s [], .s [], .l0]))])
 (.seq (.blk 0 (.seq (.reg [.ev (some 9) none (.w (.mv (.t 0))),
 .ev (some 10) none (.m (.call 32 [.t 9, .k (.c (.s [102, 117, 110]))])),
 .ev (some 8) none (.w (.mv (.t 10)))])
 (.cond (.t 8) (.seq (.reg [.ev (some 11) none (.w (.mv (.t 0))),
 .ev (some 12) none (.m (.call 101 [.t 11]))])
 (.seq (.reg [.ev (some 13) none (.w (.mv (.t 0))),
 .ev (some 14) none (.m (.call 96 [.t 13, .k (.c (.b false))])),
 .ev (some 3) none (.w (.mv (.t 14)))])
 (.seq (.reg [.ev (some 15) none (.w (.mv (.t 0))),
 .ev (some 16) none (.m (.call 98 [.t 15, .k (.c (.s [45, 62]))]))])
 (.seq (.reg [.ev (some 17) none (.w (.mv (.t 0))),
 .ev (some 18) none (.m (.call 34 [.t 17])),
 .ev (some 4) none (.a (.al [.i (.ofNat 0), .i (.ofNat 0), .s [], .s [], .l0])),
 .ev none none (.m (.st 5 (.t 4) (.t 18)))])
 (.seq (.reg [.ev (some 19) none (.w (.mv (.t 3))),
 .ev (some 20) none (.r (.ld (some 5) (.t 4))),
 .ev (some 21) none (.a (.bsl 5 1 [.i (.ofNat 0), .i (.ofNat 0), .s [], .s [], .l0] [(0, 5, .t 20)])),
 .ev (some 22) none (.w (.build [.i (.ofNat 0), .i (.ofNat 0), .s [], .s [], .l0] [(0, 1, .k (.c (.i (.ofNat 3)))), (2, 1, .t 19), (4, 1, .t 21)])),
 .ev none none (.m (.st 5 (.t 2) (.t 22)))])
 .ret))))) (.seq (.reg [.ev (some 24) none (.w (.mv (.t 0))),
 .ev (some 25) none (.m (.call 32 [.t 24, .k (.c (.s [108, 101, 116]))])),
 .ev (some 23) none (.w (.mv (.t 25)))])
 (.cond (.t 23) (.seq (.reg [.ev (some 26) none (.w (.mv (.t 0))),
 .ev (some 27) none (.m (.call 102 [.t 26])),
 .ev none none (.m (.st 5 (.t 2) (.t 27)))])
 .ret) (.seq (.reg [.ev (some 29) none (.w (.mv (.t 0))),
 .ev (some 30) none (.m (.call 32 [.t 29, .k (.c (.s [114, 101, 99]))])),
 .ev (some 28) none (.w (.mv (.t 30)))])
 (.cond (.t 28) (.seq (.reg [.ev (some 31) none (.w (.mv (.t 0))),
 .ev (some 32) none (.m (.call 103 [.t 31])),
 .ev none none (.m (.st 5 (.t 2) (.t 32)))])
 .ret) (.seq (.reg [.ev (some 34) none (.w (.mv (.t 0))),
 .ev (some 35) none (.m (.call 32 [.t 34, .k (.c (.s [99, 97, 115, 101]))])),
 .ev (some 33) none (.w (.mv (.t 35)))])
 (.cond (.t 33) (.seq (.reg [.ev (some 36) none (.w (.mv (.t 0))),
 .ev (some 37) none (.m (.call 104 [.t 36])),
 .ev none none (.m (.st 5 (.t 2) (.t 37)))])
 .ret) (.seq (.reg [.ev (some 39) none (.w (.mv (.t 0))),
 .ev (some 40) none (.m (.call 32 [.t 39, .k (.c (.s [105, 102]))])),
 .ev (some 38) none (.w (.mv (.t 40)))])
 (.cond (.t 38) (.seq (.reg [.ev (some 41) none (.w (.mv (.t 0))),
 .ev (some 42) none (.m (.call 101 [.t 41]))])
 (.seq (.reg [.ev (some 43) none (.w (.mv (.t 0))),
 .ev (some 44) none (.m (.call 34 [.t 43])),
 .ev (some 5) none (.a (.al [.i (.ofNat 0), .i (.ofNat 0), .s [], .s [], .l0])),
 .ev none none (.m (.st 5 (.t 5) (.t 44)))])
 (.seq (.reg [.ev (some 45) none (.w (.mv (.t 0))),
 .ev (some 46) none (.m (.call 95 [.t 45, .k (.c (.s [116, 104, 101, 110]))]))])
 (.seq (.reg [.ev (some 47) none (.w (.mv (.t 0))),
 .ev (some 48) none (.m (.call 34 [.t 47])),
 .ev (some 6) none (.a (.al [.i (.ofNat 0), .i (.ofNat 0), .s [], .s [], .l0])),
 .ev none none (.m (.st 5 (.t 6) (.t 48)))])
 (.seq (.reg [.ev (some 49) none (.w (.mv (.t 0))),
 .ev (some 50) none (.m (.call 95 [.t 49, .k (.c (.s [101, 108, 115, 101]))]))])
 (.seq (.reg [.ev (some 51) none (.w (.mv (.t 0))),
 .ev (some 52) none (.m (.call 34 [.t 51])),
 .ev (some 7) none (.a (.al [.i (.ofNat 0), .i (.ofNat 0), .s [], .s [], .l0])),
 .ev none none (.m (.st 5 (.t 7) (.t 52)))])
 (.seq (.reg [.ev (some 53) none (.r (.ld (some 5) (.t 5))),
 .ev (some 54) none (.r (.ld (some 5) (.t 6))),
 .ev (some 55) none (.r (.ld (some 5) (.t 7))),
 .ev (some 56) none (.a (.bsl 5 3 [.i (.ofNat 0), .i (.ofNat 0), .s [], .s [], .l0, .i (.ofNat 0), .i (.ofNat 0), .s [], .s [], .l0, .i (.ofNat 0), .i (.ofNat 0), .s [], .s [], .l0] [(0, 5, .t 53), (5, 5, .t 54), (10, 5, .t 55)])),
 .ev (some 57) none (.m (.call 105 [.k (.c (.i (.ofNat 9))), .t 56])),
 .ev none none (.m (.st 5 (.t 2) (.t 57)))])
 .ret))))))) .skip)))))))))))
 (.seq (.reg [.ev (some 58) none (.w (.mv (.t 0))),
 .ev (some 59) none (.m (.call 106 [.t 58])),
 .ev none none (.m (.st 5 (.t 2) (.t 59)))])
 .ret))), [.c (some 5) 2]⟩
theorem c34 : cFn ty ibs (cDraw ty ibs) [] f34 = some q34 := by decide +kernel
noncomputable def q35 : MFn := ⟨(.seq (.reg [.ev (some 2) none (.a (.al [.i (.ofNat 0), .s [], .i (.ofNat 0), .i (.ofNat 0)]))])
 (.seq (.reg [.ev (some 3) none (.w (.mv (.t 0))),
 .ev (some 4) none (.w (.nilc (.t 3))),
 .ev (some 5) none (.w (.fad 0 (.t 4))),
 .ev (some 6) none (.r (.ld none (.t 5))),
 .ev (some 7) none (.w (.mv (.t 0))),
 .ev (some 8) none (.w (.nilc (.t 7))),
 .ev (some 9) none (.w (.fad 1 (.t 8))),
 .ev (some 10) none (.r (.ld none (.t 9))),
 .ev (some 11) none (.w (.iad 4 (.t 6) (.t 10))),
 .ev (some 12) none (.r (.ld (some 4) (.t 11))),
 .mk none none (.st 4 (.t 2) (.t 12)) [] []])
 .ret)), [.c (some 4) 2]⟩
theorem c35 : cFn ty ibs (cDraw ty ibs) [[.ev 0, .ev 1, .ev 2, .ev 3, .ev 4, .ev 5, .ev 6, .ev 7, .ev 8, .ev 9, .ev 10]] f35 = some q35 := by decide +kernel
noncomputable def q36 : MFn := ⟨(.seq (.reg [.ev (some 2) none (.w (.mv (.t 0))),
 .ev (some 3) none (.w (.nilc (.t 2))),
 .ev (some 4) none (.w (.fad 2 (.t 3))),
 .ev (some 5) none (.r (.ld none (.t 4))),
 .ev (some 6) none (.w (.bin .lss (.t 5) (.k (.c (.i (.ofNat 0))))))])
 (.cond (.t 6) (.reg [.ev (some 7) none (.w (.mv (.t 0))),
 .ev (some 8) none (.w (.mv (.t 0))),
 .ev (some 9) none (.m (.call 35 [.t 8])),
 .ev (some 10) none (.w (.fld 3 none (.t 9))),
 .ev (some 11) none (.w (.nilc (.t 7))),
 .ev (some 12) none (.w (.fad 2 (.t 11))),
 .ev none none (.m (.st 1 (.t 12) (.t 10)))]) .skip)), []⟩
theorem c36 : cFn ty ibs (cDraw ty ibs) [] f36 = some q36 := by decide +kernel
noncomputable def q37 : MFn := ⟨(.seq (.reg [.ev (some 1) none (.a (.box (.t 0))),
 .ev (some 2) none (.w (.mv (.k (.c (.b false)))))])
 (.seq (.seq (.reg [.ev (some 3) none (.w (.mv (.k (.c (.i (.ofNat 0))))))])
 (.blk 0 (.loop (.seq (.seq (.reg [.ev (some 7) none (.w (.mv (.t 3))),
 .ev (some 8) none (.w (.fad 0 (.t 1))),
 .ev (some 9) none (.r (.ld none (.t 8))),
 .ev (some 10) none (.w (.lnl (.t 9))),
 .ev (some 11) none (.w (.bin .lss (.t 7) (.t 10)))])
 (.cond (.t 11) .skip (.exit 0)))
 (.seq (.blk 1 (.seq (.reg [.ev (some 14) none (.w (.fad 0 (.t 1))),
 .ev (some 15) none (.r (.ld none (.t 14))),
 .ev (some 16) none (.w (.mv (.t 3))),
 .ev (some 17) none (.w (.iad 3 (.t 15) (.t 16))),
 .ev (some 18) none (.r (.ld (some 3) (.t 17))),
 .ev (some 4) none (.a (.al [.s [], .i (.ofNat 0), .l0])),
 .ev none none (.m (.st 3 (.t 4) (.t 18)))])
 (.seq (.seq (.reg [.ev (some 19) none (.w (.fad 0 (.t 4))),
 .ev (some 20) none (.r (.ld none (.t 19))),
 .ev (some 21) none (.m (.call 107 [.t 20])),
 .ev (some 22) none (.w (.un .not (.t 21))),
 .ev (some 23) none (.w (.mv (.t 22))),
 .ev (some 24) (some (23, false)) (.w (.fad 1 (.t 4))),
 .ev (some 25) (some (23, false)) (.r (.ld none (.t 24))),
 .ev (some 26) (some (23, false)) (.m (.call 108 [.t 25, .k (.c (.i (.ofNat 0))), .k (.c (.i (.ofNat 26)))])),
 .ev (some 27) (some (23, false)) (.w (.un .not (.t 26))),
 .ev (some 28) none (.w (.pick (.t 23) (.k (.c (.b true))) (.t 27))),
 .ev (some 29) none (.w (.mv (.t 28))),
 .ev (some 30) (some (29, false)) (.w (.fad 2 (.t 4))),
 .ev (some 31) (some (29, false)) (.r (.ld none (.t 30))),
 .ev (some 32) (some (29, false)) (.w (.lnl (.t 31))),
 .ev (some 33) (some (29, false)) (.w (.bin .eql (.t 32) (.k (.c (.i (.ofNat 0)))))),
 .ev (some 34) none (.w (.pick (.t 29) (.k (.c (.b true))) (.t 33)))])
 (.cond (.t 34) (.seq (.reg [.ev (some 2) none (.w (.mv (.k (.c (.b false)))))])
 .ret) .skip))
 (.seq (.reg [.ev (some 5) none (.w (.mv (.k (.c (.i (.ofNat 0))))))])
 (.blk 2 (.loop (.seq (.seq (.reg [.ev (some 35) none (.w (.mv (.t 5))),
 .ev (some 36) none (.w (.fad 2 (.t 4))),
 .ev (some 37) none (.r (.ld none (.t 36))),
 .ev (some 38) none (.w (.lnl (.t 37))),
 .ev (some 39) none (.w (.bin .lss (.t 35) (.t 38)))])
 (.cond (.t 39) .skip (.exit 2)))
 (.seq (.blk 3 (.seq (.seq (.reg [.ev (some 42) none (.w (.fad 2 (.t 4))),
 .ev (some 43) none (.r (.ld none (.t 42))),
 .ev (some 44) none (.w (.mv (.t 5))),
 .ev (some 45) none (.w (.iad 2 (.t 43) (.t 44))),
 .ev (some 46) none (.w (.fad 0 (.t 45))),
 .ev (some 47) none (.r (.ld none (.t 46))),
 .ev (some 48) none (.m (.call 107 [.t 47])),
 .ev (some 49) none (.w (.un .not (.t 48)))])
 (.cond (.t 49) (.seq (.reg [.ev (some 2) none (.w (.mv (.k (.c (.b false)))))])
 .ret) .skip))
 (.seq (.reg [.ev (some 6) none (.w (.mv (.k (.c (.i (.ofNat 0))))))])
 (.blk 4 (.loop (.seq (.seq (.reg [.ev (some 50) none (.w (.mv (.t 6))),
 .ev (some 51) none (.w (.fad 2 (.t 4))),
 .ev (some 52) none (.r (.ld none (.t 51))),
 .ev (some 53) none (.w (.mv (.t 5))),
 .ev (some 54) none (.w (.iad 2 (.t 52) (.t 53))),
 .ev (some 55) none (.w (.fad 1 (.t 54))),
 .ev (some 56) none (.r (.ld none (.t 55))),
 .ev (some 57) none (.w (.lnl (.t 56))),
 .ev (some 58) none (.w (.bin .lss (.t 50) (.t 57)))])
 (.cond (.t 58) .skip (.exit 4)))
 (.seq (.blk 5 (.seq (.reg [.ev (some 61) none (.w (.fad 2 (.t 4))),
 .ev (some 62) none (.r (.ld none (.t 61))),
 .ev (some 63) none (.w (.mv (.t 5))),
 .ev (some 64) none (.w (.iad 2 (.t 62) (.t 63))),
 .ev (some 65) none (.w (.fad 1 (.t 64))),
 .ev (some 66) none (.r (.ld none (.t 65))),
 .ev (some 67) none (.w (.mv (.t 6))),
 .ev (some 68) none (.w (.iad 4 (.t 66) (.t 67))),
 .ev (some 69) none (.r (.ld (some 4) (.t 68))),
 .mk (some 70) none (.call 109 [.t 69]) [] [],
 .ev (some 71) none (.w (.bin .gtr (.t 70) (.k (.c (.i (.ofNat 24)))))),
 .ev (some 72) none (.w (.mv (.t 71))),
 .ev (some 73) (some (72, false)) (.w (.fad 2 (.t 4))),
 .ev (some 74) (some (72, false)) (.r (.ld none (.t 73))),
 .ev (some 75) (some (72, false)) (.w (.mv (.t 5))),
 .ev (some 76) (some (72, false)) (.w (.iad 2 (.t 74) (.t 75))),
 .ev (some 77) (some (72, false)) (.w (.fad 1 (.t 76))),
 .ev (some 78) (some (72, false)) (.r (.ld none (.t 77))),
 .ev (some 79) (some (72, false)) (.w (.mv (.t 6))),
 .ev (some 80) (some (72, false)) (.w (.iad 4 (.t 78) (.t 79))),
 .ev (some 81) (some (72, false)) (.r (.ld (some 4) (.t 80))),
 .ev (some 82) (some (72, false)) (.w (.fad 1 (.t 4))),
 .ev (some 83) (some (72, false)) (.r (.ld none (.t 82))),
 .mk (some 84) (some (72, false)) (.call 110 [.t 81, .t 83]) [] [],
 .ev (some 85) (some (72, false)) (.w (.un .not (.t 84))),
 .ev (some 86) none (.w (.pick (.t 72) (.k (.c (.b true))) (.t 85)))])
 (.cond (.t 86) (.seq (.reg [.ev (some 2) none (.w (.mv (.k (.c (.b false)))))])
 .ret) .skip)))
 (.reg [.ev (some 59) none (.w (.mv (.t 6))),
 .ev (some 60) none (.w (.bin .add (.t 59) (.k (.c (.i (.ofNat 1)))))),
 .ev (some 6) none (.w (.mv (.t 60)))]))))))))
 (.reg [.ev (some 40) none (.w (.mv (.t 5))),
 .ev (some 41) none (.w (.bin .add (.t 40) (.k (.c (.i (.ofNat 1)))))),
 .ev (some 5) none (.w (.mv (.t 41)))])))))))))
 (.reg [.ev (some 12) none (.w (.mv (.t 3))),
 .ev (some 13) none (.w (.bin .add (.t 12) (.k (.c (.i (.ofNat 1)))))),
 .ev (some 3) none (.w (.mv (.t 13)))]))))))
 (.seq (.reg [.ev (some 87) none (.w (.fad 1 (.t 1))),
 .ev (some 88) none (.r (.ld (some 5) (.t 87))),
 .ev (some 89) none (.m (.call 111 [.t 88])),
 .ev (some 90) none (.w (.bin .leq (.t 89) (.k (.c (.i (.ofNat 24)))))),
 .ev (some 91) none (.w (.mv (.t 90))),
 .ev (some 92) (some (91, true)) (.w (.fad 1 (.t 1))),
 .ev (some 93) (some (91, true)) (.r (.ld (some 5) (.t 92))),
 .ev (some 94) (some (91, true)) (.m (.call 112 [.t 93])),
 .ev (some 95) none (.w (.pick (.t 91) (.t 94) (.k (.c (.b false))))),
 .ev (some 2) none (.w (.mv (.t 95)))])
 .ret))), [.t 2]⟩
theorem c37 : cFn ty ibs (cDraw ty ibs) [[.ev 0, .ev 1, .ev 2, .ev 3, .ev 4, .ev 5, .ev 6, .ev 7, .ev 8, .ev 9, .ev 10, .ev 11, .ev 12, .ev 13, .ev 14, .ev 15, .ev 16, .ev 17, .ev 18, .ev 19, .ev 20, .ev 21, .ev 22, .ev 23, .ev 24, .ev 25]] f37 = some q37 := by decide +kernel
noncomputable def q38 : MFn := ⟨(.seq (.reg [.ev (some 2) none (.w (.mv (.k (.c (.i (.ofNat 0))))))])
 (.seq (.reg [.ev (some 3) none (.w (.mv (.k (.c (.i (.ofNat 0))))))])
 (.seq (.seq (.reg [.ev (some 4) none (.w (.mv (.k (.c (.i (.ofNat 0))))))])
 (.blk 0 (.loop (.seq (.seq (.reg [.ev (some 8) none (.w (.mv (.t 4))),
 .ev (some 9) none (.w (.mv (.t 0))),
 .ev (some 10) none (.w (.lnl (.t 9))),
 .ev (some 11) none (.w (.bin .lss (.t 8) (.t 10)))])
 (.cond (.t 11) .skip (.exit 0)))
 (.seq (.blk 1 (.seq (.seq (.reg [.ev (some 14) none (.w (.mv (.t 0))),
 .ev (some 15) none (.w (.mv (.t 0))),
 .ev (some 16) none (.w (.mv (.t 4))),
 .ev (some 17) none (.w (.iad 3 (.t 15) (.t 16))),
 .ev (some 18) none (.w (.fad 0 (.t 17))),
 .ev (some 19) none (.r (.ld none (.t 18))),
 .ev (some 20) none (.m (.call 113 [.t 14, .t 19])),
 .ev (some 21) none (.w (.mv (.t 4))),
 .ev (some 22) none (.w (.bin .neq (.t 20) (.t 21)))])
 (.cond (.t 22) (.seq (.reg [.ev (some 2) none (.w (.mv (.k (.c (.i (.ofNat 1))))))])
 .ret) .skip))
 (.seq (.reg [.ev (some 5) none (.w (.mv (.k (.c (.i (.ofNat 0))))))])
 (.blk 2 (.loop (.seq (.seq (.reg [.ev (some 23) none (.w (.mv (.t 5))),
 .ev (some 24) none (.w (.mv (.t 0))),
 .ev (some 25) none (.w (.mv (.t 4))),
 .ev (some 26) none (.w (.iad 3 (.t 24) (.t 25))),
 .ev (some 27) none (.w (.fad 2 (.t 26))),
 .ev (some 28) none (.r (.ld none (.t 27))),
 .ev (some 29) none (.w (.lnl (.t 28))),
 .ev (some 30) none (.w (.bin .lss (.t 23) (.t 29)))])
 (.cond (.t 30) .skip (.exit 2)))
 (.seq (.blk 3 (.seq (.reg [.ev (some 34) none (.w (.mv (.t 0))),
 .ev (some 35) none (.w (.mv (.t 0))),
 .ev (some 36) none (.w (.mv (.t 4))),
 .ev (some 37) none (.w (.iad 3 (.t 35) (.t 36))),
 .ev (some 38) none (.w (.fad 2 (.t 37))),
 .ev (some 39) none (.r (.ld none (.t 38))),
 .ev (some 40) none (.w (.mv (.t 5))),
 .ev (some 41) none (.w (.iad 2 (.t 39) (.t 40))),
 .ev (some 42) none (.w (.fad 0 (.t 41))),
 .ev (some 43) none (.r (.ld none (.t 42))),
 .ev (some 44) none (.m (.call 114 [.t 34, .t 43])),
 .ev (some 33) none (.w (.mv (.t 44))),
 .ev (some 45) none (.w (.ext 0 (.t 33))),
 .ev (some 46) none (.w (.ext 1 (.t 33))),
 .ev (some 6) none (.w (.mv (.t 45))),
 .ev (some 7) none (.w (.mv (.t 46)))])
 (.seq (.seq (.reg [.ev (some 47) none (.w (.mv (.t 6))),
 .ev (some 48) none (.w (.mv (.t 4))),
 .ev (some 49) none (.w (.bin .neq (.t 47) (.t 48))),
 .ev (some 50) none (.w (.mv (.t 49))),
 .ev (some 51) (some (50, false)) (.w (.mv (.t 7))),
 .ev (some 52) (some (50, false)) (.w (.mv (.t 5))),
 .ev (some 53) (some (50, false)) (.w (.bin .neq (.t 51) (.t 52))),
 .ev (some 54) none (.w (.pick (.t 50) (.k (.c (.b true))) (.t 53)))])
 (.cond (.t 54) (.seq (.reg [.ev (some 2) none (.w (.mv (.k (.c (.i (.ofNat 1))))))])
 .ret) .skip))
 (.reg [.ev (some 55) none (.w (.mv (.t 3))),
 .ev (some 56) none (.w (.bin .add (.t 55) (.k (.c (.i (.ofNat 1)))))),
 .ev (some 3) none (.w (.mv (.t 56)))]))))
 (.reg [.ev (some 31) none (.w (.mv (.t 5))),
 .ev (some 32) none (.w (.bin .add (.t 31) (.k (.c (.i (.ofNat 1)))))),
 .ev (some 5) none (.w (.mv (.t 32)))]))))))))
 (.reg [.ev (some 12) none (.w (.mv (.t 4))),
 .ev (some 13) none (.w (.bin .add (.t 12) (.k (.c (.i (.ofNat 1)))))),
 .ev (some 4) none (.w (.mv (.t 13)))]))))))
 (.seq (.seq (.reg [.ev (some 57) none (.w (.mv (.t 0))),
 .ev (some 58) none (.m (.call 115 [.t 57, .k (.c (.b false))])),
 .ev (some 59) none (.w (.un .not (.t 58)))])
 (.cond (.t 59) (.seq (.reg [.ev (some 2) none (.w (.mv (.k (.c (.i (.ofNat 2))))))])
 .ret) .skip))
 (.seq (.seq (.reg [.ev (some 60) none (.w (.mv (.t 0))),
 .ev (some 61) none (.m (.call 115 [.t 60, .k (.c (.b true))])),
 .ev (some 62) none (.w (.un .not (.t 61))),
 .ev (some 63) none (.w (.mv (.t 62))),
 .ev (some 64) (some (63, false)) (.w (.mv (.t 3))),
 .ev (some 65) (some (63, false)) (.w (.bin .gtr (.t 64) (.k (.c (.i (.ofNat 60)))))),
 .ev (some 66) none (.w (.pick (.t 63) (.k (.c (.b true))) (.t 65)))])
 (.cond (.t 66) (.seq (.reg [.ev (some 2) none (.w (.mv (.k (.c (.i (.ofNat 3))))))])
 .ret) .skip))
 (.seq (.reg [.ev (some 2) none (.w (.mv (.k (.c (.i (.ofNat 0))))))])
 .ret)))))), [.t 2]⟩
theorem c38 : cFn ty ibs (cDraw ty ibs) [] f38 = some q38 := by decide +kernel
noncomputable def q39 : MFn := ⟨(.seq (.reg [.ev (some 4) none (.a (.box (.t 1))),
 .ev (some 6) none (.a (.al [.i (.ofNat 0), .i (.ofNat 0), .s [], .s [], .i (.ofNat 0), .i (.ofNat 0), .s [], .l0, .l0, .l0, .l0]))])
 (.seq (.reg [.ev (some 8) none (.w (.mv (.t 0))),
 .ev (some 9) none (.r (.ld (some 5) (.t 4))),
 .ev (some 10) none (.w (.mv (.t 2))),
 .ev (some 11) none (.m (.call 116 [.t 8, .t 9, .t 10])),
 .ev (some 7) none (.a (.al [.i (.ofNat 0), .i (.ofNat 0), .s [], .s [], .i (.ofNat 0), .i (.ofNat 0), .s [], .l0, .l0, .l0, .l0])),
 .ev none none (.m (.st 11 (.t 7) (.t 11)))])
 (.seq (.seq (.reg [.ev (some 12) none (.w (.mv (.t 0))),
 .ev (some 13) none (.w (.nilc (.t 12))),
 .ev (some 14) none (.w (.fad 3 (.t 13))),
 .ev (some 15) none (.r (.ld none (.t 14))),
 .ev (some 16) none (.w (.bin .eql (.t 15) (.k (.c (.i (.ofNat 0)))))),
 .ev (some 17) none (.w (.mv (.t 16))),
 .ev (some 18) (some (17, true)) (.w (.mv (.t 0))),
 .ev (some 19) (some (17, true)) (.w (.nilc (.t 18))),
 .ev (some 20) (some (17, true)) (.w (.fad 1 (.t 19))),
 .ev (some 21) (some (17, true)) (.r (.ld none (.t 20))),
 .ev (some 22) (some (17, true)) (.r (.ld (some 11) (.t 7))),
 .mk (some 23) (some (17, true)) (.call 117 [.t 21, .t 22]) [] [],
 .ev (some 24) (some (17, true)) (.w (.un .not (.t 23))),
 .ev (some 25) none (.w (.pick (.t 17) (.t 24) (.k (.c (.b false)))))])
 (.cond (.t 25) (.reg [.ev (some 26) none (.w (.mv (.t 0))),
 .ev (some 27) none (.m (.call 118 [.t 26, .k (.c (.i (.ofNat 5)))]))]) .skip))
 (.seq (.reg [.ev (some 28) none (.r (.ld (some 11) (.t 7))),
 .ev none none (.m (.st 11 (.t 6) (.t 28)))])
 .ret)))), [.c (some 11) 6]⟩
theorem c39 : cFn ty ibs (cDraw ty ibs) [[.ev 0, .ev 1, .ev 2, .ev 3, .ev 4, .ev 5, .ev 6, .ev 7, .ev 8, .ev 9, .ev 10, .ev 11, .ev 12, .ev 13]] f39 = some q39 := by decide +kernel
noncomputable def q40 : MFn := ⟨(.seq (.reg [.ev (some 3) none (.a (.box (.t 1))),
 .ev (some 4) none (.w (.mv (.k (.c (.b false)))))])
 (.seq (.seq (.reg [.ev (some 5) none (.w (.mv (.k (.c (.i (.ofNat 0))))))])
 (.blk 0 (.loop (.seq (.seq (.reg [.ev (some 6) none (.w (.mv (.t 5))),
 .ev (some 7) none (.w (.fad 10 (.t 3))),
 .ev (some 8) none (.r (.ld none (.t 7))),
 .ev (some 9) none (.w (.lnl (.t 8))),
 .ev (some 10) none (.w (.bin .lss (.t 6) (.t 9)))])
 (.cond (.t 10) .skip (.exit 0)))
 (.seq (.blk 1 (.seq (.reg [.ev (some 13) none (.w (.mv (.t 0))),
 .ev (some 14) none (.w (.fad 10 (.t 3))),
 .ev (some 15) none (.r (.ld none (.t 14))),
 .ev (some 16) none (.w (.mv (.t 5))),
 .ev (some 17) none (.w (.iad 11 (.t 15) (.t 16))),
 .ev (some 18) none (.r (.ld (some 11) (.t 17))),
 .ev (some 19) none (.m (.call 40 [.t 13, .t 18])),
 .ev (some 20) none (.w (.un .not (.t 19)))])
 (.cond (.t 20) (.seq (.reg [.ev (some 4) none (.w (.mv (.k (.c (.b false)))))])
 .ret) .skip)))
 (.reg [.ev (some 11) none (.w (.mv (.t 5))),
 .ev (some 12) none (.w (.bin .add (.t 11) (.k (.c (.i (.ofNat 1)))))),
 .ev (some 5) none (.w (.mv (.t 12)))]))))))
 (.seq (.reg [.ev (some 21) none (.w (.mv (.t 0))),
 .ev (some 22) none (.r (.ld (some 11) (.t 3))),
 .ev (some 23) none (.m (.call 117 [.t 21, .t 22])),
 .ev (some 4) none (.w (.mv (.t 23)))])
 .ret))), [.t 4]⟩
theorem c40 : cFn ty ibs (cDraw ty ibs) [] f40 = some q40 := by decide +kernel
noncomputable def q41 : MFn := ⟨(.seq (.reg [.ev (some 3) none (.a (.box (.t 1))),
 .ev (some 4) none (.a (.al [.i (.ofNat 0), .i (.ofNat 0), .s [], .s [], .i (.ofNat 0), .i (.ofNat 0), .s [], .l0, .l0, .l0, .l0]))])
 (.seq (.reg [.ev (some 8) none (.w (.fad 0 (.t 3))),
 .ev (some 9) none (.r (.ld none (.t 8))),
 .ev (some 10) none (.w (.fad 1 (.t 3))),
 .ev (some 11) none (.r (.ld none (.t 10))),
 .ev (some 12) none (.w (.fad 2 (.t 3))),
 .ev (some 13) none (.r (.ld none (.t 12))),
 .ev (some 14) none (.w (.fad 3 (.t 3))),
 .ev (some 15) none (.r (.ld none (.t 14))),
 .ev (some 16) none (.w (.mv (.t 0))),
 .ev (some 17) none (.w (.fad 4 (.t 3))),
 .ev (some 18) none (.r (.ld (some 4) (.t 17))),
 .ev (some 20) none (.a (.bsl 1 0 [] [])),
 .ev (some 21) none (.w (.fad 9 (.t 3))),
 .ev (some 22) none (.r (.ld none (.t 21))),
 .ev (some 5) none (.a (.al [.i (.ofNat 0), .i (.ofNat 0), .s [], .s [], .i (.ofNat 0), .i (.ofNat 0), .s [], .l0, .l0, .l0, .l0])),
 .mk (some 19) none (.call 44 [.t 16, .t 18]) [(9, .ld none (.t 8)), (11, .ld none (.t 10)), (13, .ld none (.t 12)), (15, .ld none (.t 14)), (22, .ld none (.t 21))] [(20, .bsl 1 0 [] []), (5, .al [.i (.ofNat 0), .i (.ofNat 0), .s [], .s [], .i (.ofNat 0), .i (.ofNat 0), .s [], .l0, .l0, .l0, .l0])],
 .mk (some 23) none (.app 1 8 (.t 20) (.t 22)) [(9, .ld none (.t 8)), (11, .ld none (.t 10)), (13, .ld none (.t 12)), (15, .ld none (.t 14))] [(5, .al [.i (.ofNat 0), .i (.ofNat 0), .s [], .s [], .i (.ofNat 0), .i (.ofNat 0), .s [], .l0, .l0, .l0, .l0])],
 .ev (some 24) none (.w (.build [.i (.ofNat 0), .i (.ofNat 0), .s [], .s [], .i (.ofNat 0), .i (.ofNat 0), .s [], .l0, .l0, .l0, .l0] [(0, 1, .t 9), (1, 1, .t 11), (2, 1, .t 13), (3, 1, .t 15), (4, 4, .t 19), (9, 1, .t 23)])),
 .mk none none (.st 11 (.t 5) (.t 24)) [] []])
 (.seq (.seq (.reg [.ev (some 6) none (.w (.mv (.k (.c (.i (.ofNat 0))))))])
 (.blk 0 (.loop (.seq (.seq (.reg [.ev (some 25) none (.w (.mv (.t 6))),
 .ev (some 26) none (.w (.fad 8 (.t 3))),
 .ev (some 27) none (.r (.ld none (.t 26))),
 .ev (some 28) none (.w (.lnl (.t 27))),
 .ev (some 29) none (.w (.bin .lss (.t 25) (.t 28)))])
 (.cond (.t 29) .skip (.exit 0)))
 (.seq (.blk 1 (.reg [.ev (some 32) none (.w (.fad 8 (.t 5))),
 .ev (some 33) none (.r (.ld none (.t 32))),
 .ev (some 34) none (.w (.mv (.t 0))),
 .ev (some 35) none (.w (.fad 8 (.t 3))),
 .ev (some 36) none (.r (.ld none (.t 35))),
 .ev (some 37) none (.w (.mv (.t 6))),
 .ev (some 38) none (.w (.iad 4 (.t 36) (.t 37))),
 .ev (some 39) none (.r (.ld (some 4) (.t 38))),
 .mk (some 40) none (.call 44 [.t 34, .t 39]) [(33, .ld none (.t 32))] [],
 .ev (some 41) none (.a (.bsl 4 1 [.i (.ofNat 0), .i (.ofNat 0), .s [], .l0] [(0, 4, .t 40)])),
 .mk (some 42) none (.app 4 56 (.t 33) (.t 41)) [] [],
 .ev (some 43) none (.w (.fad 8 (.t 5))),
 .mk none none (.st 1 (.t 43) (.t 42)) [] []]))
 (.reg [.ev (some 30) none (.w (.mv (.t 6))),
 .ev (some 31) none (.w (.bin .add (.t 30) (.k (.c (.i (.ofNat 1)))))),
 .ev (some 6) none (.w (.mv (.t 31)))]))))))
 (.seq (.seq (.reg [.ev (some 7) none (.w (.mv (.k (.c (.i (.ofNat 0))))))])
 (.blk 2 (.loop (.seq (.seq (.reg [.ev (some 44) none (.w (.mv (.t 7))),
 .ev (some 45) none (.w (.fad 10 (.t 3))),
 .ev (some 46) none (.r (.ld none (.t 45))),
 .ev (some 47) none (.w (.lnl (.t 46))),
 .ev (some 48) none (.w (.bin .lss (.t 44) (.t 47)))])
 (.cond (.t 48) .skip (.exit 2)))
 (.seq (.blk 3 (.reg [.ev (some 51) none (.w (.fad 10 (.t 5))),
 .ev (some 52) none (.r (.ld none (.t 51))),
 .ev (some 53) none (.w (.mv (.t 0))),
 .ev (some 54) none (.w (.fad 10 (.t 3))),
 .ev (some 55) none (.r (.ld none (.t 54))),
 .ev (some 56) none (.w (.mv (.t 7))),
 .ev (some 57) none (.w (.iad 11 (.t 55) (.t 56))),
 .ev (some 58) none (.r (.ld (some 11) (.t 57))),
 .mk (some 59) none (.call 41 [.t 53, .t 58]) [(52, .ld none (.t 51))] [],
 .ev (some 60) none (.a (.bsl 11 1 [.i (.ofNat 0), .i (.ofNat 0), .s [], .s [], .i (.ofNat 0), .i (.ofNat 0), .s [], .l0, .l0, .l0, .l0] [(0, 11, .t 59)])),
 .mk (some 61) none (.app 11 176 (.t 52) (.t 60)) [] [],
 .ev (some 62) none (.w (.fad 10 (.t 5))),
 .mk none none (.st 1 (.t 62) (.t 61)) [] []]))
 (.reg [.ev (some 49) none (.w (.mv (.t 7))),
 .ev (some 50) none (.w (.bin .add (.t 49) (.k (.c (.i (.ofNat 1)))))),
 .ev (some 7) none (.w (.mv (.t 50)))]))))))
 (.seq (.reg [.ev (some 63) none (.r (.ld (some 11) (.t 5))),
 .ev none none (.m (.st 11 (.t 4) (.t 63)))])
 .ret))))), [.c (some 11) 4]⟩
theorem c41 : cFn ty ibs (cDraw ty ibs) [[.ev 0, .ev 1, .ev 2, .ev 3, .ev 4, .ev 5, .ev 6, .ev 7, .ev 8, .ev 9, .ev 10, .ev 12, .ev 13, .ev 14, .ev 17, .ev 11, .ev 15, .ev 16, .ev 18], [.ev 0, .ev 1, .ev 2, .ev 3, .ev 4, .ev 5, .ev 6, .ev 7, .ev 8, .ev 9, .ev 10, .ev 11, .ev 12], [.ev 0, .ev 1, .ev 2, .ev 3, .ev 4, .ev 5, .ev 6, .ev 7, .ev 8, .ev 9, .ev 10, .ev 11, .ev 12]] f41 = some q41 := by decide +kernel
noncomputable def q42 : MFn := ⟨(.seq (.reg [.ev (some 2) none (.a (.box (.t 0))),
 .ev (some 4) none (.w (.mv (.k (.c .l0))))])
 (.seq (.seq (.reg [.ev (some 6) none (.w (.fad 0 (.t 2))),
 .ev (some 7) none (.r (.ld none (.t 6))),
 .ev (some 8) none (.w (.bin .eql (.t 7) (.k (.c (.i (.ofNat 2)))))),
 .ev (some 9) none (.w (.mv (.t 8))),
 .ev (some 10) (some (9, true)) (.w (.fad 3 (.t 2))),
 .ev (some 11) (some (9, true)) (.r (.ld none (.t 10))),
 .ev (some 12) (some (9, true)) (.w (.lnl (.t 11))),
 .ev (some 13) (some (9, true)) (.w (.bin .eql (.t 12) (.k (.c (.i (.ofNat 0)))))),
 .ev (some 14) none (.w (.pick (.t 9) (.t 13) (.k (.c (.b false))))),
 .ev (some 15) none (.w (.mv (.t 14))),
 .ev (some 16) (some (15, true)) (.w (.mv (.t 1))),
 .ev (some 17) (some (15, true)) (.w (.fad 1 (.t 2))),
 .ev (some 18) (some (15, true)) (.r (.ld none (.t 17))),
 .ev (some 19) (some (15, true)) (.m (.call 119 [.t 16, .t 18])),
 .ev (some 20) (some (15, true)) (.w (.un .not (.t 19))),
 .ev (some 21) none (.w (.pick (.t 15) (.t 20) (.k (.c (.b false)))))])
 (.cond (.t 21) (.reg [.ev (some 22) none (.w (.mv (.t 1))),
 .ev (some 23) none (.w (.fad 1 (.t 2))),
 .ev (some 24) none (.r (.ld none (.t 23))),
 .ev (some 25) none (.a (.bsl 1 1 [.i (.ofNat 0)] [(0, 1, .t 24)])),
 .ev (some 26) none (.m (.app 1 8 (.t 22) (.t 25))),
 .ev (some 1) none (.w (.mv (.t 26)))]) .skip))
 (.seq (.seq (.reg [.ev (some 5) none (.w (.mv (.k (.c (.i (.ofNat 0))))))])
 (.blk 0 (.loop (.seq (.seq (.reg [.ev (some 27) none (.w (.mv (.t 5))),
 .ev (some 28) none (.w (.fad 3 (.t 2))),
 .ev (some 29) none (.r (.ld none (.t 28))),
 .ev (some 30) none (.w (.lnl (.t 29))),
 .ev (some 31) none (.w (.bin .lss (.t 27) (.t 30)))])
 (.cond (.t 31) .skip (.exit 0)))
 (.seq (.blk 1 (.reg [.ev (some 34) none (.w (.fad 3 (.t 2))),
 .ev (some 35) none (.r (.ld none (.t 34))),
 .ev (some 36) none (.w (.mv (.t 5))),
 .ev (some 37) none (.w (.iad 4 (.t 35) (.t 36))),
 .ev (some 38) none (.r (.ld (some 4) (.t 37))),
 .ev (some 39) none (.w (.mv (.t 1))),
 .ev (some 40) none (.m (.call 42 [.t 38, .t 39])),
 .ev (some 1) none (.w (.mv (.t 40)))]))
 (.reg [.ev (some 32) none (.w (.mv (.t 5))),
 .ev (some 33) none (.w (.bin .add (.t 32) (.k (.c (.i (.ofNat 1)))))),
 .ev (some 5) none (.w (.mv (.t 33)))]))))))
 (.seq (.reg [.ev (some 41) none (.w (.mv (.t 1))),
 .ev (some 4) none (.w (.mv (.t 41)))])
 .ret)))), [.t 4]⟩
theorem c42 : cFn ty ibs (cDraw ty ibs) [] f42 = some q42 := by decide +kernel
noncomputable def q43 : MFn := ⟨(.seq (.reg [.ev (some 1) none (.a (.box (.t 0))),
 .ev (some 2) none (.w (.mv (.k (.c (.s [])))))])
 (.seq (.blk 0 (.seq (.reg [.ev (some 6) none (.w (.fad 0 (.t 1))),
 .ev (some 7) none (.r (.ld none (.t 6))),
 .ev (some 8) none (.w (.bin .eql (.t 7) (.k (.c (.i (.ofNat 1)))))),
 .ev (some 5) none (.w (.mv (.t 8)))])
 (.cond (.t 5) (.seq (.reg [.ev (some 2) none (.w (.mv (.k (.c (.s [73, 110, 116])))))])
 .ret) (.seq (.reg [.ev (some 10) none (.w (.fad 0 (.t 1))),
 .ev (some 11) none (.r (.ld none (.t 10))),
 .ev (some 12) none (.w (.bin .eql (.t 11) (.k (.c (.i (.ofNat 2)))))),
 .ev (some 13) none (.w (.mv (.t 12))),
 .ev (some 14) (some (13, true)) (.w (.fad 1 (.t 1))),
 .ev (some 15) (some (13, true)) (.r (.ld none (.t 14))),
 .ev (some 16) (some (13, true)) (.w (.bin .lss (.t 15) (.k (.c (.i (.ofNat 0)))))),
 .ev (some 17) none (.w (.pick (.t 13) (.t 16) (.k (.c (.b false))))),
 .ev (some 9) none (.w (.mv (.t 17)))])
 (.cond (.t 9) (.seq (.reg [.ev (some 2) none (.w (.mv (.k (.c (.s [63])))))])
 .ret) (.seq (.reg [.ev (some 19) none (.w (.fad 0 (.t 1))),
 .ev (some 20) none (.r (.ld none (.t 19))),
 .ev (some 21) none (.w (.bin .eql (.t 20) (.k (.c (.i (.ofNat 2)))))),
 .ev (some 18) none (.w (.mv (.t 21)))])
 (.cond (.t 18) (.seq (.reg [.ev (some 22) none (.w (.fad 1 (.t 1))),
 .ev (some 23) none (.r (.ld none (.t 22))),
 .ev (some 24) none (.w (.bin .rem (.t 23) (.k (.c (.i (.ofNat 26)))))),
 .ev (some 25) none (.w (.bin .add (.k (.c (.i (.ofNat 97)))) (.t 24))),
 .ev (some 26) none (.w (.cv .u8 (.t 25))),
 .ev (some 27) none (.a (.bsl 1 1 [.j .u8 (.ofNat 0)] [(0, 1, .t 26)])),
 .ev (some 28) none (.r (.bts (.t 27))),
 .ev (some 2) none (.w (.mv (.t 28)))])
 .ret) (.seq (.reg [.ev (some 30) none (.w (.fad 0 (.t 1))),
 .ev (some 31) none (.r (.ld none (.t 30))),
 .ev (some 32) none (.w (.bin .eql (.t 31) (.k (.c (.i (.ofNat 3)))))),
 .ev (some 33) none (.w (.mv (.t 32))),
 .ev (some 34) (some (33, true)) (.w (.fad 3 (.t 1))),
 .ev (some 35) (some (33, true)) (.r (.ld none (.t 34))),
 .ev (some 36) (some (33, true)) (.w (.lnl (.t 35))),
 .ev (some 37) (some (33, true)) (.w (.bin .eql (.t 36) (.k (.c (.i (.ofNat 2)))))),
 .ev (some 38) none (.w (.pick (.t 33) (.t 37) (.k (.c (.b false))))),
 .ev (some 29) none (.w (.mv (.t 38)))])
 (.cond (.t 29) (.seq (.reg [.ev (some 39) none (.w (.fad 3 (.t 1))),
 .ev (some 40) none (.r (.ld none (.t 39))),
 .ev (some 41) none (.w (.iad 4 (.t 40) (.k (.c (.i (.ofNat 0)))))),
 .ev (some 42) none (.r (.ld (some 4) (.t 41))),
 .ev (some 46) none (.w (.fad 3 (.t 1))),
 .ev (some 47) none (.r (.ld none (.t 46))),
 .ev (some 48) none (.w (.iad 4 (.t 47) (.k (.c (.i (.ofNat 1)))))),
 .ev (some 49) none (.r (.ld (some 4) (.t 48))),
 .mk (some 43) none (.call 43 [.t 42]) [(47, .ld none (.t 46)), (49, .ld (some 4) (.t 48))] [],
 .ev (some 44) none (.w (.bin .add (.k (.c (.s [40]))) (.t 43))),
 .ev (some 45) none (.w (.bin .add (.t 44) (.k (.c (.s [32, 45, 62, 32]))))),
 .mk (some 50) none (.call 43 [.t 49]) [] [],
 .ev (some 51) none (.w (.bin .add (.t 45) (.t 50))),
 .ev (some 52) none (.w (.bin .add (.t 51) (.k (.c (.s [41]))))),
 .ev (some 2) none (.w (.mv (.t 52)))])
 .ret) (.seq (.reg [.ev (some 54) none (.w (.fad 0 (.t 1))),
 .ev (some 55) none (.r (.ld none (.t 54))),
 .ev (some 56) none (.w (.bin .eql (.t 55) (.k (.c (.i (.ofNat 4)))))),
 .ev (some 53) none (.w (.mv (.t 56)))])
 (.cond (.t 53) (.seq (.reg [.ev (some 57) none (.w (.fad 2 (.t 1))),
 .ev (some 58) none (.r (.ld none (.t 57))),
 .ev (some 3) none (.w (.mv (.t 58)))])
 (.seq (.seq (.reg [.ev (some 4) none (.w (.mv (.k (.c (.i (.ofNat 0))))))])
 (.blk 1 (.loop (.seq (.seq (.reg [.ev (some 59) none (.w (.mv (.t 4))),
 .ev (some 60) none (.w (.fad 3 (.t 1))),
 .ev (some 61) none (.r (.ld none (.t 60))),
 .ev (some 62) none (.w (.lnl (.t 61))),
 .ev (some 63) none (.w (.bin .lss (.t 59) (.t 62)))])
 (.cond (.t 63) .skip (.exit 1)))
 (.seq (.blk 2 (.reg [.ev (some 66) none (.w (.mv (.t 3))),
 .ev (some 67) none (.w (.bin .add (.t 66) (.k (.c (.s [32]))))),
 .ev (some 68) none (.w (.fad 3 (.t 1))),
 .ev (some 69) none (.r (.ld none (.t 68))),
 .ev (some 70) none (.w (.mv (.t 4))),
 .ev (some 71) none (.w (.iad 4 (.t 69) (.t 70))),
 .ev (some 72) none (.r (.ld (some 4) (.t 71))),
 .ev (some 73) none (.m (.call 43 [.t 72])),
 .ev (some 74) none (.w (.bin .add (.t 67) (.t 73))),
 .ev (some 3) none (.w (.mv (.t 74)))]))
 (.reg [.ev (some 64) none (.w (.mv (.t 4))),
 .ev (some 65) none (.w (.bin .add (.t 64) (.k (.c (.i (.ofNat 1)))))),
 .ev (some 4) none (.w (.mv (.t 65)))]))))))
 (.seq (.seq (.reg [.ev (some 75) none (.w (.fad 3 (.t 1))),
 .ev (some 76) none (.r (.ld none (.t 75))),
 .ev (some 77) none (.w (.lnl (.t 76))),
 .ev (some 78) none (.w (.bin .gtr (.t 77) (.k (.c (.i (.ofNat 0))))))])
 (.cond (.t 78) (.seq (.reg [.ev (some 79) none (.w (.mv (.t 3))),
 .ev (some 80) none (.w (.bin .add (.k (.c (.s [40]))) (.t 79))),
 .ev (some 81) none (.w (.bin .add (.t 80) (.k (.c (.s [41]))))),
 .ev (some 2) none (.w (.mv (.t 81)))])
 .ret) .skip))
 (.seq (.reg [.ev (some 82) none (.w (.mv (.t 3))),
 .ev (some 2) none (.w (.mv (.t 82)))])
 .ret)))) .skip)))))))))))
 (.seq (.reg [.ev (some 2) none (.w (.mv (.k (.c (.s [63])))))])
 .ret))), [.t 2]⟩
theorem c43 : cFn ty ibs (cDraw ty ibs) [[.ev 0, .ev 1, .ev 2, .ev 3, .ev 7, .ev 8, .ev 9, .ev 10, .ev 4, .ev 5, .ev 6, .ev 11, .ev 12, .ev 13, .ev 14]] f43 = some q43 := by decide +kernel
noncomputable def q44 : MFn := ⟨(.seq (.reg [.ev (some 3) none (.a (.box (.t 1))),
 .ev (some 4) none (.a (.al [.i (.ofNat 0), .i (.ofNat 0), .s [], .l0]))])
 (.seq (.seq (.reg [.ev (some 8) none (.w (.fad 0 (.t 3))),
 .ev (some 9) none (.r (.ld none (.t 8))),
 .ev (some 10) none (.w (.bin .eql (.t 9) (.k (.c (.i (.ofNat 2)))))),
 .ev (some 11) none (.w (.mv (.t 10))),
 .ev (some 12) (some (11, true)) (.w (.fad 3 (.t 3))),
 .ev (some 13) (some (11, true)) (.r (.ld none (.t 12))),
 .ev (some 14) (some (11, true)) (.w (.lnl (.t 13))),
 .ev (some 15) (some (11, true)) (.w (.bin .eql (.t 14) (.k (.c (.i (.ofNat 0)))))),
 .ev (some 16) none (.w (.pick (.t 11) (.t 15) (.k (.c (.b false)))))])
 (.cond (.t 16) (.seq (.reg [.ev (some 17) none (.w (.mv (.t 0))),
 .ev (some 18) none (.w (.fad 1 (.t 3))),
 .ev (some 19) none (.r (.ld none (.t 18))),
 .ev (some 20) none (.m (.call 120 [.t 17, .t 19])),
 .ev (some 5) none (.w (.mv (.t 20)))])
 (.seq (.reg [.ev (some 21) none (.w (.mv (.t 5))),
 .ev (some 22) none (.w (.bin .geq (.t 21) (.k (.c (.i (.ofNat 0))))))])
 (.cond (.t 22) (.seq (.reg [.ev (some 23) none (.w (.mv (.t 0))),
 .ev (some 24) none (.w (.mv (.t 5))),
 .ev (some 25) none (.w (.iad 5 (.t 23) (.t 24))),
 .ev (some 26) none (.w (.fad 1 (.t 25))),
 .ev (some 27) none (.r (.ld (some 4) (.t 26))),
 .ev (some 28) none (.m (.call 121 [.t 27])),
 .ev none none (.m (.st 4 (.t 4) (.t 28)))])
 .ret) .skip))) .skip))
 (.seq (.reg [.ev (some 29) none (.w (.fad 0 (.t 3))),
 .ev (some 30) none (.r (.ld none (.t 29))),
 .ev (some 31) none (.w (.fad 1 (.t 3))),
 .ev (some 32) none (.r (.ld none (.t 31))),
 .ev (some 33) none (.w (.fad 2 (.t 3))),
 .ev (some 34) none (.r (.ld none (.t 33))),
 .ev (some 35) none (.w (.build [.i (.ofNat 0), .i (.ofNat 0), .s [], .l0] [(0, 1, .t 30), (1, 1, .t 32), (2, 1, .t 34)])),
 .ev (some 6) none (.a (.al [.i (.ofNat 0), .i (.ofNat 0), .s [], .l0])),
 .ev none none (.m (.st 4 (.t 6) (.t 35)))])
 (.seq (.seq (.reg [.ev (some 7) none (.w (.mv (.k (.c (.i (.ofNat 0))))))])
 (.blk 0 (.loop (.seq (.seq (.reg [.ev (some 36) none (.w (.mv (.t 7))),
 .ev (some 37) none (.w (.fad 3 (.t 3))),
 .ev (some 38) none (.r (.ld none (.t 37))),
 .ev (some 39) none (.w (.lnl (.t 38))),
 .ev (some 40) none (.w (.bin .lss (.t 36) (.t 39)))])
 (.cond (.t 40) .skip (.exit 0)))
 (.seq (.blk 1 (.reg [.ev (some 43) none (.w (.fad 3 (.t 6))),
 .ev (some 44) none (.r (.ld none (.t 43))),
 .ev (some 45) none (.w (.mv (.t 0))),
 .ev (some 46) none (.w (.fad 3 (.t 3))),
 .ev (some 47) none (.r (.ld none (.t 46))),
 .ev (some 48) none (.w (.mv (.t 7))),
 .ev (some 49) none (.w (.iad 4 (.t 47) (.t 48))),
 .ev (some 50) none (.r (.ld (some 4) (.t 49))),
 .mk (some 51) none (.call 44 [.t 45, .t 50]) [(44, .ld none (.t 43))] [],
 .ev (some 52) none (.a (.bsl 4 1 [.i (.ofNat 0), .i (.ofNat 0), .s [], .l0] [(0, 4, .t 51)])),
 .mk (some 53) none (.app 4 56 (.t 44) (.t 52)) [] [],
 .ev (some 54) none (.w (.fad 3 (.t 6))),
 .mk none none (.st 1 (.t 54) (.t 53)) [] []]))
 (.reg [.ev (some 41) none (.w (.mv (.t 7))),
 .ev (some 42) none (.w (.bin .add (.t 41) (.k (.c (.i (.ofNat 1)))))),
 .ev (some 7) none (.w (.mv (.t 42)))]))))))
 (.seq (.reg [.ev (some 55) none (.r (.ld (some 4) (.t 6))),
 .ev none none (.m (.st 4 (.t 4) (.t 55)))])
 .ret))))), [.c (some 4) 4]⟩
theorem c44 : cFn ty ibs (cDraw ty ibs) [[.ev 0, .ev 1, .ev 2, .ev 3, .ev 4, .ev 5, .ev 6, .ev 7, .ev 8, .ev 9, .ev 10, .ev 11, .ev 12]] f44 = some q44 := by decide +kernel
end Go.Ev
