/-
The table: functions in the evaluator's form, each checked against the program.
-/
import Derived.Test.YtjidglpldjcmdaaGreatEvTb0
set_option linter.unusedVariables false
set_option maxRecDepth 1000000
namespace Go.Ev
open Go Go.Proofs.Tryz

noncomputable def q6 : MFn := ⟨(.seq (.reg [.ev (some 2) none (.w (.mv (.k (.c (.s []))))),
 .ev (some 3) none (.w (.mv (.k (.c (.i (.ofNat 0))))))])
 (.seq (.reg [.ev (some 9) none (.w (.mv (.t 0))),
 .ev (some 10) none (.m (.call 8 [.t 9])),
 .ev (some 8) none (.w (.mv (.t 10))),
 .ev (some 11) none (.w (.ext 0 (.t 8))),
 .ev (some 12) none (.w (.ext 1 (.t 8))),
 .ev (some 4) none (.a (.al [.l0, .i (.ofNat 0), .i (.ofNat 0), .s [], .s [], .l0])),
 .ev none none (.m (.st 6 (.t 4) (.t 11))),
 .ev (some 5) none (.w (.mv (.t 12)))])
 (.seq (.seq (.reg [.ev (some 13) none (.w (.mv (.t 5))),
 .ev (some 14) none (.w (.bin .geq (.t 13) (.k (.c (.i (.ofNat 0))))))])
 (.cond (.t 14) (.seq (.reg [.ev (some 2) none (.w (.mv (.k (.c (.s []))))),
 .ev (some 3) none (.w (.mv (.k (.c (.i (.negSucc 0))))))])
 .ret) .skip))
 (.seq (.reg [.ev (some 16) none (.r (.ld (some 6) (.t 4))),
 .ev (some 17) none (.m (.call 9 [.t 16])),
 .ev (some 15) none (.w (.mv (.t 17))),
 .ev (some 18) none (.w (.ext 0 (.t 15))),
 .ev (some 19) none (.w (.ext 1 (.t 15))),
 .ev (some 6) none (.a (.al [.i (.ofNat 0), .i (.ofNat 0), .s [], .s [], .i (.ofNat 0), .i (.ofNat 0), .s [], .l0, .l0, .l0, .l0])),
 .ev none none (.m (.st 11 (.t 6) (.t 18))),
 .ev (some 7) none (.w (.mv (.t 19)))])
 (.seq (.seq (.reg [.ev (some 20) none (.w (.mv (.t 7))),
 .ev (some 21) none (.w (.bin .neq (.t 20) (.k (.c (.i (.ofNat 0))))))])
 (.cond (.t 21) (.seq (.reg [.ev (some 22) none (.w (.mv (.t 7))),
 .ev (some 2) none (.w (.mv (.k (.c (.s []))))),
 .ev (some 3) none (.w (.mv (.t 22)))])
 .ret) .skip))
 (.seq (.reg [.ev (some 23) none (.w (.fad 4 (.t 6))),
 .ev (some 24) none (.r (.ld (some 4) (.t 23))),
 .ev (some 25) none (.m (.call 10 [.t 24])),
 .ev (some 2) none (.w (.mv (.t 25))),
 .ev (some 3) none (.w (.mv (.k (.c (.i (.ofNat 0))))))])
 .ret)))))), [.t 2, .t 3]⟩
theorem c6 : cFn ty ibs (cDraw ty ibs) [] f6 = some q6 := by decide +kernel
noncomputable def q7 : MFn := ⟨(.seq (.reg [.ev (some 2) none (.w (.mv (.k (.c (.s []))))),
 .ev (some 3) none (.w (.mv (.k (.c (.i (.ofNat 0))))))])
 (.seq (.reg [.ev (some 9) none (.w (.mv (.t 0))),
 .ev (some 10) none (.m (.call 11 [.t 9])),
 .ev (some 8) none (.w (.mv (.t 10))),
 .ev (some 11) none (.w (.ext 0 (.t 8))),
 .ev (some 12) none (.w (.ext 1 (.t 8))),
 .ev (some 4) none (.a (.al [.l0, .i (.ofNat 0), .i (.ofNat 0), .s [], .s [], .l0])),
 .ev none none (.m (.st 6 (.t 4) (.t 11))),
 .ev (some 5) none (.w (.mv (.t 12)))])
 (.seq (.seq (.reg [.ev (some 13) none (.w (.mv (.t 5))),
 .ev (some 14) none (.w (.bin .geq (.t 13) (.k (.c (.i (.ofNat 0))))))])
 (.cond (.t 14) (.seq (.reg [.ev (some 2) none (.w (.mv (.k (.c (.s []))))),
 .ev (some 3) none (.w (.mv (.k (.c (.i (.negSucc 0))))))])
 .ret) .skip))
 (.seq (.reg [.ev (some 16) none (.r (.ld (some 6) (.t 4))),
 .ev (some 17) none (.m (.call 12 [.t 16])),
 .ev (some 15) none (.w (.mv (.t 17))),
 .ev (some 18) none (.w (.ext 0 (.t 15))),
 .ev (some 19) none (.w (.ext 1 (.t 15))),
 .ev (some 6) none (.a (.al [.i (.ofNat 0), .i (.ofNat 0), .s [], .s [], .i (.ofNat 0), .i (.ofNat 0), .s [], .l0, .l0, .l0, .l0])),
 .ev none none (.m (.st 11 (.t 6) (.t 18))),
 .ev (some 7) none (.w (.mv (.t 19)))])
 (.seq (.seq (.reg [.ev (some 20) none (.w (.mv (.t 7))),
 .ev (some 21) none (.w (.bin .neq (.t 20) (.k (.c (.i (.ofNat 0))))))])
 (.cond (.t 21) (.seq (.reg [.ev (some 22) none (.w (.mv (.t 7))),
 .ev (some 2) none (.w (.mv (.k (.c (.s []))))),
 .ev (some 3) none (.w (.mv (.t 22)))])
 .ret) .skip))
 (.seq (.reg [.ev (some 23) none (.w (.fad 4 (.t 6))),
 .ev (some 24) none (.r (.ld (some 4) (.t 23))),
 .ev (some 25) none (.m (.call 13 [.t 24])),
 .ev (some 2) none (.w (.mv (.t 25))),
 .ev (some 3) none (.w (.mv (.k (.c (.i (.ofNat 0))))))])
 .ret)))))), [.t 2, .t 3]⟩
theorem c7 : cFn ty ibs (cDraw ty ibs) [] f7 = some q7 := by decide +kernel
noncomputable def q8 : MFn := ⟨(.seq (.reg [.ev (some 2) none (.a (.al [.l0, .i (.ofNat 0), .i (.ofNat 0), .s [], .s [], .l0])),
 .ev (some 3) none (.w (.mv (.k (.c (.i (.ofNat 0))))))])
 (.seq (.reg [.ev (some 10) none (.w (.mv (.t 0))),
 .ev (some 11) none (.m (.call 14 [.t 10])),
 .ev (some 9) none (.w (.mv (.t 11))),
 .ev (some 12) none (.w (.ext 0 (.t 9))),
 .ev (some 13) none (.w (.ext 1 (.t 9))),
 .ev (some 4) none (.w (.mv (.t 12))),
 .ev (some 5) none (.w (.mv (.t 13)))])
 (.seq (.seq (.reg [.ev (some 14) none (.w (.mv (.t 5))),
 .ev (some 15) none (.w (.bin .geq (.t 14) (.k (.c (.i (.ofNat 0))))))])
 (.cond (.t 15) (.seq (.reg [.ev (some 16) none (.w (.build [.l0, .i (.ofNat 0), .i (.ofNat 0), .s [], .s [], .l0] [])),
 .ev (some 17) none (.w (.mv (.t 5))),
 .ev none none (.m (.st 6 (.t 2) (.t 16))),
 .ev (some 3) none (.w (.mv (.t 17)))])
 .ret) .skip))
 (.seq (.reg [.ev (some 18) none (.w (.mv (.t 4))),
 .ev (some 19) none (.w (.build [.l0, .i (.ofNat 0), .i (.ofNat 0), .b false] [(0, 1, .t 18), (2, 1, .k (.c (.i (.negSucc 0))))])),
 .ev (some 20) none (.a (.box (.t 19))),
 .ev (some 6) none (.w (.mv (.t 20)))])
 (.seq (.reg [.ev (some 21) none (.w (.build [.l0, .i (.ofNat 0), .i (.ofNat 0), .s [], .s [], .l0] [])),
 .ev (some 7) none (.a (.al [.l0, .i (.ofNat 0), .i (.ofNat 0), .s [], .s [], .l0])),
 .ev none none (.m (.st 6 (.t 7) (.t 21)))])
 (.seq (.blk 0 (.loop (.seq (.seq (.reg [.ev (some 22) none (.w (.mv (.t 6))),
 .ev (some 23) none (.m (.call 15 [.t 22, .k (.c (.s [100, 97, 116, 97]))]))])
 (.cond (.t 23) .skip (.exit 0)))
 (.blk 1 (.seq (.reg [.ev (some 24) none (.w (.mv (.t 6))),
 .ev (some 25) none (.m (.call 16 [.t 24])),
 .ev (some 8) none (.a (.al [.s [], .i (.ofNat 0), .l0])),
 .ev none none (.m (.st 3 (.t 8) (.t 25)))])
 (.reg [.ev (some 26) none (.w (.fad 0 (.t 7))),
 .ev (some 27) none (.r (.ld none (.t 26))),
 .ev (some 28) none (.r (.ld (some 3) (.t 8))),
 .ev (some 29) none (.a (.bsl 3 1 [.s [], .i (.ofNat 0), .l0] [(0, 3, .t 28)])),
 .ev (some 30) none (.m (.app 3 48 (.t 27) (.t 29))),
 .ev (some 31) none (.w (.fad 0 (.t 7))),
 .ev none none (.m (.st 1 (.t 31) (.t 30)))]))))))
 (.seq (.reg [.ev (some 32) none (.w (.mv (.t 6))),
 .ev (some 33) none (.m (.call 17 [.t 32])),
 .ev (some 34) none (.w (.fad 1 (.t 7))),
 .ev none none (.m (.st 5 (.t 34) (.t 33)))])
 (.seq (.seq (.reg [.ev (some 35) none (.w (.mv (.t 6))),
 .ev (some 36) none (.m (.call 18 [.t 35])),
 .ev (some 37) none (.w (.fld 0 none (.t 36))),
 .ev (some 38) none (.w (.bin .neq (.t 37) (.k (.c (.i (.ofNat 0))))))])
 (.cond (.t 38) (.reg [.ev (some 39) none (.w (.mv (.t 6))),
 .ev (some 40) none (.m (.call 19 [.t 39]))]) .skip))
 (.seq (.blk 2 (.seq (.reg [.ev (some 42) none (.w (.mv (.t 6))),
 .ev (some 43) none (.w (.nilc (.t 42))),
 .ev (some 44) none (.w (.fad 2 (.t 43))),
 .ev (some 45) none (.r (.ld none (.t 44))),
 .ev (some 46) none (.w (.bin .geq (.t 45) (.k (.c (.i (.ofNat 0)))))),
 .ev (some 41) none (.w (.mv (.t 46)))])
 (.cond (.t 41) (.seq (.reg [.ev (some 47) none (.w (.build [.l0, .i (.ofNat 0), .i (.ofNat 0), .s [], .s [], .l0] [])),
 .ev (some 48) none (.w (.mv (.t 6))),
 .ev (some 49) none (.w (.nilc (.t 48))),
 .ev (some 50) none (.w (.fad 2 (.t 49))),
 .ev (some 51) none (.r (.ld none (.t 50))),
 .mk none none (.st 6 (.t 2) (.t 47)) [(51, .ld none (.t 50))] [],
 .ev (some 3) none (.w (.mv (.t 51)))])
 .ret) (.seq (.reg [.ev (some 53) none (.w (.mv (.t 6))),
 .ev (some 54) none (.w (.nilc (.t 53))),
 .ev (some 55) none (.w (.fad 3 (.t 54))),
 .ev (some 56) none (.r (.ld none (.t 55))),
 .ev (some 57) none (.w (.mv (.t 56))),
 .ev (some 58) (some (57, false)) (.r (.ld (some 6) (.t 7))),
 .ev (some 59) (some (57, false)) (.m (.call 20 [.t 58])),
 .ev (some 60) (some (57, false)) (.w (.un .not (.t 59))),
 .ev (some 61) none (.w (.pick (.t 57) (.k (.c (.b true))) (.t 60))),
 .ev (some 62) none (.w (.mv (.t 61))),
 .ev (some 63) (some (62, false)) (.w (.fad 0 (.t 7))),
 .ev (some 64) (some (62, false)) (.r (.ld none (.t 63))),
 .ev (some 65) (some (62, false)) (.m (.call 21 [.t 64, .k (.c (.f 22 []))])),
 .ev (some 66) none (.w (.pick (.t 62) (.k (.c (.b true))) (.t 65))),
 .ev (some 52) none (.w (.mv (.t 66)))])
 (.cond (.t 52) (.seq (.reg [.ev (some 67) none (.w (.build [.l0, .i (.ofNat 0), .i (.ofNat 0), .s [], .s [], .l0] [])),
 .ev none none (.m (.st 6 (.t 2) (.t 67))),
 .ev (some 3) none (.w (.mv (.k (.c (.i (.ofNat 0))))))])
 .ret) .skip)))))
 (.seq (.reg [.ev (some 68) none (.r (.ld (some 6) (.t 7))),
 .ev none none (.m (.st 6 (.t 2) (.t 68))),
 .ev (some 3) none (.w (.mv (.k (.c (.i (.negSucc 0))))))])
 .ret)))))))))), [.c (some 6) 2, .t 3]⟩
theorem c8 : cFn ty ibs (cDraw ty ibs) [[.ev 0, .ev 1, .ev 2, .ev 3, .ev 4, .ev 5, .ev 6]] f8 = some q8 := by decide +kernel
noncomputable def q9 : MFn := ⟨(.seq (.reg [.ev (some 1) none (.a (.box (.t 0))),
 .ev (some 2) none (.a (.al [.i (.ofNat 0), .i (.ofNat 0), .s [], .s [], .i (.ofNat 0), .i (.ofNat 0), .s [], .l0, .l0, .l0, .l0])),
 .ev (some 3) none (.w (.mv (.k (.c (.i (.ofNat 0))))))])
 (.seq (.blk 0 (.seq (.reg [.ev (some 7) none (.r (.ld (some 6) (.t 1))),
 .ev (some 8) none (.m (.call 23 [.t 7])),
 .ev (some 9) none (.w (.un .not (.t 8))),
 .ev (some 6) none (.w (.mv (.t 9)))])
 (.cond (.t 6) (.seq (.reg [.ev (some 10) none (.w (.build [.i (.ofNat 0), .i (.ofNat 0), .s [], .s [], .i (.ofNat 0), .i (.ofNat 0), .s [], .l0, .l0, .l0, .l0] [])),
 .ev none none (.m (.st 11 (.t 2) (.t 10))),
 .ev (some 3) none (.w (.mv (.k (.c (.i (.ofNat 1))))))])
 .ret) (.seq (.reg [.ev (some 12) none (.w (.fad 0 (.t 1))),
 .ev (some 13) none (.r (.ld none (.t 12))),
 .ev (some 14) none (.m (.call 24 [.t 13])),
 .ev (some 15) none (.w (.bin .neq (.t 14) (.k (.c (.i (.ofNat 0)))))),
 .ev (some 11) none (.w (.mv (.t 15)))])
 (.cond (.t 11) (.seq (.reg [.ev (some 16) none (.w (.build [.i (.ofNat 0), .i (.ofNat 0), .s [], .s [], .i (.ofNat 0), .i (.ofNat 0), .s [], .l0, .l0, .l0, .l0] [])),
 .ev none none (.m (.st 11 (.t 2) (.t 16))),
 .ev (some 3) none (.w (.mv (.k (.c (.i (.ofNat 2))))))])
 .ret) .skip)))))
 (.seq (.reg [.ev (some 17) none (.w (.fad 0 (.t 1))),
 .ev (some 18) none (.r (.ld none (.t 17))),
 .ev (some 19) none (.w (.build [.l0, .l0, .i (.ofNat 0), .i (.ofNat 0)] [(0, 1, .t 18)])),
 .ev (some 20) none (.a (.box (.t 19))),
 .ev (some 4) none (.w (.mv (.t 20)))])
 (.seq (.reg [.ev (some 21) none (.w (.mv (.t 4))),
 .ev (some 22) none (.w (.fad 1 (.t 1))),
 .ev (some 23) none (.r (.ld (some 5) (.t 22))),
 .ev (some 24) none (.m (.call 25 [.t 21, .t 23, .k (.c .l0)])),
 .ev (some 5) none (.a (.al [.i (.ofNat 0), .i (.ofNat 0), .s [], .s [], .i (.ofNat 0), .i (.ofNat 0), .s [], .l0, .l0, .l0, .l0])),
 .ev none none (.m (.st 11 (.t 5) (.t 24)))])
 (.seq (.seq (.reg [.ev (some 25) none (.w (.mv (.t 4))),
 .ev (some 26) none (.w (.nilc (.t 25))),
 .ev (some 27) none (.w (.fad 3 (.t 26))),
 .ev (some 28) none (.r (.ld none (.t 27))),
 .ev (some 29) none (.w (.bin .neq (.t 28) (.k (.c (.i (.ofNat 0))))))])
 (.cond (.t 29) (.seq (.reg [.ev (some 30) none (.w (.build [.i (.ofNat 0), .i (.ofNat 0), .s [], .s [], .i (.ofNat 0), .i (.ofNat 0), .s [], .l0, .l0, .l0, .l0] [])),
 .ev (some 31) none (.w (.mv (.t 4))),
 .ev (some 32) none (.w (.nilc (.t 31))),
 .ev (some 33) none (.w (.fad 3 (.t 32))),
 .ev (some 34) none (.r (.ld none (.t 33))),
 .mk none none (.st 11 (.t 2) (.t 30)) [(34, .ld none (.t 33))] [],
 .ev (some 3) none (.w (.mv (.t 34)))])
 .ret) .skip))
 (.seq (.reg [.ev (some 35) none (.w (.mv (.t 4))),
 .ev (some 36) none (.w (.nilc (.t 35))),
 .ev (some 37) none (.w (.fad 1 (.t 36))),
 .ev (some 38) none (.r (.ld none (.t 37))),
 .ev (some 39) none (.r (.ld (some 11) (.t 5))),
 .mk (some 40) none (.call 26 [.t 38, .t 39]) [] [],
 .mk none none (.st 11 (.t 5) (.t 40)) [] []])
 (.seq (.seq (.reg [.ev (some 41) none (.r (.ld (some 11) (.t 5))),
 .ev (some 42) none (.m (.call 27 [.t 41])),
 .ev (some 43) none (.w (.un .not (.t 42)))])
 (.cond (.t 43) (.seq (.reg [.ev (some 44) none (.w (.build [.i (.ofNat 0), .i (.ofNat 0), .s [], .s [], .i (.ofNat 0), .i (.ofNat 0), .s [], .l0, .l0, .l0, .l0] [])),
 .ev none none (.m (.st 11 (.t 2) (.t 44))),
 .ev (some 3) none (.w (.mv (.k (.c (.i (.ofNat 5))))))])
 .ret) .skip))
 (.seq (.reg [.ev (some 45) none (.r (.ld (some 11) (.t 5))),
 .ev none none (.m (.st 11 (.t 2) (.t 45))),
 .ev (some 3) none (.w (.mv (.k (.c (.i (.ofNat 0))))))])
 .ret)))))))), [.c (some 11) 2, .t 3]⟩
theorem c9 : cFn ty ibs (cDraw ty ibs) [[.ev 0, .ev 1, .ev 2, .ev 3, .ev 4, .ev 5, .ev 6], [.ev 0, .ev 1, .ev 2, .ev 3, .ev 4, .ev 5, .ev 6]] f9 = some q9 := by decide +kernel
noncomputable def q10 : MFn := ⟨(.seq (.reg [.ev (some 1) none (.a (.box (.t 0))),
 .ev (some 2) none (.w (.mv (.k (.c (.s [])))))])
 (.seq (.reg [.ev (some 6) none (.r (.ld (some 4) (.t 1))),
 .ev (some 7) none (.m (.call 28 [.t 6, .k (.c .l0)])),
 .ev (some 3) none (.w (.mv (.t 7)))])
 (.seq (.reg [.ev (some 8) none (.a (.bsl 4 0 [] [])),
 .ev (some 4) none (.w (.mv (.t 8)))])
 (.seq (.seq (.reg [.ev (some 9) none (.w (.mv (.t 3))),
 .ev (some 10) none (.w (.lnl (.t 9))),
 .ev (some 11) none (.w (.mv (.k (.c (.i (.ofNat 0))))))])
 (.blk 0 (.loop (.seq (.reg [.ev (some 12) none (.w (.bin .lss (.t 11) (.t 10)))])
 (.seq (.cond (.t 12) .skip (.exit 0))
 (.seq (.blk 1 (.seq (.reg [.ev (some 13) none (.w (.mv (.t 11))),
 .ev (some 5) none (.w (.mv (.t 13)))])
 (.reg [.ev (some 14) none (.w (.mv (.t 4))),
 .ev (some 15) none (.w (.mv (.t 5))),
 .ev (some 16) none (.w (.build [.i (.ofNat 0), .i (.ofNat 0), .s [], .l0] [(0, 1, .k (.c (.i (.ofNat 2)))), (1, 1, .t 15)])),
 .ev (some 17) none (.a (.bsl 4 1 [.i (.ofNat 0), .i (.ofNat 0), .s [], .l0] [(0, 4, .t 16)])),
 .ev (some 18) none (.m (.app 4 56 (.t 14) (.t 17))),
 .ev (some 4) none (.w (.mv (.t 18)))])))
 (.reg [.ev (some 19) none (.w (.bin .add (.t 11) (.k (.c (.i (.ofNat 1)))))),
 .ev (some 11) none (.w (.mv (.t 19)))])))))))
 (.seq (.reg [.ev (some 20) none (.r (.ld (some 4) (.t 1))),
 .ev (some 21) none (.w (.mv (.t 3))),
 .ev (some 22) none (.w (.mv (.t 4))),
 .ev (some 23) none (.m (.call 30 [.t 20, .t 21, .t 22])),
 .ev (some 24) none (.m (.call 29 [.t 23])),
 .ev (some 2) none (.w (.mv (.t 24)))])
 .ret))))), [.t 2]⟩
theorem c10 : cFn ty ibs (cDraw ty ibs) [] f10 = some q10 := by decide +kernel
noncomputable def q11 : MFn := ⟨(.seq (.reg [.ev (some 2) none (.a (.al [.l0, .i (.ofNat 0), .i (.ofNat 0), .s [], .s [], .l0])),
 .ev (some 3) none (.w (.mv (.k (.c (.i (.ofNat 0))))))])
 (.seq (.reg [.ev (some 9) none (.w (.mv (.t 0))),
 .ev (some 10) none (.m (.call 31 [.t 9])),
 .ev (some 8) none (.w (.mv (.t 10))),
 .ev (some 11) none (.w (.ext 0 (.t 8))),
 .ev (some 12) none (.w (.ext 1 (.t 8))),
 .ev (some 4) none (.w (.mv (.t 11))),
 .ev (some 5) none (.w (.mv (.t 12)))])
 (.seq (.seq (.reg [.ev (some 13) none (.w (.mv (.t 5))),
 .ev (some 14) none (.w (.bin .geq (.t 13) (.k (.c (.i (.ofNat 0))))))])
 (.cond (.t 14) (.seq (.reg [.ev (some 15) none (.w (.build [.l0, .i (.ofNat 0), .i (.ofNat 0), .s [], .s [], .l0] [])),
 .ev (some 16) none (.w (.mv (.t 5))),
 .ev none none (.m (.st 6 (.t 2) (.t 15))),
 .ev (some 3) none (.w (.mv (.t 16)))])
 .ret) .skip))
 (.seq (.reg [.ev (some 17) none (.w (.mv (.t 4))),
 .ev (some 18) none (.w (.build [.l0, .i (.ofNat 0), .i (.ofNat 0), .l0, .b false] [(0, 1, .t 17), (2, 1, .k (.c (.i (.negSucc 0))))])),
 .ev (some 19) none (.a (.box (.t 18))),
 .ev (some 6) none (.w (.mv (.t 19)))])
 (.seq (.reg [.ev (some 20) none (.w (.build [.l0, .i (.ofNat 0), .i (.ofNat 0), .s [], .s [], .l0] [])),
 .ev (some 7) none (.a (.al [.l0, .i (.ofNat 0), .i (.ofNat 0), .s [], .s [], .l0])),
 .ev none none (.m (.st 6 (.t 7) (.t 20)))])
 (.seq (.blk 0 (.loop (.seq (.seq (.reg [.ev (some 21) none (.w (.mv (.t 6))),
 .ev (some 22) none (.m (.call 32 [.t 21, .k (.c (.s [100, 97, 116, 97]))]))])
 (.cond (.t 22) .skip (.exit 0)))
 (.blk 1 (.reg [.ev (some 23) none (.w (.fad 0 (.t 7))),
 .ev (some 24) none (.r (.ld none (.t 23))),
 .ev (some 25) none (.w (.mv (.t 6))),
 .mk (some 26) none (.call 33 [.t 25]) [(24, .ld none (.t 23))] [],
 .ev (some 27) none (.a (.bsl 3 1 [.s [], .i (.ofNat 0), .l0] [(0, 3, .t 26)])),
 .mk (some 28) none (.app 3 48 (.t 24) (.t 27)) [] [],
 .ev (some 29) none (.w (.fad 0 (.t 7))),
 .mk none none (.st 1 (.t 29) (.t 28)) [] []])))))
 (.seq (.reg [.ev (some 30) none (.w (.mv (.t 6))),
 .ev (some 31) none (.m (.call 34 [.t 30])),
 .ev (some 32) none (.w (.fad 1 (.t 7))),
 .ev none none (.m (.st 5 (.t 32) (.t 31)))])
 (.seq (.seq (.reg [.ev (some 33) none (.w (.mv (.t 6))),
 .ev (some 34) none (.w (.nilc (.t 33))),
 .ev (some 35) none (.w (.fad 2 (.t 34))),
 .ev (some 36) none (.r (.ld none (.t 35))),
 .ev (some 37) none (.w (.bin .lss (.t 36) (.k (.c (.i (.ofNat 0)))))),
 .ev (some 38) none (.w (.mv (.t 37))),
 .ev (some 39) (some (38, true)) (.w (.mv (.t 6))),
 .ev (some 40) (some (38, true)) (.m (.call 35 [.t 39])),
 .ev (some 41) (some (38, true)) (.w (.fld 0 none (.t 40))),
 .ev (some 42) (some (38, true)) (.w (.bin .neq (.t 41) (.k (.c (.i (.ofNat 0)))))),
 .ev (some 43) none (.w (.pick (.t 38) (.t 42) (.k (.c (.b false)))))])
 (.cond (.t 43) (.reg [.ev (some 44) none (.w (.mv (.t 6))),
 .ev (some 45) none (.m (.call 36 [.t 44]))]) .skip))
 (.seq (.seq (.reg [.ev (some 46) none (.w (.mv (.t 6))),
 .ev (some 47) none (.w (.nilc (.t 46))),
 .ev (some 48) none (.w (.fad 2 (.t 47))),
 .ev (some 49) none (.r (.ld none (.t 48))),
 .ev (some 50) none (.w (.bin .geq (.t 49) (.k (.c (.i (.ofNat 0))))))])
 (.cond (.t 50) (.seq (.reg [.ev (some 51) none (.w (.build [.l0, .i (.ofNat 0), .i (.ofNat 0), .s [], .s [], .l0] [])),
 .ev (some 52) none (.w (.mv (.t 6))),
 .ev (some 53) none (.w (.nilc (.t 52))),
 .ev (some 54) none (.w (.fad 2 (.t 53))),
 .ev (some 55) none (.r (.ld none (.t 54))),
 .mk none none (.st 6 (.t 2) (.t 51)) [(55, .ld none (.t 54))] [],
 .ev (some 3) none (.w (.mv (.t 55)))])
 .ret) .skip))
 (.seq (.seq (.reg [.ev (some 56) none (.w (.mv (.t 6))),
 .ev (some 57) none (.w (.nilc (.t 56))),
 .ev (some 58) none (.w (.fad 4 (.t 57))),
 .ev (some 59) none (.r (.ld none (.t 58))),
 .ev (some 60) none (.w (.mv (.t 59))),
 .ev (some 61) (some (60, false)) (.r (.ld (some 6) (.t 7))),
 .ev (some 62) (some (60, false)) (.m (.call 37 [.t 61])),
 .ev (some 63) (some (60, false)) (.w (.un .not (.t 62))),
 .ev (some 64) none (.w (.pick (.t 60) (.k (.c (.b true))) (.t 63)))])
 (.cond (.t 64) (.seq (.reg [.ev (some 65) none (.w (.build [.l0, .i (.ofNat 0), .i (.ofNat 0), .s [], .s [], .l0] [])),
 .ev none none (.m (.st 6 (.t 2) (.t 65))),
 .ev (some 3) none (.w (.mv (.k (.c (.i (.ofNat 0))))))])
 .ret) .skip))
 (.seq (.reg [.ev (some 66) none (.r (.ld (some 6) (.t 7))),
 .ev none none (.m (.st 6 (.t 2) (.t 66))),
 .ev (some 3) none (.w (.mv (.k (.c (.i (.negSucc 0))))))])
 .ret))))))))))), [.c (some 6) 2, .t 3]⟩
theorem c11 : cFn ty ibs (cDraw ty ibs) [[.ev 0, .ev 1, .ev 2, .ev 3, .ev 4, .ev 5, .ev 6, .ev 7], [.ev 0, .ev 1, .ev 2, .ev 3, .ev 4, .ev 5, .ev 6]] f11 = some q11 := by decide +kernel
noncomputable def q12 : MFn := ⟨(.seq (.reg [.ev (some 1) none (.a (.box (.t 0))),
 .ev (some 2) none (.a (.al [.i (.ofNat 0), .i (.ofNat 0), .s [], .s [], .i (.ofNat 0), .i (.ofNat 0), .s [], .l0, .l0, .l0, .l0])),
 .ev (some 3) none (.w (.mv (.k (.c (.i (.ofNat 0))))))])
 (.seq (.seq (.reg [.ev (some 6) none (.r (.ld (some 6) (.t 1))),
 .ev (some 7) none (.m (.call 37 [.t 6])),
 .ev (some 8) none (.w (.un .not (.t 7)))])
 (.cond (.t 8) (.seq (.reg [.ev (some 9) none (.w (.build [.i (.ofNat 0), .i (.ofNat 0), .s [], .s [], .i (.ofNat 0), .i (.ofNat 0), .s [], .l0, .l0, .l0, .l0] [])),
 .ev none none (.m (.st 11 (.t 2) (.t 9))),
 .ev (some 3) none (.w (.mv (.k (.c (.i (.ofNat 1))))))])
 .ret) .skip))
 (.seq (.seq (.reg [.ev (some 10) none (.w (.fad 0 (.t 1))),
 .ev (some 11) none (.r (.ld none (.t 10))),
 .ev (some 12) none (.m (.call 38 [.t 11])),
 .ev (some 13) none (.w (.bin .neq (.t 12) (.k (.c (.i (.ofNat 0))))))])
 (.cond (.t 13) (.seq (.reg [.ev (some 14) none (.w (.build [.i (.ofNat 0), .i (.ofNat 0), .s [], .s [], .i (.ofNat 0), .i (.ofNat 0), .s [], .l0, .l0, .l0, .l0] [])),
 .ev none none (.m (.st 11 (.t 2) (.t 14))),
 .ev (some 3) none (.w (.mv (.k (.c (.i (.ofNat 2))))))])
 .ret) .skip))
 (.seq (.reg [.ev (some 15) none (.w (.fad 0 (.t 1))),
 .ev (some 16) none (.r (.ld none (.t 15))),
 .ev (some 17) none (.w (.build [.l0, .l0, .i (.ofNat 0), .i (.ofNat 0)] [(0, 1, .t 16)])),
 .ev (some 18) none (.a (.box (.t 17))),
 .ev (some 4) none (.w (.mv (.t 18)))])
 (.seq (.reg [.ev (some 19) none (.w (.mv (.t 4))),
 .ev (some 20) none (.w (.fad 1 (.t 1))),
 .ev (some 21) none (.r (.ld (some 5) (.t 20))),
 .ev (some 22) none (.m (.call 39 [.t 19, .t 21, .k (.c .l0)])),
 .ev (some 5) none (.a (.al [.i (.ofNat 0), .i (.ofNat 0), .s [], .s [], .i (.ofNat 0), .i (.ofNat 0), .s [], .l0, .l0, .l0, .l0])),
 .ev none none (.m (.st 11 (.t 5) (.t 22)))])
 (.seq (.seq (.reg [.ev (some 23) none (.w (.mv (.t 4))),
 .ev (some 24) none (.w (.nilc (.t 23))),
 .ev (some 25) none (.w (.fad 3 (.t 24))),
 .ev (some 26) none (.r (.ld none (.t 25))),
 .ev (some 27) none (.w (.bin .neq (.t 26) (.k (.c (.i (.ofNat 0))))))])
 (.cond (.t 27) (.seq (.reg [.ev (some 28) none (.w (.build [.i (.ofNat 0), .i (.ofNat 0), .s [], .s [], .i (.ofNat 0), .i (.ofNat 0), .s [], .l0, .l0, .l0, .l0] [])),
 .ev (some 29) none (.w (.mv (.t 4))),
 .ev (some 30) none (.w (.nilc (.t 29))),
 .ev (some 31) none (.w (.fad 3 (.t 30))),
 .ev (some 32) none (.r (.ld none (.t 31))),
 .mk none none (.st 11 (.t 2) (.t 28)) [(32, .ld none (.t 31))] [],
 .ev (some 3) none (.w (.mv (.t 32)))])
 .ret) .skip))
 (.seq (.seq (.reg [.ev (some 33) none (.w (.mv (.t 4))),
 .ev (some 34) none (.w (.nilc (.t 33))),
 .ev (some 35) none (.w (.fad 1 (.t 34))),
 .ev (some 36) none (.r (.ld none (.t 35))),
 .ev (some 37) none (.r (.ld (some 11) (.t 5))),
 .mk (some 38) none (.call 40 [.t 36, .t 37]) [] [],
 .ev (some 39) none (.w (.un .not (.t 38)))])
 (.cond (.t 39) (.seq (.reg [.ev (some 40) none (.w (.build [.i (.ofNat 0), .i (.ofNat 0), .s [], .s [], .i (.ofNat 0), .i (.ofNat 0), .s [], .l0, .l0, .l0, .l0] [])),
 .ev none none (.m (.st 11 (.t 2) (.t 40))),
 .ev (some 3) none (.w (.mv (.k (.c (.i (.ofNat 5))))))])
 .ret) .skip))
 (.seq (.reg [.ev (some 41) none (.w (.mv (.t 4))),
 .ev (some 42) none (.w (.nilc (.t 41))),
 .ev (some 43) none (.w (.fad 1 (.t 42))),
 .ev (some 44) none (.r (.ld none (.t 43))),
 .ev (some 45) none (.r (.ld (some 11) (.t 5))),
 .mk (some 46) none (.call 41 [.t 44, .t 45]) [] [],
 .mk none none (.st 11 (.t 2) (.t 46)) [] [],
 .ev (some 3) none (.w (.mv (.k (.c (.i (.ofNat 0))))))])
 .ret)))))))), [.c (some 11) 2, .t 3]⟩
theorem c12 : cFn ty ibs (cDraw ty ibs) [[.ev 0, .ev 1, .ev 2, .ev 3, .ev 4, .ev 5, .ev 6], [.ev 0, .ev 1, .ev 2, .ev 3, .ev 4, .ev 5, .ev 6], [.ev 0, .ev 1, .ev 2, .ev 3, .ev 4, .ev 5, .ev 6, .ev 7]] f12 = some q12 := by decide +kernel
noncomputable def q13 : MFn := ⟨(.seq (.reg [.ev (some 1) none (.a (.box (.t 0))),
 .ev (some 2) none (.w (.mv (.k (.c (.s [])))))])
 (.seq (.reg [.ev (some 6) none (.r (.ld (some 4) (.t 1))),
 .ev (some 7) none (.a (.bsl 1 0 [] [])),
 .ev (some 8) none (.m (.call 42 [.t 6, .t 7])),
 .ev (some 3) none (.w (.mv (.t 8)))])
 (.seq (.reg [.ev (some 9) none (.a (.bsl 5 0 [] [])),
 .ev (some 4) none (.w (.mv (.t 9)))])
 (.seq (.seq (.reg [.ev (some 5) none (.w (.mv (.k (.c (.i (.ofNat 0))))))])
 (.blk 0 (.loop (.seq (.seq (.reg [.ev (some 10) none (.w (.mv (.t 5))),
 .ev (some 11) none (.w (.mv (.t 3))),
 .ev (some 12) none (.w (.lnl (.t 11))),
 .ev (some 13) none (.w (.bin .lss (.t 10) (.t 12)))])
 (.cond (.t 13) .skip (.exit 0)))
 (.seq (.blk 1 (.reg [.ev (some 16) none (.w (.mv (.t 4))),
 .ev (some 17) none (.w (.mv (.t 3))),
 .ev (some 18) none (.w (.mv (.t 5))),
 .ev (some 19) none (.w (.iad 1 (.t 17) (.t 18))),
 .ev (some 20) none (.r (.ld none (.t 19))),
 .ev (some 21) none (.w (.mv (.t 5))),
 .ev (some 22) none (.w (.build [.i (.ofNat 0), .i (.ofNat 0), .s [], .l0] [(0, 1, .k (.c (.i (.ofNat 2)))), (1, 1, .t 21)])),
 .ev (some 23) none (.w (.build [.i (.ofNat 0), .i (.ofNat 0), .i (.ofNat 0), .s [], .l0] [(0, 1, .t 20), (1, 4, .t 22)])),
 .ev (some 24) none (.a (.bsl 5 1 [.i (.ofNat 0), .i (.ofNat 0), .i (.ofNat 0), .s [], .l0] [(0, 5, .t 23)])),
 .ev (some 25) none (.m (.app 5 64 (.t 16) (.t 24))),
 .ev (some 4) none (.w (.mv (.t 25)))]))
 (.reg [.ev (some 14) none (.w (.mv (.t 5))),
 .ev (some 15) none (.w (.bin .add (.t 14) (.k (.c (.i (.ofNat 1)))))),
 .ev (some 5) none (.w (.mv (.t 15)))]))))))
 (.seq (.reg [.ev (some 26) none (.w (.mv (.t 4))),
 .ev (some 27) none (.r (.ld (some 4) (.t 1))),
 .ev (some 28) none (.m (.call 44 [.t 26, .t 27])),
 .ev (some 29) none (.m (.call 43 [.t 28])),
 .ev (some 2) none (.w (.mv (.t 29)))])
 .ret))))), [.t 2]⟩
theorem c13 : cFn ty ibs (cDraw ty ibs) [] f13 = some q13 := by decide +kernel
noncomputable def q14 : MFn := ⟨(.seq (.reg [.ev (some 2) none (.w (.mv (.k (.c .l0)))),
 .ev (some 3) none (.w (.mv (.k (.c (.i (.ofNat 0))))))])
 (.seq (.seq (.reg [.ev (some 7) none (.w (.mv (.t 0))),
 .ev (some 8) none (.w (.lns (.t 7))),
 .ev (some 9) none (.w (.bin .gtr (.t 8) (.k (.c (.i (.ofNat 3000))))))])
 (.cond (.t 9) (.seq (.reg [.ev (some 2) none (.w (.mv (.k (.c .l0)))),
 .ev (some 3) none (.w (.mv (.k (.c (.i (.ofNat 0))))))])
 .ret) .skip))
 (.seq (.reg [.ev (some 10) none (.a (.bsl 4 0 [] [])),
 .ev (some 4) none (.w (.mv (.t 10)))])
 (.seq (.seq (.reg [.ev (some 5) none (.w (.mv (.k (.c (.i (.ofNat 0))))))])
 (.blk 0 (.loop (.seq (.seq (.reg [.ev (some 11) none (.w (.mv (.t 5))),
 .ev (some 12) none (.w (.mv (.t 0))),
 .ev (some 13) none (.w (.lns (.t 12))),
 .ev (some 14) none (.w (.bin .lss (.t 11) (.t 13)))])
 (.cond (.t 14) .skip (.exit 0)))
 (.blk 1 (.seq (.seq (.reg [.ev (some 15) none (.w (.mv (.t 0))),
 .ev (some 16) none (.w (.mv (.t 5))),
 .ev (some 17) none (.w (.ixs (.t 15) (.t 16))),
 .ev (some 18) none (.w (.bin .eql (.t 17) (.k (.c (.j .u8 (.ofNat 32)))))),
 .ev (some 19) none (.w (.mv (.t 18))),
 .ev (some 20) (some (19, false)) (.w (.mv (.t 0))),
 .ev (some 21) (some (19, false)) (.w (.mv (.t 5))),
 .ev (some 22) (some (19, false)) (.w (.ixs (.t 20) (.t 21))),
 .ev (some 23) (some (19, false)) (.w (.bin .eql (.t 22) (.k (.c (.j .u8 (.ofNat 10)))))),
 .ev (some 24) none (.w (.pick (.t 19) (.k (.c (.b true))) (.t 23)))])
 (.cond (.t 24) (.seq (.reg [.ev (some 25) none (.w (.mv (.t 5))),
 .ev (some 26) none (.w (.bin .add (.t 25) (.k (.c (.i (.ofNat 1)))))),
 .ev (some 5) none (.w (.mv (.t 26)))])
 (.exit 1)) .skip))
 (.seq (.reg [.ev (some 27) none (.w (.mv (.t 0))),
 .ev (some 28) none (.w (.mv (.t 5))),
 .ev (some 29) none (.m (.call 45 [.t 27, .t 28])),
 .ev (some 6) none (.a (.al [.i (.ofNat 0), .s [], .i (.ofNat 0), .i (.ofNat 0)])),
 .ev none none (.m (.st 4 (.t 6) (.t 29)))])
 (.seq (.seq (.reg [.ev (some 30) none (.w (.fad 0 (.t 6))),
 .ev (some 31) none (.r (.ld none (.t 30))),
 .ev (some 32) none (.w (.bin .eql (.t 31) (.k (.c (.i (.ofNat 0))))))])
 (.cond (.t 32) (.seq (.reg [.ev (some 33) none (.w (.mv (.t 5))),
 .ev (some 2) none (.w (.mv (.k (.c .l0)))),
 .ev (some 3) none (.w (.mv (.t 33)))])
 .ret) .skip))
 (.seq (.reg [.ev (some 34) none (.w (.mv (.t 5))),
 .ev (some 35) none (.w (.fad 1 (.t 6))),
 .ev (some 36) none (.r (.ld none (.t 35))),
 .ev (some 37) none (.w (.lns (.t 36))),
 .ev (some 38) none (.w (.bin .add (.t 34) (.t 37))),
 .ev (some 5) none (.w (.mv (.t 38)))])
 (.seq (.seq (.reg [.ev (some 39) none (.w (.fad 0 (.t 6))),
 .ev (some 40) none (.r (.ld none (.t 39))),
 .ev (some 41) none (.w (.bin .eql (.t 40) (.k (.c (.i (.ofNat 3))))))])
 (.cond (.t 41) (.reg [.ev (some 42) none (.w (.fad 1 (.t 6))),
 .ev none none (.m (.st 1 (.t 42) (.k (.c (.s [])))))]) .skip))
 (.reg [.ev (some 43) none (.w (.mv (.t 4))),
 .ev (some 44) none (.r (.ld (some 4) (.t 6))),
 .ev (some 45) none (.a (.bsl 4 1 [.i (.ofNat 0), .s [], .i (.ofNat 0), .i (.ofNat 0)] [(0, 4, .t 44)])),
 .ev (some 46) none (.m (.app 4 40 (.t 43) (.t 45))),
 .ev (some 4) none (.w (.mv (.t 46)))])))))))))))
 (.seq (.reg [.ev (some 47) none (.w (.mv (.t 4))),
 .ev (some 48) none (.w (.mv (.t 0))),
 .ev (some 49) none (.w (.lns (.t 48))),
 .ev (some 50) none (.w (.build [.i (.ofNat 0), .s [], .i (.ofNat 0), .i (.ofNat 0)] [(3, 1, .t 49)])),
 .ev (some 51) none (.a (.bsl 4 1 [.i (.ofNat 0), .s [], .i (.ofNat 0), .i (.ofNat 0)] [(0, 4, .t 50)])),
 .ev (some 52) none (.m (.app 4 40 (.t 47) (.t 51))),
 .ev (some 2) none (.w (.mv (.t 52))),
 .ev (some 3) none (.w (.mv (.k (.c (.i (.negSucc 0))))))])
 .ret))))), [.t 2, .t 3]⟩
theorem c14 : cFn ty ibs (cDraw ty ibs) [] f14 = some q14 := by decide +kernel
noncomputable def q15 : MFn := ⟨(.seq (.reg [.ev (some 4) none (.w (.mv (.k (.c (.b false)))))])
 (.seq (.reg [.ev (some 6) none (.w (.mv (.t 0))),
 .ev (some 7) none (.w (.nilc (.t 6))),
 .ev (some 8) none (.w (.fad 2 (.t 7))),
 .ev (some 9) none (.r (.ld none (.t 8))),
 .ev (some 10) none (.w (.bin .lss (.t 9) (.k (.c (.i (.ofNat 0)))))),
 .ev (some 11) none (.w (.mv (.t 10))),
 .ev (some 12) (some (11, true)) (.w (.mv (.t 0))),
 .ev (some 13) (some (11, true)) (.w (.mv (.t 1))),
 .ev (some 14) (some (11, true)) (.m (.call 46 [.t 12, .t 13])),
 .ev (some 15) none (.w (.pick (.t 11) (.t 14) (.k (.c (.b false))))),
 .ev (some 5) none (.w (.mv (.t 15)))])
 (.seq (.seq (.reg [.ev (some 16) none (.w (.mv (.t 5)))])
 (.cond (.t 16) (.reg [.ev (some 17) none (.w (.mv (.t 0))),
 .ev (some 18) none (.m (.call 47 [.t 17]))]) .skip))
 (.seq (.reg [.ev (some 19) none (.w (.mv (.t 5))),
 .ev (some 4) none (.w (.mv (.t 19)))])
 .ret)))), [.t 4]⟩
theorem c15 : cFn ty ibs (cDraw ty ibs) [] f15 = some q15 := by decide +kernel
noncomputable def q16 : MFn := ⟨(.seq (.reg [.ev (some 2) none (.a (.al [.s [], .i (.ofNat 0), .l0]))])
 (.seq (.reg [.ev (some 8) none (.w (.build [.s [], .i (.ofNat 0), .l0] [])),
 .ev (some 3) none (.a (.al [.s [], .i (.ofNat 0), .l0])),
 .ev none none (.m (.st 3 (.t 3) (.t 8)))])
 (.seq (.reg [.ev (some 9) none (.w (.mv (.t 0))),
 .ev (some 10) none (.m (.call 48 [.t 9])),
 .ev (some 11) none (.w (.fad 0 (.t 3))),
 .ev none none (.m (.st 1 (.t 11) (.t 10)))])
 (.seq (.reg [.ev (some 12) none (.a (.bsl 1 0 [] [])),
 .ev (some 4) none (.w (.mv (.t 12)))])
 (.seq (.blk 0 (.loop (.seq (.seq (.reg [.ev (some 13) none (.w (.mv (.t 0))),
 .ev (some 14) none (.w (.nilc (.t 13))),
 .ev (some 15) none (.w (.fad 2 (.t 14))),
 .ev (some 16) none (.r (.ld none (.t 15))),
 .ev (some 17) none (.w (.bin .lss (.t 16) (.k (.c (.i (.ofNat 0)))))),
 .ev (some 18) none (.w (.mv (.t 17))),
 .ev (some 19) (some (18, true)) (.w (.mv (.t 0))),
 .ev (some 20) (some (18, true)) (.m (.call 49 [.t 19])),
 .ev (some 21) none (.w (.pick (.t 18) (.t 20) (.k (.c (.b false)))))])
 (.cond (.t 21) .skip (.exit 0)))
 (.blk 1 (.seq (.reg [.ev (some 22) none (.w (.mv (.t 0))),
 .ev (some 23) none (.m (.call 50 [.t 22])),
 .ev (some 5) none (.w (.mv (.t 23)))])
 (.reg [.ev (some 24) none (.w (.mv (.t 4))),
 .ev (some 25) none (.w (.mv (.t 5))),
 .ev (some 26) none (.a (.bsl 1 1 [.s []] [(0, 1, .t 25)])),
 .ev (some 27) none (.m (.app 1 16 (.t 24) (.t 26))),
 .ev (some 4) none (.w (.mv (.t 27)))]))))))
 (.seq (.reg [.ev (some 28) none (.w (.mv (.t 4))),
 .ev (some 29) none (.w (.lnl (.t 28))),
 .ev (some 30) none (.w (.fad 1 (.t 3))),
 .ev none none (.m (.st 1 (.t 30) (.t 29)))])
 (.seq (.reg [.ev (some 31) none (.w (.mv (.t 0))),
 .ev (some 32) none (.m (.call 51 [.t 31, .k (.c (.s [61]))]))])
 (.seq (.blk 2 (.loop (.seq (.seq (.reg [.ev (some 33) none (.w (.mv (.t 0))),
 .ev (some 34) none (.w (.nilc (.t 33))),
 .ev (some 35) none (.w (.fad 2 (.t 34))),
 .ev (some 36) none (.r (.ld none (.t 35))),
 .ev (some 37) none (.w (.bin .lss (.t 36) (.k (.c (.i (.ofNat 0))))))])
 (.cond (.t 37) .skip (.exit 2)))
 (.blk 3 (.seq (.reg [.ev (some 38) none (.w (.build [.s [], .l0] [])),
 .ev (some 6) none (.a (.al [.s [], .l0])),
 .ev none none (.m (.st 2 (.t 6) (.t 38)))])
 (.seq (.reg [.ev (some 39) none (.w (.mv (.t 0))),
 .ev (some 40) none (.m (.call 48 [.t 39])),
 .ev (some 41) none (.w (.fad 0 (.t 6))),
 .ev none none (.m (.st 1 (.t 41) (.t 40)))])
 (.seq (.blk 4 (.loop (.seq (.seq (.reg [.ev (some 42) none (.w (.mv (.t 0))),
 .ev (some 43) none (.m (.call 52 [.t 42]))])
 (.cond (.t 43) .skip (.exit 4)))
 (.blk 5 (.seq (.reg [.ev (some 44) none (.w (.mv (.t 0))),
 .ev (some 45) none (.w (.mv (.t 4))),
 .ev (some 46) none (.m (.call 53 [.t 44, .t 45])),
 .ev (some 7) none (.a (.al [.i (.ofNat 0), .i (.ofNat 0), .s [], .l0])),
 .ev none none (.m (.st 4 (.t 7) (.t 46)))])
 (.reg [.ev (some 47) none (.w (.fad 1 (.t 6))),
 .ev (some 48) none (.r (.ld none (.t 47))),
 .ev (some 49) none (.r (.ld (some 4) (.t 7))),
 .ev (some 50) none (.a (.bsl 4 1 [.i (.ofNat 0), .i (.ofNat 0), .s [], .l0] [(0, 4, .t 49)])),
 .ev (some 51) none (.m (.app 4 56 (.t 48) (.t 50))),
 .ev (some 52) none (.w (.fad 1 (.t 6))),
 .ev none none (.m (.st 1 (.t 52) (.t 51)))]))))))
 (.seq (.reg [.ev (some 53) none (.w (.fad 2 (.t 3))),
 .ev (some 54) none (.r (.ld none (.t 53))),
 .ev (some 55) none (.r (.ld (some 2) (.t 6))),
 .ev (some 56) none (.a (.bsl 2 1 [.s [], .l0] [(0, 2, .t 55)])),
 .ev (some 57) none (.m (.app 2 40 (.t 54) (.t 56))),
 .ev (some 58) none (.w (.fad 2 (.t 3))),
 .ev none none (.m (.st 1 (.t 58) (.t 57)))])
 (.seq (.reg [.ev (some 59) none (.w (.mv (.t 0))),
 .ev (some 60) none (.m (.call 15 [.t 59, .k (.c (.s [124]))])),
 .ev (some 61) none (.w (.un .not (.t 60)))])
 (.cond (.t 61) (.exit 2) .skip))))))))))
 (.seq (.reg [.ev (some 62) none (.w (.mv (.t 0))),
 .ev (some 63) none (.m (.call 51 [.t 62, .k (.c (.s [59]))]))])
 (.seq (.reg [.ev (some 64) none (.r (.ld (some 3) (.t 3))),
 .ev none none (.m (.st 3 (.t 2) (.t 64)))])
 .ret)))))))))), [.c (some 3) 2]⟩
theorem c16 : cFn ty ibs (cDraw ty ibs) [] f16 = some q16 := by decide +kernel
noncomputable def q17 : MFn := ⟨(.seq (.reg [.ev (some 2) none (.a (.al [.i (.ofNat 0), .i (.ofNat 0), .s [], .s [], .l0]))])
 (.seq (.blk 0 (.seq (.reg [.ev (some 12) none (.w (.mv (.t 0))),
 .ev (some 13) none (.w (.nilc (.t 12))),
 .ev (some 14) none (.w (.fad 2 (.t 13))),
 .ev (some 15) none (.r (.ld none (.t 14))),
 .ev (some 16) none (.w (.bin .geq (.t 15) (.k (.c (.i (.ofNat 0)))))),
 .ev (some 11) none (.w (.mv (.t 16)))])
 (.cond (.t 11) (.seq (.reg [.ev (some 17) none (.w (.build [.i (.ofNat 0), .i (.ofNat 0), .s [], .s [], .l0] [])),
 .ev none none (.m (.st 5 (.t 2) (.t 17)))])
 .ret) (.seq (.reg [.ev (some 19) none (.w (.mv (.t 0))),
 .ev (some 20) none (.m (.call 15 [.t 19, .k (.c (.s [102, 117, 110]))])),
 .ev (some 18) none (.w (.mv (.t 20)))])
 (.cond (.t 18) (.seq (.reg [.ev (some 21) none (.w (.mv (.t 0))),
 .ev (some 22) none (.m (.call 50 [.t 21])),
 .ev (some 3) none (.w (.mv (.t 22)))])
 (.seq (.reg [.ev (some 23) none (.w (.mv (.t 0))),
 .ev (some 24) none (.m (.call 51 [.t 23, .k (.c (.s [45, 62]))]))])
 (.seq (.reg [.ev (some 25) none (.w (.mv (.t 0))),
 .ev (some 26) none (.m (.call 17 [.t 25])),
 .ev (some 4) none (.a (.al [.i (.ofNat 0), .i (.ofNat 0), .s [], .s [], .l0])),
 .ev none none (.m (.st 5 (.t 4) (.t 26)))])
 (.seq (.reg [.ev (some 27) none (.w (.mv (.t 3))),
 .ev (some 28) none (.r (.ld (some 5) (.t 4))),
 .ev (some 29) none (.a (.bsl 5 1 [.i (.ofNat 0), .i (.ofNat 0), .s [], .s [], .l0] [(0, 5, .t 28)])),
 .ev (some 30) none (.w (.build [.i (.ofNat 0), .i (.ofNat 0), .s [], .s [], .l0] [(0, 1, .k (.c (.i (.ofNat 3)))), (2, 1, .t 27), (4, 1, .t 29)])),
 .ev none none (.m (.st 5 (.t 2) (.t 30)))])
 .ret)))) (.seq (.reg [.ev (some 32) none (.w (.mv (.t 0))),
 .ev (some 33) none (.m (.call 15 [.t 32, .k (.c (.s [108, 101, 116]))])),
 .ev (some 31) none (.w (.mv (.t 33)))])
 (.cond (.t 31) (.seq (.reg [.ev (some 34) none (.w (.mv (.t 0))),
 .ev (some 35) none (.m (.call 50 [.t 34])),
 .ev (some 5) none (.w (.mv (.t 35)))])
 (.seq (.reg [.ev (some 36) none (.w (.mv (.t 0))),
 .ev (some 37) none (.w (.mv (.t 5))),
 .ev (some 38) none (.w (.build [.i (.ofNat 0), .i (.ofNat 0), .s [], .s [], .l0] [(0, 1, .k (.c (.i (.ofNat 5)))), (2, 1, .t 37)])),
 .ev (some 39) none (.m (.call 54 [.t 36, .t 38])),
 .ev none none (.m (.st 5 (.t 2) (.t 39)))])
 .ret)) (.seq (.reg [.ev (some 41) none (.w (.mv (.t 0))),
 .ev (some 42) none (.m (.call 15 [.t 41, .k (.c (.s [114, 101, 99]))])),
 .ev (some 40) none (.w (.mv (.t 42)))])
 (.cond (.t 40) (.seq (.reg [.ev (some 43) none (.w (.mv (.t 0))),
 .ev (some 44) none (.m (.call 50 [.t 43])),
 .ev (some 6) none (.w (.mv (.t 44)))])
 (.seq (.reg [.ev (some 45) none (.w (.mv (.t 0))),
 .ev (some 46) none (.m (.call 50 [.t 45])),
 .ev (some 7) none (.w (.mv (.t 46)))])
 (.seq (.reg [.ev (some 47) none (.w (.mv (.t 0))),
 .ev (some 48) none (.w (.mv (.t 6))),
 .ev (some 49) none (.w (.mv (.t 7))),
 .ev (some 50) none (.w (.build [.i (.ofNat 0), .i (.ofNat 0), .s [], .s [], .l0] [(0, 1, .k (.c (.i (.ofNat 6)))), (2, 1, .t 48), (3, 1, .t 49)])),
 .ev (some 51) none (.m (.call 54 [.t 47, .t 50])),
 .ev none none (.m (.st 5 (.t 2) (.t 51)))])
 .ret))) (.seq (.reg [.ev (some 53) none (.w (.mv (.t 0))),
 .ev (some 54) none (.m (.call 15 [.t 53, .k (.c (.s [99, 97, 115, 101]))])),
 .ev (some 52) none (.w (.mv (.t 54)))])
 (.cond (.t 52) (.seq (.reg [.ev (some 55) none (.w (.mv (.t 0))),
 .ev (some 56) none (.m (.call 55 [.t 55])),
 .ev none none (.m (.st 5 (.t 2) (.t 56)))])
 .ret) (.seq (.reg [.ev (some 58) none (.w (.mv (.t 0))),
 .ev (some 59) none (.m (.call 15 [.t 58, .k (.c (.s [105, 102]))])),
 .ev (some 57) none (.w (.mv (.t 59)))])
 (.cond (.t 57) (.seq (.reg [.ev (some 60) none (.w (.mv (.t 0))),
 .ev (some 61) none (.m (.call 17 [.t 60])),
 .ev (some 8) none (.a (.al [.i (.ofNat 0), .i (.ofNat 0), .s [], .s [], .l0])),
 .ev none none (.m (.st 5 (.t 8) (.t 61)))])
 (.seq (.reg [.ev (some 62) none (.w (.mv (.t 0))),
 .ev (some 63) none (.m (.call 51 [.t 62, .k (.c (.s [116, 104, 101, 110]))]))])
 (.seq (.reg [.ev (some 64) none (.w (.mv (.t 0))),
 .ev (some 65) none (.m (.call 17 [.t 64])),
 .ev (some 9) none (.a (.al [.i (.ofNat 0), .i (.ofNat 0), .s [], .s [], .l0])),
 .ev none none (.m (.st 5 (.t 9) (.t 65)))])
 (.seq (.reg [.ev (some 66) none (.w (.mv (.t 0))),
 .ev (some 67) none (.m (.call 51 [.t 66, .k (.c (.s [101, 108, 115, 101]))]))])
 (.seq (.reg [.ev (some 68) none (.w (.mv (.t 0))),
 .ev (some 69) none (.m (.call 17 [.t 68])),
 .ev (some 10) none (.a (.al [.i (.ofNat 0), .i (.ofNat 0), .s [], .s [], .l0])),
 .ev none none (.m (.st 5 (.t 10) (.t 69)))])
 (.seq (.reg [.ev (some 70) none (.r (.ld (some 5) (.t 8))),
 .ev (some 71) none (.r (.ld (some 5) (.t 9))),
 .ev (some 72) none (.r (.ld (some 5) (.t 10))),
 .ev (some 73) none (.a (.bsl 5 3 [.i (.ofNat 0), .i (.ofNat 0), .s [], .s [], .l0, .i (.ofNat 0), .i (.ofNat 0), .s [], .s [], .l0, .i (.ofNat 0), .i (.ofNat 0), .s [], .s [], .l0] [(0, 5, .t 70), (5, 5, .t 71), (10, 5, .t 72)])),
 .ev (some 74) none (.w (.build [.i (.ofNat 0), .i (.ofNat 0), .s [], .s [], .l0] [(0, 1, .k (.c (.i (.ofNat 9)))), (4, 1, .t 73)])),
 .ev none none (.m (.st 5 (.t 2) (.t 74)))])
 .ret)))))) .skip)))))))))))))
 (.seq (.reg [.ev (some 75) none (.w (.mv (.t 0))),
 .ev (some 76) none (.m (.call 56 [.t 75])),
 .ev none none (.m (.st 5 (.t 2) (.t 76)))])
 .ret))), [.c (some 5) 2]⟩
theorem c17 : cFn ty ibs (cDraw ty ibs) [] f17 = some q17 := by decide +kernel
noncomputable def q18 : MFn := ⟨(.seq (.reg [.ev (some 2) none (.a (.al [.i (.ofNat 0), .s [], .i (.ofNat 0), .i (.ofNat 0)]))])
 (.seq (.reg [.ev (some 3) none (.w (.mv (.t 0))),
 .ev (some 4) none (.w (.nilc (.t 3))),
 .ev (some 5) none (.w (.fad 0 (.t 4))),
 .ev (some 6) none (.r (.ld none (.t 5))),
 .ev (some 7) none (.w (.mv (.t 0))),
 .ev (some 8) none (.w (.nilc (.t 7))),
 .ev (some 9) none (.w (.fad 1 (.t 8))),
 .ev (some 10) none (.r (.ld none (.t 9))),
 .ev (some 11) none (.w (.iad 4 (.t 6) (.t 10))),
 .ev (some 12) none (.r (.ld (some 4) (.t 11))),
 .mk none none (.st 4 (.t 2) (.t 12)) [] []])
 .ret)), [.c (some 4) 2]⟩
theorem c18 : cFn ty ibs (cDraw ty ibs) [[.ev 0, .ev 1, .ev 2, .ev 3, .ev 4, .ev 5, .ev 6, .ev 7, .ev 8, .ev 9, .ev 10]] f18 = some q18 := by decide +kernel
noncomputable def q19 : MFn := ⟨(.seq (.reg [.ev (some 2) none (.w (.mv (.t 0))),
 .ev (some 3) none (.w (.nilc (.t 2))),
 .ev (some 4) none (.w (.fad 2 (.t 3))),
 .ev (some 5) none (.r (.ld none (.t 4))),
 .ev (some 6) none (.w (.bin .lss (.t 5) (.k (.c (.i (.ofNat 0))))))])
 (.cond (.t 6) (.reg [.ev (some 7) none (.w (.mv (.t 0))),
 .ev (some 8) none (.w (.mv (.t 0))),
 .ev (some 9) none (.m (.call 18 [.t 8])),
 .ev (some 10) none (.w (.fld 3 none (.t 9))),
 .ev (some 11) none (.w (.nilc (.t 7))),
 .ev (some 12) none (.w (.fad 2 (.t 11))),
 .ev none none (.m (.st 1 (.t 12) (.t 10)))]) .skip)), []⟩
theorem c19 : cFn ty ibs (cDraw ty ibs) [] f19 = some q19 := by decide +kernel
noncomputable def q20 : MFn := ⟨(.seq (.reg [.ev (some 1) none (.a (.box (.t 0))),
 .ev (some 2) none (.w (.mv (.k (.c (.b false)))))])
 (.seq (.seq (.reg [.ev (some 7) none (.w (.fad 0 (.t 1))),
 .ev (some 8) none (.r (.ld none (.t 7))),
 .ev (some 9) none (.w (.lnl (.t 8))),
 .ev (some 10) none (.w (.mv (.k (.c (.i (.ofNat 0))))))])
 (.blk 0 (.loop (.seq (.reg [.ev (some 11) none (.w (.bin .lss (.t 10) (.t 9)))])
 (.seq (.cond (.t 11) .skip (.exit 0))
 (.seq (.blk 1 (.seq (.reg [.ev (some 12) none (.w (.iad 3 (.t 8) (.t 10))),
 .ev (some 13) none (.r (.ld (some 3) (.t 12))),
 .ev (some 4) none (.a (.al [.s [], .i (.ofNat 0), .l0])),
 .ev none none (.m (.st 3 (.t 4) (.t 13)))])
 (.seq (.reg [.ev (some 14) none (.w (.fad 2 (.t 4))),
 .ev (some 15) none (.r (.ld none (.t 14))),
 .ev (some 16) none (.w (.lnl (.t 15))),
 .ev (some 17) none (.w (.mv (.k (.c (.i (.ofNat 0))))))])
 (.blk 2 (.loop (.seq (.reg [.ev (some 18) none (.w (.bin .lss (.t 17) (.t 16)))])
 (.seq (.cond (.t 18) .skip (.exit 2))
 (.seq (.blk 3 (.seq (.reg [.ev (some 19) none (.w (.iad 2 (.t 15) (.t 17))),
 .ev (some 20) none (.r (.ld (some 2) (.t 19))),
 .ev (some 6) none (.a (.al [.s [], .l0])),
 .ev none none (.m (.st 2 (.t 6) (.t 20)))])
 (.seq (.reg [.ev (some 21) none (.w (.fad 1 (.t 6))),
 .ev (some 22) none (.r (.ld none (.t 21))),
 .ev (some 23) none (.m (.call 57 [.t 22, .k (.c (.f 58 []))]))])
 (.cond (.t 23) (.seq (.reg [.ev (some 2) none (.w (.mv (.k (.c (.b false)))))])
 .ret) .skip))))
 (.reg [.ev (some 24) none (.w (.bin .add (.t 17) (.k (.c (.i (.ofNat 1)))))),
 .ev (some 17) none (.w (.mv (.t 24)))])))))))))
 (.reg [.ev (some 25) none (.w (.bin .add (.t 10) (.k (.c (.i (.ofNat 1)))))),
 .ev (some 10) none (.w (.mv (.t 25)))])))))))
 (.seq (.reg [.ev (some 26) none (.w (.fad 1 (.t 1))),
 .ev (some 27) none (.r (.ld (some 5) (.t 26))),
 .ev (some 28) none (.m (.call 60 [.t 27])),
 .ev (some 29) none (.w (.bin .leq (.t 28) (.k (.c (.i (.ofNat 24)))))),
 .ev (some 2) none (.w (.mv (.t 29)))])
 .ret))), [.t 2]⟩
theorem c20 : cFn ty ibs (cDraw ty ibs) [] f20 = some q20 := by decide +kernel
noncomputable def q21 : MFn := ⟨(.seq (.reg [.ev (some 4) none (.w (.mv (.k (.c (.b false)))))])
 (.seq (.reg [.ev (some 5) none (.w (.mv (.t 0))),
 .ev (some 6) none (.w (.mv (.t 1))),
 .ev (some 7) none (.m (.call 61 [.t 5, .t 6])),
 .ev (some 8) none (.w (.bin .geq (.t 7) (.k (.c (.i (.ofNat 0)))))),
 .ev (some 4) none (.w (.mv (.t 8)))])
 .ret)), [.t 4]⟩
theorem c21 : cFn ty ibs (cDraw ty ibs) [] f21 = some q21 := by decide +kernel
noncomputable def q22 : MFn := ⟨(.seq (.reg [.ev (some 1) none (.a (.box (.t 0))),
 .ev (some 2) none (.w (.mv (.k (.c (.b false)))))])
 (.seq (.reg [.ev (some 3) none (.w (.fad 1 (.t 1))),
 .ev (some 4) none (.r (.ld none (.t 3))),
 .ev (some 5) none (.w (.bin .gtr (.t 4) (.k (.c (.i (.ofNat 26)))))),
 .ev (some 2) none (.w (.mv (.t 5)))])
 .ret)), [.t 2]⟩
theorem c22 : cFn ty ibs (cDraw ty ibs) [] f22 = some q22 := by decide +kernel
noncomputable def q23 : MFn := ⟨(.seq (.reg [.ev (some 1) none (.a (.box (.t 0))),
 .ev (some 2) none (.w (.mv (.k (.c (.b false)))))])
 (.seq (.reg [.ev (some 3) none (.r (.ld (some 6) (.t 1))),
 .ev (some 4) none (.m (.call 20 [.t 3])),
 .ev (some 5) none (.w (.mv (.t 4))),
 .ev (some 6) (some (5, true)) (.w (.fad 1 (.t 1))),
 .ev (some 7) (some (5, true)) (.r (.ld (some 5) (.t 6))),
 .ev (some 8) (some (5, true)) (.m (.call 62 [.t 7])),
 .ev (some 9) none (.w (.pick (.t 5) (.t 8) (.k (.c (.b false))))),
 .ev (some 10) none (.w (.mv (.t 9))),
 .ev (some 11) (some (10, true)) (.w (.fad 0 (.t 1))),
 .ev (some 12) (some (10, true)) (.r (.ld none (.t 11))),
 .ev (some 13) (some (10, true)) (.m (.call 21 [.t 12, .k (.c (.f 63 []))])),
 .ev (some 14) (some (10, true)) (.w (.un .not (.t 13))),
 .ev (some 15) none (.w (.pick (.t 10) (.t 14) (.k (.c (.b false))))),
 .ev (some 2) none (.w (.mv (.t 15)))])
 .ret)), [.t 2]⟩
theorem c23 : cFn ty ibs (cDraw ty ibs) [] f23 = some q23 := by decide +kernel
noncomputable def q24 : MFn := ⟨(.seq (.reg [.ev (some 1) none (.a (.box (.t 0))),
 .ev (some 2) none (.w (.mv (.k (.c (.i (.ofNat 0))))))])
 (.seq (.reg [.ev (some 3) none (.w (.mv (.k (.c (.i (.ofNat 0))))))])
 (.seq (.seq (.reg [.ev (some 6) none (.r (.ld none (.t 1))),
 .ev (some 7) none (.w (.lnl (.t 6))),
 .ev (some 8) none (.w (.mv (.k (.c (.i (.ofNat 0))))))])
 (.blk 0 (.loop (.seq (.reg [.ev (some 9) none (.w (.bin .lss (.t 8) (.t 7)))])
 (.seq (.cond (.t 9) .skip (.exit 0))
 (.seq (.blk 1 (.seq (.reg [.ev (some 10) none (.w (.iad 3 (.t 6) (.t 8))),
 .ev (some 11) none (.r (.ld (some 3) (.t 10))),
 .ev (some 5) none (.a (.al [.s [], .i (.ofNat 0), .l0])),
 .ev none none (.m (.st 3 (.t 5) (.t 11)))])
 (.reg [.ev (some 12) none (.w (.mv (.t 3))),
 .ev (some 13) none (.w (.fad 2 (.t 5))),
 .ev (some 14) none (.r (.ld none (.t 13))),
 .ev (some 15) none (.w (.lnl (.t 14))),
 .ev (some 16) none (.w (.bin .add (.t 12) (.t 15))),
 .ev (some 3) none (.w (.mv (.t 16)))])))
 (.reg [.ev (some 17) none (.w (.bin .add (.t 8) (.k (.c (.i (.ofNat 1)))))),
 .ev (some 8) none (.w (.mv (.t 17)))])))))))
 (.seq (.blk 2 (.seq (.reg [.ev (some 19) none (.r (.ld none (.t 1))),
 .ev (some 20) none (.m (.call 65 [.t 19])),
 .ev (some 18) none (.w (.mv (.t 20)))])
 (.cond (.t 18) (.seq (.reg [.ev (some 2) none (.w (.mv (.k (.c (.i (.ofNat 1))))))])
 .ret) (.seq (.reg [.ev (some 22) none (.r (.ld none (.t 1))),
 .ev (some 23) none (.w (.mkf 67 [.t 1])),
 .ev (some 24) none (.m (.call 66 [.t 22, .t 23])),
 .ev (some 21) none (.w (.mv (.t 24)))])
 (.cond (.t 21) (.seq (.reg [.ev (some 2) none (.w (.mv (.k (.c (.i (.ofNat 2))))))])
 .ret) (.seq (.reg [.ev (some 26) none (.w (.mv (.t 3))),
 .ev (some 27) none (.w (.bin .gtr (.t 26) (.k (.c (.i (.ofNat 60)))))),
 .ev (some 28) none (.w (.mv (.t 27))),
 .ev (some 29) (some (28, false)) (.r (.ld none (.t 1))),
 .ev (some 30) (some (28, false)) (.w (.mkf 69 [.t 1])),
 .ev (some 31) (some (28, false)) (.m (.call 66 [.t 29, .t 30])),
 .ev (some 32) none (.w (.pick (.t 28) (.k (.c (.b true))) (.t 31))),
 .ev (some 25) none (.w (.mv (.t 32)))])
 (.cond (.t 25) (.seq (.reg [.ev (some 2) none (.w (.mv (.k (.c (.i (.ofNat 3))))))])
 .ret) .skip)))))))
 (.seq (.reg [.ev (some 2) none (.w (.mv (.k (.c (.i (.ofNat 0))))))])
 .ret))))), [.t 2]⟩
theorem c24 : cFn ty ibs (cDraw ty ibs) [] f24 = some q24 := by decide +kernel
noncomputable def q25 : MFn := ⟨(.seq (.reg [.ev (some 3) none (.a (.box (.t 0))),
 .ev (some 4) none (.a (.box (.t 1))),
 .ev (some 5) none (.a (.box (.t 2))),
 .ev (some 6) none (.a (.al [.i (.ofNat 0), .i (.ofNat 0), .s [], .s [], .i (.ofNat 0), .i (.ofNat 0), .s [], .l0, .l0, .l0, .l0]))])
 (.seq (.reg [.ev (some 15) none (.w (.fad 0 (.t 4))),
 .ev (some 16) none (.r (.ld none (.t 15))),
 .ev (some 17) none (.w (.fad 1 (.t 4))),
 .ev (some 18) none (.r (.ld none (.t 17))),
 .ev (some 19) none (.w (.fad 2 (.t 4))),
 .ev (some 20) none (.r (.ld none (.t 19))),
 .ev (some 21) none (.w (.fad 3 (.t 4))),
 .ev (some 22) none (.r (.ld none (.t 21))),
 .ev (some 23) none (.w (.build [.i (.ofNat 0), .i (.ofNat 0), .s [], .s [], .i (.ofNat 0), .i (.ofNat 0), .s [], .l0, .l0, .l0, .l0] [(0, 1, .t 16), (1, 1, .t 18), (2, 1, .t 20), (3, 1, .t 22)])),
 .ev (some 7) none (.a (.al [.i (.ofNat 0), .i (.ofNat 0), .s [], .s [], .i (.ofNat 0), .i (.ofNat 0), .s [], .l0, .l0, .l0, .l0])),
 .ev none none (.m (.st 11 (.t 7) (.t 23)))])
 (.seq (.seq (.reg [.ev (some 24) none (.r (.ld none (.t 3))),
 .ev (some 25) none (.w (.nilc (.t 24))),
 .ev (some 26) none (.w (.fad 3 (.t 25))),
 .ev (some 27) none (.r (.ld none (.t 26))),
 .ev (some 28) none (.w (.bin .neq (.t 27) (.k (.c (.i (.ofNat 0))))))])
 (.cond (.t 28) (.seq (.reg [.ev (some 29) none (.r (.ld (some 11) (.t 7))),
 .ev none none (.m (.st 11 (.t 6) (.t 29)))])
 .ret) .skip))
 (.seq (.seq (.reg [.ev (some 30) none (.w (.fad 0 (.t 4))),
 .ev (some 31) none (.r (.ld none (.t 30)))])
 (.blk 0 (.seq (.reg [.ev (some 37) none (.w (.bin .eql (.t 31) (.k (.c (.i (.ofNat 1)))))),
 .ev (some 36) none (.w (.mv (.t 37)))])
 (.cond (.t 36) (.reg [.ev (some 38) none (.w (.build [.i (.ofNat 0), .i (.ofNat 0), .s [], .l0] [(0, 1, .k (.c (.i (.ofNat 1))))])),
 .ev (some 39) none (.w (.fad 4 (.t 7))),
 .ev none none (.m (.st 4 (.t 39) (.t 38)))]) (.seq (.reg [.ev (some 41) none (.w (.bin .eql (.t 31) (.k (.c (.i (.ofNat 2)))))),
 .ev (some 40) none (.w (.mv (.t 41)))])
 (.cond (.t 40) (.seq (.reg [.ev (some 42) none (.r (.ld none (.t 5))),
 .ev (some 43) none (.w (.fad 2 (.t 4))),
 .ev (some 44) none (.r (.ld none (.t 43))),
 .ev (some 45) none (.m (.call 70 [.t 42, .t 44])),
 .ev (some 8) none (.w (.mv (.t 45)))])
 (.seq (.seq (.reg [.ev (some 46) none (.w (.mv (.t 8))),
 .ev (some 47) none (.w (.bin .eql (.t 46) (.k (.c (.i (.negSucc 0))))))])
 (.cond (.t 47) (.seq (.reg [.ev (some 48) none (.r (.ld none (.t 3))),
 .ev (some 49) none (.m (.call 71 [.t 48, .k (.c (.i (.ofNat 3)))]))])
 (.seq (.reg [.ev (some 50) none (.r (.ld (some 11) (.t 7))),
 .ev none none (.m (.st 11 (.t 6) (.t 50)))])
 .ret)) .skip))
 (.seq (.reg [.ev (some 51) none (.r (.ld none (.t 5))),
 .ev (some 52) none (.w (.mv (.t 8))),
 .ev (some 53) none (.w (.iad 6 (.t 51) (.t 52))),
 .ev (some 54) none (.w (.fad 1 (.t 53))),
 .ev (some 55) none (.r (.ld (some 5) (.t 54))),
 .ev (some 9) none (.a (.al [.l0, .i (.ofNat 0), .i (.ofNat 0), .s [], .l0])),
 .ev none none (.m (.st 5 (.t 9) (.t 55)))])
 (.seq (.reg [.ev (some 56) none (.r (.ld none (.t 3))),
 .ev (some 57) none (.w (.fad 0 (.t 9))),
 .ev (some 58) none (.r (.ld none (.t 57))),
 .ev (some 59) none (.w (.lnl (.t 58))),
 .ev (some 60) none (.m (.call 72 [.t 56, .t 59])),
 .ev (some 61) none (.w (.fad 8 (.t 7))),
 .ev none none (.m (.st 1 (.t 61) (.t 60)))])
 (.reg [.ev (some 63) none (.r (.ld (some 5) (.t 9))),
 .ev (some 64) none (.w (.fad 8 (.t 7))),
 .ev (some 65) none (.r (.ld none (.t 64))),
 .ev (some 66) none (.m (.call 73 [.t 63, .t 65])),
 .ev (some 62) none (.w (.mv (.t 66))),
 .ev (some 67) none (.w (.ext 0 (.t 62))),
 .ev (some 68) none (.w (.ext 1 (.t 62))),
 .ev (some 69) none (.w (.fad 4 (.t 7))),
 .ev none none (.m (.st 4 (.t 69) (.t 67)))]))))) (.seq (.reg [.ev (some 71) none (.w (.bin .eql (.t 31) (.k (.c (.i (.ofNat 3)))))),
 .ev (some 70) none (.w (.mv (.t 71)))])
 (.cond (.t 70) (.seq (.reg [.ev (some 72) none (.r (.ld none (.t 3))),
 .ev (some 73) none (.m (.call 74 [.t 72])),
 .ev (some 10) none (.a (.al [.i (.ofNat 0), .i (.ofNat 0), .s [], .l0])),
 .ev none none (.m (.st 4 (.t 10) (.t 73)))])
 (.seq (.reg [.ev (some 74) none (.r (.ld none (.t 3))),
 .ev (some 75) none (.w (.fad 4 (.t 4))),
 .ev (some 76) none (.r (.ld none (.t 75))),
 .ev (some 77) none (.w (.iad 5 (.t 76) (.k (.c (.i (.ofNat 0)))))),
 .ev (some 78) none (.r (.ld (some 5) (.t 77))),
 .ev (some 79) none (.r (.ld none (.t 5))),
 .ev (some 80) none (.w (.fad 2 (.t 4))),
 .ev (some 81) none (.r (.ld none (.t 80))),
 .ev (some 82) none (.r (.ld (some 4) (.t 10))),
 .ev (some 83) none (.w (.build [.l0, .i (.ofNat 0), .i (.ofNat 0), .s [], .l0] [(1, 4, .t 82)])),
 .ev (some 11) none (.a (.al [.i (.ofNat 0), .i (.ofNat 0), .s [], .s [], .i (.ofNat 0), .i (.ofNat 0), .s [], .l0, .l0, .l0, .l0])),
 .mk (some 84) none (.call 75 [.t 79, .t 81, .t 83]) [(74, .ld none (.t 3)), (76, .ld none (.t 75)), (78, .ld (some 5) (.t 77))] [(11, .al [.i (.ofNat 0), .i (.ofNat 0), .s [], .s [], .i (.ofNat 0), .i (.ofNat 0), .s [], .l0, .l0, .l0, .l0])],
 .mk (some 85) none (.call 25 [.t 74, .t 78, .t 84]) [] [(11, .al [.i (.ofNat 0), .i (.ofNat 0), .s [], .s [], .i (.ofNat 0), .i (.ofNat 0), .s [], .l0, .l0, .l0, .l0])],
 .mk none none (.st 11 (.t 11) (.t 85)) [] []])
 (.seq (.reg [.ev (some 86) none (.r (.ld (some 11) (.t 11))),
 .ev (some 87) none (.a (.bsl 11 1 [.i (.ofNat 0), .i (.ofNat 0), .s [], .s [], .i (.ofNat 0), .i (.ofNat 0), .s [], .l0, .l0, .l0, .l0] [(0, 11, .t 86)])),
 .ev (some 88) none (.w (.fad 10 (.t 7))),
 .ev none none (.m (.st 1 (.t 88) (.t 87)))])
 (.reg [.ev (some 89) none (.r (.ld (some 4) (.t 10))),
 .ev (some 90) none (.w (.fad 4 (.t 11))),
 .ev (some 91) none (.r (.ld (some 4) (.t 90))),
 .ev (some 92) none (.m (.call 76 [.t 89, .t 91])),
 .ev (some 93) none (.w (.fad 4 (.t 7))),
 .ev none none (.m (.st 4 (.t 93) (.t 92)))])))) (.seq (.reg [.ev (some 95) none (.w (.bin .eql (.t 31) (.k (.c (.i (.ofNat 4)))))),
 .ev (some 94) none (.w (.mv (.t 95)))])
 (.cond (.t 94) (.seq (.reg [.ev (some 96) none (.r (.ld none (.t 3))),
 .ev (some 97) none (.w (.fad 4 (.t 4))),
 .ev (some 98) none (.r (.ld none (.t 97))),
 .ev (some 99) none (.w (.iad 5 (.t 98) (.k (.c (.i (.ofNat 0)))))),
 .ev (some 100) none (.r (.ld (some 5) (.t 99))),
 .ev (some 101) none (.r (.ld none (.t 5))),
 .ev (some 12) none (.a (.al [.i (.ofNat 0), .i (.ofNat 0), .s [], .s [], .i (.ofNat 0), .i (.ofNat 0), .s [], .l0, .l0, .l0, .l0])),
 .mk (some 102) none (.call 25 [.t 96, .t 100, .t 101]) [] [(12, .al [.i (.ofNat 0), .i (.ofNat 0), .s [], .s [], .i (.ofNat 0), .i (.ofNat 0), .s [], .l0, .l0, .l0, .l0])],
 .mk none none (.st 11 (.t 12) (.t 102)) [] []])
 (.seq (.reg [.ev (some 103) none (.r (.ld none (.t 3))),
 .ev (some 104) none (.w (.fad 4 (.t 4))),
 .ev (some 105) none (.r (.ld none (.t 104))),
 .ev (some 106) none (.w (.iad 5 (.t 105) (.k (.c (.i (.ofNat 1)))))),
 .ev (some 107) none (.r (.ld (some 5) (.t 106))),
 .ev (some 108) none (.r (.ld none (.t 5))),
 .ev (some 13) none (.a (.al [.i (.ofNat 0), .i (.ofNat 0), .s [], .s [], .i (.ofNat 0), .i (.ofNat 0), .s [], .l0, .l0, .l0, .l0])),
 .mk (some 109) none (.call 25 [.t 103, .t 107, .t 108]) [] [(13, .al [.i (.ofNat 0), .i (.ofNat 0), .s [], .s [], .i (.ofNat 0), .i (.ofNat 0), .s [], .l0, .l0, .l0, .l0])],
 .mk none none (.st 11 (.t 13) (.t 109)) [] []])
 (.seq (.reg [.ev (some 110) none (.r (.ld none (.t 3))),
 .ev (some 111) none (.m (.call 74 [.t 110])),
 .ev (some 112) none (.w (.fad 4 (.t 7))),
 .ev none none (.m (.st 4 (.t 112) (.t 111)))])
 (.seq (.reg [.ev (some 113) none (.r (.ld none (.t 3))),
 .ev (some 114) none (.w (.fad 4 (.t 12))),
 .ev (some 115) none (.r (.ld (some 4) (.t 114))),
 .ev (some 116) none (.w (.fad 4 (.t 13))),
 .ev (some 117) none (.r (.ld (some 4) (.t 116))),
 .ev (some 118) none (.w (.fad 4 (.t 7))),
 .ev (some 119) none (.r (.ld (some 4) (.t 118))),
 .mk (some 120) none (.call 76 [.t 117, .t 119]) [(113, .ld none (.t 3)), (115, .ld (some 4) (.t 114))] [],
 .mk (some 121) none (.call 77 [.t 113, .t 115, .t 120]) [] []])
 (.reg [.ev (some 122) none (.r (.ld (some 11) (.t 12))),
 .ev (some 123) none (.r (.ld (some 11) (.t 13))),
 .ev (some 124) none (.a (.bsl 11 2 [.i (.ofNat 0), .i (.ofNat 0), .s [], .s [], .i (.ofNat 0), .i (.ofNat 0), .s [], .l0, .l0, .l0, .l0, .i (.ofNat 0), .i (.ofNat 0), .s [], .s [], .i (.ofNat 0), .i (.ofNat 0), .s [], .l0, .l0, .l0, .l0] [(0, 11, .t 122), (11, 11, .t 123)])),
 .ev (some 125) none (.w (.fad 10 (.t 7))),
 .ev none none (.m (.st 1 (.t 125) (.t 124)))]))))) (.seq (.seq (.reg [.ev (some 127) none (.w (.bin .eql (.t 31) (.k (.c (.i (.ofNat 5)))))),
 .ev (some 126) none (.w (.mv (.t 127)))])
 (.cond (.t 126) .skip (.reg [.ev (some 128) none (.w (.bin .eql (.t 31) (.k (.c (.i (.ofNat 6)))))),
 .ev (some 126) none (.w (.mv (.t 128)))])))
 (.cond (.t 126) (.reg [.ev (some 129) none (.r (.ld none (.t 3))),
 .ev (some 130) none (.r (.ld (some 5) (.t 4))),
 .ev (some 131) none (.r (.ld none (.t 5))),
 .ev (some 132) none (.m (.call 78 [.t 129, .t 130, .t 7, .t 131]))]) (.seq (.reg [.ev (some 134) none (.w (.bin .eql (.t 31) (.k (.c (.i (.ofNat 7)))))),
 .ev (some 133) none (.w (.mv (.t 134)))])
 (.cond (.t 133) (.seq (.reg [.ev (some 135) none (.r (.ld none (.t 3))),
 .ev (some 136) none (.w (.fad 4 (.t 4))),
 .ev (some 137) none (.r (.ld none (.t 136))),
 .ev (some 138) none (.w (.iad 5 (.t 137) (.k (.c (.i (.ofNat 0)))))),
 .ev (some 139) none (.r (.ld (some 5) (.t 138))),
 .ev (some 140) none (.r (.ld none (.t 5))),
 .ev (some 14) none (.a (.al [.i (.ofNat 0), .i (.ofNat 0), .s [], .s [], .i (.ofNat 0), .i (.ofNat 0), .s [], .l0, .l0, .l0, .l0])),
 .mk (some 141) none (.call 25 [.t 135, .t 139, .t 140]) [] [(14, .al [.i (.ofNat 0), .i (.ofNat 0), .s [], .s [], .i (.ofNat 0), .i (.ofNat 0), .s [], .l0, .l0, .l0, .l0])],
 .mk none none (.st 11 (.t 14) (.t 141)) [] []])
 (.seq (.reg [.ev (some 142) none (.r (.ld (some 11) (.t 14))),
 .ev (some 143) none (.a (.bsl 11 1 [.i (.ofNat 0), .i (.ofNat 0), .s [], .s [], .i (.ofNat 0), .i (.ofNat 0), .s [], .l0, .l0, .l0, .l0] [(0, 11, .t 142)])),
 .ev (some 144) none (.w (.fad 10 (.t 7))),
 .ev none none (.m (.st 1 (.t 144) (.t 143)))])
 (.reg [.ev (some 145) none (.r (.ld none (.t 3))),
 .ev (some 146) none (.r (.ld (some 5) (.t 4))),
 .ev (some 147) none (.r (.ld none (.t 5))),
 .ev (some 148) none (.m (.call 79 [.t 145, .t 146, .t 7, .t 147]))]))) (.seq (.reg [.ev (some 150) none (.w (.bin .eql (.t 31) (.k (.c (.i (.ofNat 15)))))),
 .ev (some 149) none (.w (.mv (.t 150)))])
 (.cond (.t 149) (.reg [.ev (some 151) none (.r (.ld none (.t 3))),
 .ev (some 152) none (.r (.ld (some 5) (.t 4))),
 .ev (some 153) none (.w (.mkf 81 [.t 3, .t 5])),
 .ev (some 154) none (.m (.call 80 [.t 151, .t 152, .t 7, .t 153]))]) (.reg [.ev (some 32) none (.r (.ld none (.t 3))),
 .ev (some 33) none (.r (.ld (some 5) (.t 4))),
 .ev (some 34) none (.r (.ld none (.t 5))),
 .ev (some 35) none (.m (.call 82 [.t 32, .t 33, .t 7, .t 34]))])))))))))))))))))
 (.seq (.reg [.ev (some 155) none (.r (.ld none (.t 3))),
 .ev (some 156) none (.r (.ld (some 11) (.t 7))),
 .ev (some 157) none (.m (.call 83 [.t 155, .t 156]))])
 (.seq (.reg [.ev (some 158) none (.r (.ld (some 11) (.t 7))),
 .ev none none (.m (.st 11 (.t 6) (.t 158)))])
 .ret)))))), [.c (some 11) 6]⟩
theorem c25 : cFn ty ibs (cDraw ty ibs) [[.ev 0, .ev 1, .ev 2, .ev 3, .ev 4, .ev 5, .ev 6, .ev 7, .ev 8, .ev 9, .ev 12, .ev 10, .ev 11, .ev 13], [.ev 0, .ev 1, .ev 2, .ev 3, .ev 4, .ev 5, .ev 7, .ev 6, .ev 8], [.ev 0, .ev 1, .ev 2, .ev 3, .ev 4, .ev 5, .ev 7, .ev 6, .ev 8], [.ev 0, .ev 1, .ev 2, .ev 3, .ev 4, .ev 5, .ev 6, .ev 7, .ev 8], [.ev 0, .ev 1, .ev 2, .ev 3, .ev 4, .ev 5, .ev 7, .ev 6, .ev 8]] f25 = some q25 := by decide +kernel
end Go.Ev
