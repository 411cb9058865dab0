/-
The table: functions in the evaluator's form, each checked against the program.
-/
import Derived.Test.YtjidglpldjcmdaaGreatEvTb0
set_option linter.unusedVariables false
set_option maxRecDepth 1000000
namespace Go.Ev
open Go Go.Proofs.Tryz

noncomputable def q190 : MFn := ⟨(.seq (.reg [.ev (some 1) none (.a (.box (.t 0))),
 .ev (some 2) none (.w (.mv (.k (.c (.b false)))))])
 (.seq (.reg [.ev (some 3) none (.r (.ld (some 4) (.t 1))),
 .ev (some 4) none (.m (.call 225 [.t 3])),
 .ev (some 5) none (.w (.bin .leq (.t 4) (.k (.c (.i (.ofNat 200)))))),
 .ev (some 6) none (.w (.mv (.t 5))),
 .ev (some 7) (some (6, true)) (.r (.ld (some 4) (.t 1))),
 .ev (some 8) (some (6, true)) (.m (.call 226 [.t 7])),
 .ev (some 9) none (.w (.pick (.t 6) (.t 8) (.k (.c (.b false))))),
 .ev (some 2) none (.w (.mv (.t 9)))])
 .ret)), [.t 2]⟩
theorem c190 : cFn ty ibs (cDraw ty ibs) [] f190 = some q190 := by decide +kernel
noncomputable def q191 : MFn := ⟨(.seq (.reg [.ev (some 2) none (.w (.mv (.k (.c (.b false)))))])
 (.seq (.reg [.ev (some 3) none (.w (.mv (.t 0))),
 .ev (some 4) none (.w (.bin .geq (.t 3) (.k (.c (.j .u8 (.ofNat 65)))))),
 .ev (some 5) none (.w (.mv (.t 4))),
 .ev (some 6) (some (5, true)) (.w (.mv (.t 0))),
 .ev (some 7) (some (5, true)) (.w (.bin .leq (.t 6) (.k (.c (.j .u8 (.ofNat 90)))))),
 .ev (some 8) none (.w (.pick (.t 5) (.t 7) (.k (.c (.b false))))),
 .ev (some 2) none (.w (.mv (.t 8)))])
 .ret)), [.t 2]⟩
theorem c191 : cFn ty ibs (cDraw ty ibs) [] f191 = some q191 := by decide +kernel
noncomputable def q192 : MFn := ⟨(.seq (.reg [.ev (some 4) none (.w (.mv (.k (.c (.b false)))))])
 (.seq (.reg [.ev (some 5) none (.w (.mv (.t 0))),
 .ev (some 6) none (.w (.lns (.t 5))),
 .ev (some 7) none (.w (.mv (.t 1))),
 .ev (some 8) none (.w (.lns (.t 7))),
 .ev (some 9) none (.w (.bin .geq (.t 6) (.t 8))),
 .ev (some 10) none (.w (.mv (.t 9))),
 .ev (some 11) (some (10, true)) (.w (.mv (.t 0))),
 .ev (some 12) (some (10, true)) (.w (.mv (.t 1))),
 .ev (some 13) (some (10, true)) (.w (.lns (.t 12))),
 .ev (some 14) (some (10, true)) (.w (.sls (.t 11) none (some (.t 13)))),
 .ev (some 15) (some (10, true)) (.w (.mv (.t 1))),
 .ev (some 16) (some (10, true)) (.w (.bin .eql (.t 14) (.t 15))),
 .ev (some 17) none (.w (.pick (.t 10) (.t 16) (.k (.c (.b false))))),
 .ev (some 4) none (.w (.mv (.t 17)))])
 .ret)), [.t 4]⟩
theorem c192 : cFn ty ibs (cDraw ty ibs) [] f192 = some q192 := by decide +kernel
noncomputable def q193 : MFn := ⟨(.seq (.reg [.ev (some 4) none (.w (.mv (.k (.c (.i (.ofNat 0))))))])
 (.seq (.reg [.ev (some 5) none (.w (.mv (.t 0))),
 .ev (some 6) none (.w (.mv (.t 1))),
 .ev (some 7) none (.w (.ibs (.t 5) (.t 6))),
 .ev (some 4) none (.w (.mv (.t 7)))])
 .ret)), [.t 4]⟩
theorem c193 : cFn ty ibs (cDraw ty ibs) [] f193 = some q193 := by decide +kernel
noncomputable def q194 : MFn := ⟨(.seq (.reg [.ev (some 2) none (.a (.al [.i (.ofNat 0), .i (.ofNat 0), .s [], .s [], .l0]))])
 (.seq (.reg [.ev (some 5) none (.w (.mv (.t 0))),
 .ev (some 6) none (.m (.call 18 [.t 5])),
 .ev (some 3) none (.a (.al [.i (.ofNat 0), .s [], .i (.ofNat 0), .i (.ofNat 0)])),
 .ev none none (.m (.st 4 (.t 3) (.t 6)))])
 (.seq (.blk 0 (.seq (.reg [.ev (some 8) none (.w (.fad 0 (.t 3))),
 .ev (some 9) none (.r (.ld none (.t 8))),
 .ev (some 10) none (.w (.bin .eql (.t 9) (.k (.c (.i (.ofNat 3)))))),
 .ev (some 7) none (.w (.mv (.t 10)))])
 (.cond (.t 7) (.seq (.reg [.ev (some 11) none (.w (.mv (.t 0))),
 .ev (some 12) none (.m (.call 47 [.t 11]))])
 (.seq (.reg [.ev (some 13) none (.w (.fad 2 (.t 3))),
 .ev (some 14) none (.r (.ld none (.t 13))),
 .ev (some 15) none (.w (.build [.i (.ofNat 0), .i (.ofNat 0), .s [], .s [], .l0] [(0, 1, .k (.c (.i (.ofNat 19)))), (1, 1, .t 14)])),
 .ev none none (.m (.st 5 (.t 2) (.t 15)))])
 .ret)) (.seq (.reg [.ev (some 17) none (.w (.mv (.t 0))),
 .ev (some 18) none (.m (.call 49 [.t 17])),
 .ev (some 16) none (.w (.mv (.t 18)))])
 (.cond (.t 16) (.seq (.reg [.ev (some 19) none (.w (.mv (.t 0))),
 .ev (some 20) none (.m (.call 47 [.t 19]))])
 (.seq (.reg [.ev (some 21) none (.w (.fad 1 (.t 3))),
 .ev (some 22) none (.r (.ld none (.t 21))),
 .ev (some 23) none (.w (.build [.i (.ofNat 0), .i (.ofNat 0), .s [], .s [], .l0] [(0, 1, .k (.c (.i (.ofNat 18)))), (2, 1, .t 22)])),
 .ev none none (.m (.st 5 (.t 2) (.t 23)))])
 .ret)) (.seq (.reg [.ev (some 25) none (.w (.mv (.t 0))),
 .ev (some 26) none (.m (.call 130 [.t 25])),
 .ev (some 24) none (.w (.mv (.t 26)))])
 (.cond (.t 24) (.seq (.reg [.ev (some 27) none (.w (.mv (.t 0))),
 .ev (some 28) none (.m (.call 47 [.t 27]))])
 (.seq (.reg [.ev (some 29) none (.w (.fad 1 (.t 3))),
 .ev (some 30) none (.r (.ld none (.t 29))),
 .ev (some 31) none (.w (.build [.i (.ofNat 0), .i (.ofNat 0), .s [], .s [], .l0] [(0, 1, .k (.c (.i (.ofNat 20)))), (2, 1, .t 30)])),
 .ev none none (.m (.st 5 (.t 2) (.t 31)))])
 .ret)) (.seq (.reg [.ev (some 33) none (.w (.mv (.t 0))),
 .ev (some 34) none (.m (.call 15 [.t 33, .k (.c (.s [95]))])),
 .ev (some 32) none (.w (.mv (.t 34)))])
 (.cond (.t 32) (.seq (.reg [.ev (some 35) none (.w (.build [.i (.ofNat 0), .i (.ofNat 0), .s [], .s [], .l0] [(0, 1, .k (.c (.i (.ofNat 17))))])),
 .ev none none (.m (.st 5 (.t 2) (.t 35)))])
 .ret) .skip)))))))))
 (.seq (.reg [.ev (some 36) none (.w (.mv (.t 0))),
 .ev (some 37) none (.m (.call 51 [.t 36, .k (.c (.s [40]))]))])
 (.seq (.reg [.ev (some 38) none (.w (.mv (.t 0))),
 .ev (some 39) none (.m (.call 134 [.t 38])),
 .ev (some 4) none (.a (.al [.i (.ofNat 0), .i (.ofNat 0), .s [], .s [], .l0])),
 .ev none none (.m (.st 5 (.t 4) (.t 39)))])
 (.seq (.reg [.ev (some 40) none (.w (.mv (.t 0))),
 .ev (some 41) none (.m (.call 51 [.t 40, .k (.c (.s [41]))]))])
 (.seq (.reg [.ev (some 42) none (.r (.ld (some 5) (.t 4))),
 .ev none none (.m (.st 5 (.t 2) (.t 42)))])
 .ret))))))), [.c (some 5) 2]⟩
theorem c194 : cFn ty ibs (cDraw ty ibs) [] f194 = some q194 := by decide +kernel
noncomputable def q195 : MFn := ⟨(.seq (.reg [.ev (some 2) none (.a (.al [.i (.ofNat 0), .i (.ofNat 0), .s [], .s [], .l0]))])
 (.seq (.reg [.ev (some 5) none (.w (.mv (.t 0))),
 .ev (some 6) none (.m (.call 228 [.t 5])),
 .ev (some 3) none (.a (.al [.i (.ofNat 0), .i (.ofNat 0), .s [], .s [], .l0])),
 .ev none none (.m (.st 5 (.t 3) (.t 6)))])
 (.seq (.blk 0 (.loop (.seq (.seq (.reg [.ev (some 7) none (.w (.mv (.t 0))),
 .ev (some 8) none (.m (.call 15 [.t 7, .k (.c (.s [42]))]))])
 (.cond (.t 8) .skip (.exit 0)))
 (.blk 1 (.seq (.reg [.ev (some 9) none (.w (.mv (.t 0))),
 .ev (some 10) none (.m (.call 228 [.t 9])),
 .ev (some 4) none (.a (.al [.i (.ofNat 0), .i (.ofNat 0), .s [], .s [], .l0])),
 .ev none none (.m (.st 5 (.t 4) (.t 10)))])
 (.reg [.ev (some 11) none (.r (.ld (some 5) (.t 3))),
 .ev (some 12) none (.r (.ld (some 5) (.t 4))),
 .ev (some 13) none (.a (.bsl 5 2 [.i (.ofNat 0), .i (.ofNat 0), .s [], .s [], .l0, .i (.ofNat 0), .i (.ofNat 0), .s [], .s [], .l0] [(0, 5, .t 11), (5, 5, .t 12)])),
 .ev (some 14) none (.w (.build [.i (.ofNat 0), .i (.ofNat 0), .s [], .s [], .l0] [(0, 1, .k (.c (.i (.ofNat 12)))), (4, 1, .t 13)])),
 .ev none none (.m (.st 5 (.t 3) (.t 14)))]))))))
 (.seq (.reg [.ev (some 15) none (.r (.ld (some 5) (.t 3))),
 .ev none none (.m (.st 5 (.t 2) (.t 15)))])
 .ret)))), [.c (some 5) 2]⟩
theorem c195 : cFn ty ibs (cDraw ty ibs) [] f195 = some q195 := by decide +kernel
noncomputable def q196 : MFn := ⟨(.seq (.reg [.ev (some 4) none (.w (.mv (.k (.c (.b false)))))])
 (.seq (.reg [.ev (some 5) none (.w (.mv (.t 0))),
 .ev (some 6) none (.w (.lns (.t 5))),
 .ev (some 7) none (.m (.call 137 [.t 6, .k (.c (.i (.ofNat 1))), .k (.c (.i (.ofNat 8)))])),
 .ev (some 8) none (.w (.mv (.t 7))),
 .ev (some 9) (some (8, true)) (.w (.mv (.t 1))),
 .ev (some 10) (some (8, true)) (.w (.mv (.t 0))),
 .ev (some 11) (some (8, true)) (.w (.ixs (.t 10) (.k (.c (.i (.ofNat 0)))))),
 .ev (some 12) (some (8, true)) (.m (.cal (.t 9) [.t 11])),
 .ev (some 13) none (.w (.pick (.t 8) (.t 12) (.k (.c (.b false))))),
 .ev (some 14) none (.w (.mv (.t 13))),
 .ev (some 15) (some (14, true)) (.w (.mv (.t 0))),
 .ev (some 16) (some (14, true)) (.m (.call 123 [.t 15, .k (.c (.i (.ofNat 0))), .k (.c (.f 122 []))])),
 .ev (some 17) (some (14, true)) (.w (.mv (.t 0))),
 .ev (some 18) (some (14, true)) (.w (.lns (.t 17))),
 .ev (some 19) (some (14, true)) (.w (.bin .eql (.t 16) (.t 18))),
 .ev (some 20) none (.w (.pick (.t 14) (.t 19) (.k (.c (.b false))))),
 .ev (some 4) none (.w (.mv (.t 20)))])
 .ret)), [.t 4]⟩
theorem c196 : cFn ty ibs (cDraw ty ibs) [] f196 = some q196 := by decide +kernel
noncomputable def q197 : MFn := ⟨(.seq (.reg [.ev (some 4) none (.w (.mv (.k (.c (.b false)))))])
 (.seq (.reg [.ev (some 5) none (.w (.mv (.t 0))),
 .ev (some 6) none (.w (.mv (.t 1))),
 .ev (some 7) none (.m (.call 229 [.t 5, .t 6])),
 .ev (some 8) none (.w (.bin .geq (.t 7) (.k (.c (.i (.ofNat 0)))))),
 .ev (some 4) none (.w (.mv (.t 8)))])
 .ret)), [.t 4]⟩
theorem c197 : cFn ty ibs (cDraw ty ibs) [] f197 = some q197 := by decide +kernel
noncomputable def q198 : MFn := ⟨(.seq (.reg [.ev (some 2) none (.a (.box (.t 0))),
 .ev (some 3) none (.w (.mv (.k (.c (.b false)))))])
 (.seq (.reg [.ev (some 4) none (.r (.ld none (.t 1))),
 .ev (some 5) none (.r (.ld (some 5) (.t 2))),
 .ev (some 6) none (.m (.cal (.t 4) [.t 5])),
 .ev (some 7) none (.w (.un .not (.t 6))),
 .ev (some 3) none (.w (.mv (.t 7)))])
 .ret)), [.t 3]⟩
theorem c198 : cFn ty ibs (cDraw ty ibs) [] f198 = some q198 := by decide +kernel
noncomputable def q199 : MFn := ⟨(.seq (.reg [.ev (some 1) none (.a (.box (.t 0))),
 .ev (some 2) none (.w (.mv (.k (.c (.b false)))))])
 (.seq (.seq (.reg [.ev (some 3) none (.w (.fad 3 (.t 1))),
 .ev (some 4) none (.r (.ld none (.t 3))),
 .ev (some 5) none (.w (.bin .neq (.t 4) (.k (.c (.s [])))))])
 (.cond (.t 5) (.seq (.reg [.ev (some 2) none (.w (.mv (.k (.c (.b false)))))])
 .ret) .skip))
 (.seq (.seq (.reg [.ev (some 6) none (.w (.fad 0 (.t 1))),
 .ev (some 7) none (.r (.ld none (.t 6)))])
 (.blk 0 (.seq (.reg [.ev (some 9) none (.w (.bin .eql (.t 7) (.k (.c (.i (.ofNat 17)))))),
 .ev (some 8) none (.w (.mv (.t 9)))])
 (.cond (.t 8) (.seq (.reg [.ev (some 10) none (.w (.fad 1 (.t 1))),
 .ev (some 11) none (.r (.ld none (.t 10))),
 .ev (some 12) none (.w (.bin .eql (.t 11) (.k (.c (.i (.ofNat 0)))))),
 .ev (some 13) none (.w (.mv (.t 12))),
 .ev (some 14) (some (13, true)) (.w (.fad 2 (.t 1))),
 .ev (some 15) (some (13, true)) (.r (.ld none (.t 14))),
 .ev (some 16) (some (13, true)) (.w (.bin .eql (.t 15) (.k (.c (.s []))))),
 .ev (some 17) none (.w (.pick (.t 13) (.t 16) (.k (.c (.b false))))),
 .ev (some 18) none (.w (.mv (.t 17))),
 .ev (some 19) (some (18, true)) (.w (.fad 4 (.t 1))),
 .ev (some 20) (some (18, true)) (.r (.ld none (.t 19))),
 .ev (some 21) (some (18, true)) (.w (.lnl (.t 20))),
 .ev (some 22) (some (18, true)) (.w (.bin .eql (.t 21) (.k (.c (.i (.ofNat 0)))))),
 .ev (some 23) none (.w (.pick (.t 18) (.t 22) (.k (.c (.b false))))),
 .ev (some 2) none (.w (.mv (.t 23)))])
 .ret) (.seq (.reg [.ev (some 25) none (.w (.bin .eql (.t 7) (.k (.c (.i (.ofNat 18)))))),
 .ev (some 24) none (.w (.mv (.t 25)))])
 (.cond (.t 24) (.seq (.reg [.ev (some 26) none (.w (.fad 1 (.t 1))),
 .ev (some 27) none (.r (.ld none (.t 26))),
 .ev (some 28) none (.w (.bin .eql (.t 27) (.k (.c (.i (.ofNat 0)))))),
 .ev (some 29) none (.w (.mv (.t 28))),
 .ev (some 30) (some (29, true)) (.w (.fad 2 (.t 1))),
 .ev (some 31) (some (29, true)) (.r (.ld none (.t 30))),
 .ev (some 32) (some (29, true)) (.m (.call 138 [.t 31])),
 .ev (some 33) none (.w (.pick (.t 29) (.t 32) (.k (.c (.b false))))),
 .ev (some 34) none (.w (.mv (.t 33))),
 .ev (some 35) (some (34, true)) (.w (.fad 4 (.t 1))),
 .ev (some 36) (some (34, true)) (.r (.ld none (.t 35))),
 .ev (some 37) (some (34, true)) (.w (.lnl (.t 36))),
 .ev (some 38) (some (34, true)) (.w (.bin .eql (.t 37) (.k (.c (.i (.ofNat 0)))))),
 .ev (some 39) none (.w (.pick (.t 34) (.t 38) (.k (.c (.b false))))),
 .ev (some 2) none (.w (.mv (.t 39)))])
 .ret) (.seq (.reg [.ev (some 41) none (.w (.bin .eql (.t 7) (.k (.c (.i (.ofNat 19)))))),
 .ev (some 40) none (.w (.mv (.t 41)))])
 (.cond (.t 40) (.seq (.reg [.ev (some 42) none (.w (.fad 1 (.t 1))),
 .ev (some 43) none (.r (.ld none (.t 42))),
 .ev (some 44) none (.m (.call 137 [.t 43, .k (.c (.i (.ofNat 0))), .k (.c (.i (.ofNat 1073741823)))])),
 .ev (some 45) none (.w (.mv (.t 44))),
 .ev (some 46) (some (45, true)) (.w (.fad 2 (.t 1))),
 .ev (some 47) (some (45, true)) (.r (.ld none (.t 46))),
 .ev (some 48) (some (45, true)) (.w (.bin .eql (.t 47) (.k (.c (.s []))))),
 .ev (some 49) none (.w (.pick (.t 45) (.t 48) (.k (.c (.b false))))),
 .ev (some 50) none (.w (.mv (.t 49))),
 .ev (some 51) (some (50, true)) (.w (.fad 4 (.t 1))),
 .ev (some 52) (some (50, true)) (.r (.ld none (.t 51))),
 .ev (some 53) (some (50, true)) (.w (.lnl (.t 52))),
 .ev (some 54) (some (50, true)) (.w (.bin .eql (.t 53) (.k (.c (.i (.ofNat 0)))))),
 .ev (some 55) none (.w (.pick (.t 50) (.t 54) (.k (.c (.b false))))),
 .ev (some 2) none (.w (.mv (.t 55)))])
 .ret) (.seq (.reg [.ev (some 57) none (.w (.bin .eql (.t 7) (.k (.c (.i (.ofNat 20)))))),
 .ev (some 56) none (.w (.mv (.t 57)))])
 (.cond (.t 56) (.seq (.reg [.ev (some 58) none (.w (.fad 1 (.t 1))),
 .ev (some 59) none (.r (.ld none (.t 58))),
 .ev (some 60) none (.w (.bin .eql (.t 59) (.k (.c (.i (.ofNat 0)))))),
 .ev (some 61) none (.w (.mv (.t 60))),
 .ev (some 62) (some (61, true)) (.w (.fad 2 (.t 1))),
 .ev (some 63) (some (61, true)) (.r (.ld none (.t 62))),
 .ev (some 64) (some (61, true)) (.m (.call 139 [.t 63])),
 .ev (some 65) none (.w (.pick (.t 61) (.t 64) (.k (.c (.b false))))),
 .ev (some 66) none (.w (.mv (.t 65))),
 .ev (some 67) (some (66, true)) (.w (.fad 4 (.t 1))),
 .ev (some 68) (some (66, true)) (.r (.ld none (.t 67))),
 .ev (some 69) (some (66, true)) (.m (.call 140 [.t 68, .k (.c (.f 199 []))])),
 .ev (some 70) none (.w (.pick (.t 66) (.t 69) (.k (.c (.b false))))),
 .ev (some 2) none (.w (.mv (.t 70)))])
 .ret) .skip))))))))))
 (.seq (.reg [.ev (some 2) none (.w (.mv (.k (.c (.b false)))))])
 .ret)))), [.t 2]⟩
theorem c199 : cFn ty ibs (cDraw ty ibs) [] f199 = some q199 := by decide +kernel
noncomputable def q200 : MFn := ⟨(.seq (.reg [.ev (some 2) none (.a (.box (.t 0))),
 .ev (some 3) none (.w (.mv (.k (.c (.b false)))))])
 (.seq (.reg [.ev (some 4) none (.r (.ld (some 4) (.t 2))),
 .ev (some 5) none (.r (.ld none (.t 1))),
 .ev (some 6) none (.m (.call 143 [.t 4, .t 5])),
 .ev (some 7) none (.w (.un .not (.t 6))),
 .ev (some 3) none (.w (.mv (.t 7)))])
 .ret)), [.t 3]⟩
theorem c200 : cFn ty ibs (cDraw ty ibs) [] f200 = some q200 := by decide +kernel
noncomputable def q201 : MFn := ⟨(.seq (.reg [.ev (some 2) none (.a (.box (.t 0))),
 .ev (some 3) none (.w (.mv (.k (.c (.b false)))))])
 (.seq (.reg [.ev (some 4) none (.r (.ld (some 4) (.t 2))),
 .ev (some 5) none (.r (.ld none (.t 1))),
 .ev (some 6) none (.m (.call 146 [.t 4, .t 5])),
 .ev (some 3) none (.w (.mv (.t 6)))])
 .ret)), [.t 3]⟩
theorem c201 : cFn ty ibs (cDraw ty ibs) [] f201 = some q201 := by decide +kernel
noncomputable def q202 : MFn := ⟨(.seq (.reg [.ev (some 5) none (.a (.box (.t 2))),
 .ev (some 6) none (.w (.mv (.k (.c .l0)))),
 .ev (some 7) none (.w (.mv (.k (.c (.b false)))))])
 (.seq (.seq (.reg [.ev (some 12) none (.r (.ld (some 4) (.t 5))),
 .ev (some 13) none (.m (.call 230 [.t 12])),
 .ev (some 14) none (.w (.mv (.t 1))),
 .ev (some 15) none (.m (.call 90 [.t 13, .t 14]))])
 (.cond (.t 15) (.seq (.reg [.ev (some 6) none (.w (.mv (.k (.c .l0)))),
 .ev (some 7) none (.w (.mv (.k (.c (.b false)))))])
 .ret) .skip))
 (.seq (.reg [.ev (some 16) none (.w (.mv (.t 1))),
 .ev (some 17) none (.r (.ld (some 4) (.t 5))),
 .ev (some 18) none (.w (.build [.i (.ofNat 0), .i (.ofNat 0), .i (.ofNat 0), .s [], .l0] [(0, 1, .t 16), (1, 4, .t 17)])),
 .ev (some 19) none (.a (.bsl 5 1 [.i (.ofNat 0), .i (.ofNat 0), .i (.ofNat 0), .s [], .l0] [(0, 5, .t 18)])),
 .ev (some 8) none (.w (.mv (.t 19)))])
 (.seq (.reg [.ev (some 20) none (.a (.bsl 5 0 [] [])),
 .ev (some 9) none (.w (.mv (.t 20)))])
 (.seq (.seq (.reg [.ev (some 21) none (.w (.mv (.t 0))),
 .ev (some 22) none (.w (.lnl (.t 21))),
 .ev (some 23) none (.w (.mv (.k (.c (.i (.ofNat 0))))))])
 (.blk 0 (.loop (.seq (.reg [.ev (some 24) none (.w (.bin .lss (.t 23) (.t 22)))])
 (.seq (.cond (.t 24) .skip (.exit 0))
 (.seq (.blk 1 (.seq (.reg [.ev (some 25) none (.w (.iad 5 (.t 21) (.t 23))),
 .ev (some 26) none (.r (.ld (some 5) (.t 25))),
 .ev (some 11) none (.a (.al [.i (.ofNat 0), .i (.ofNat 0), .i (.ofNat 0), .s [], .l0])),
 .ev none none (.m (.st 5 (.t 11) (.t 26)))])
 (.reg [.ev (some 27) none (.w (.mv (.t 9))),
 .ev (some 28) none (.w (.fad 0 (.t 11))),
 .ev (some 29) none (.r (.ld none (.t 28))),
 .ev (some 30) none (.w (.mv (.t 8))),
 .ev (some 31) none (.w (.fad 1 (.t 11))),
 .ev (some 32) none (.r (.ld (some 4) (.t 31))),
 .mk (some 33) none (.call 84 [.t 30, .t 32]) [(29, .ld none (.t 28))] [],
 .ev (some 34) none (.w (.build [.i (.ofNat 0), .i (.ofNat 0), .i (.ofNat 0), .s [], .l0] [(0, 1, .t 29), (1, 4, .t 33)])),
 .ev (some 35) none (.a (.bsl 5 1 [.i (.ofNat 0), .i (.ofNat 0), .i (.ofNat 0), .s [], .l0] [(0, 5, .t 34)])),
 .mk (some 36) none (.app 5 64 (.t 27) (.t 35)) [] [],
 .ev (some 9) none (.w (.mv (.t 36)))])))
 (.reg [.ev (some 37) none (.w (.bin .add (.t 23) (.k (.c (.i (.ofNat 1)))))),
 .ev (some 23) none (.w (.mv (.t 37)))])))))))
 (.seq (.reg [.ev (some 38) none (.w (.mv (.t 9))),
 .ev (some 39) none (.w (.mv (.t 1))),
 .ev (some 40) none (.r (.ld (some 4) (.t 5))),
 .ev (some 41) none (.m (.call 93 [.t 40])),
 .ev (some 42) none (.w (.build [.i (.ofNat 0), .i (.ofNat 0), .i (.ofNat 0), .s [], .l0] [(0, 1, .t 39), (1, 4, .t 41)])),
 .ev (some 43) none (.a (.bsl 5 1 [.i (.ofNat 0), .i (.ofNat 0), .i (.ofNat 0), .s [], .l0] [(0, 5, .t 42)])),
 .ev (some 44) none (.m (.app 5 64 (.t 38) (.t 43))),
 .ev (some 9) none (.w (.mv (.t 44)))])
 (.seq (.reg [.ev (some 45) none (.w (.mv (.t 9))),
 .ev (some 46) none (.w (.mv (.t 9))),
 .ev (some 47) none (.m (.call 231 [.t 46, .k (.c (.f 232 []))])),
 .ev (some 48) none (.w (.un .not (.t 47))),
 .ev (some 6) none (.w (.mv (.t 45))),
 .ev (some 7) none (.w (.mv (.t 48)))])
 .ret))))))), [.t 6, .t 7]⟩
theorem c202 : cFn ty ibs (cDraw ty ibs) [[.ev 0, .ev 1, .ev 2, .ev 3, .ev 4, .ev 5, .ev 6, .ev 7, .ev 8, .ev 9, .ev 10]] f202 = some q202 := by decide +kernel
noncomputable def q203 : MFn := ⟨(.seq (.reg [.ev (some 2) none (.a (.box (.t 0))),
 .ev (some 3) none (.a (.box (.t 1))),
 .ev (some 4) none (.w (.mv (.k (.c .l0))))])
 (.seq (.reg [.ev (some 5) none (.r (.ld (some 4) (.t 3))),
 .ev (some 6) none (.m (.call 230 [.t 5])),
 .ev (some 7) none (.w (.mkf 234 [.t 2])),
 .ev (some 8) none (.m (.call 233 [.t 6, .t 7])),
 .ev (some 4) none (.w (.mv (.t 8)))])
 .ret)), [.t 4]⟩
theorem c203 : cFn ty ibs (cDraw ty ibs) [] f203 = some q203 := by decide +kernel
noncomputable def q204 : MFn := ⟨(.seq (.reg [.ev (some 4) none (.w (.mv (.k (.c .l0))))])
 (.seq (.reg [.ev (some 8) none (.a (.bsl 5 0 [] [])),
 .ev (some 5) none (.w (.mv (.t 8)))])
 (.seq (.seq (.reg [.ev (some 9) none (.w (.mv (.t 1))),
 .ev (some 10) none (.w (.lnl (.t 9))),
 .ev (some 11) none (.w (.mv (.k (.c (.i (.ofNat 0))))))])
 (.blk 0 (.loop (.seq (.reg [.ev (some 12) none (.w (.bin .lss (.t 11) (.t 10)))])
 (.seq (.cond (.t 12) .skip (.exit 0))
 (.seq (.blk 1 (.seq (.reg [.ev (some 13) none (.w (.iad 6 (.t 9) (.t 11))),
 .ev (some 14) none (.r (.ld (some 6) (.t 13))),
 .ev (some 7) none (.a (.al [.s [], .l0, .i (.ofNat 0), .i (.ofNat 0), .s [], .l0])),
 .ev none none (.m (.st 6 (.t 7) (.t 14)))])
 (.reg [.ev (some 15) none (.w (.mv (.t 5))),
 .ev (some 16) none (.w (.fad 1 (.t 7))),
 .ev (some 17) none (.w (.fad 0 (.t 16))),
 .ev (some 18) none (.r (.ld none (.t 17))),
 .ev (some 19) none (.w (.mv (.t 0))),
 .ev (some 20) none (.w (.nilc (.t 19))),
 .ev (some 21) none (.w (.fad 1 (.t 20))),
 .ev (some 22) none (.r (.ld none (.t 21))),
 .ev (some 23) none (.w (.fad 1 (.t 7))),
 .ev (some 24) none (.w (.fad 1 (.t 23))),
 .ev (some 25) none (.r (.ld (some 4) (.t 24))),
 .mk (some 26) none (.call 84 [.t 22, .t 25]) [(18, .ld none (.t 17))] [],
 .ev (some 27) none (.w (.build [.l0, .i (.ofNat 0), .i (.ofNat 0), .s [], .l0] [(0, 1, .t 18), (1, 4, .t 26)])),
 .ev (some 28) none (.a (.bsl 5 1 [.l0, .i (.ofNat 0), .i (.ofNat 0), .s [], .l0] [(0, 5, .t 27)])),
 .mk (some 29) none (.app 5 80 (.t 15) (.t 28)) [] [],
 .ev (some 5) none (.w (.mv (.t 29)))])))
 (.reg [.ev (some 30) none (.w (.bin .add (.t 11) (.k (.c (.i (.ofNat 1)))))),
 .ev (some 11) none (.w (.mv (.t 30)))])))))))
 (.seq (.reg [.ev (some 31) none (.w (.mv (.t 5))),
 .ev (some 4) none (.w (.mv (.t 31)))])
 .ret)))), [.t 4]⟩
theorem c204 : cFn ty ibs (cDraw ty ibs) [[.ev 0, .ev 1, .ev 2, .ev 3, .ev 4, .ev 5, .ev 6, .ev 7, .ev 8, .ev 9, .ev 10, .ev 11, .ev 12, .ev 13, .ev 14, .ev 15]] f204 = some q204 := by decide +kernel
noncomputable def q205 : MFn := ⟨(.seq (.reg [.ev (some 2) none (.a (.box (.t 0))),
 .ev (some 4) none (.w (.mv (.k (.c .l0))))])
 (.seq (.seq (.reg [.ev (some 7) none (.w (.fad 0 (.t 2))),
 .ev (some 8) none (.r (.ld none (.t 7))),
 .ev (some 9) none (.w (.bin .eql (.t 8) (.k (.c (.i (.ofNat 18))))))])
 (.cond (.t 9) (.reg [.ev (some 10) none (.w (.mv (.t 1))),
 .ev (some 11) none (.w (.fad 2 (.t 2))),
 .ev (some 12) none (.r (.ld none (.t 11))),
 .ev (some 13) none (.a (.bsl 1 1 [.s []] [(0, 1, .t 12)])),
 .ev (some 14) none (.m (.app 1 16 (.t 10) (.t 13))),
 .ev (some 1) none (.w (.mv (.t 14)))]) .skip))
 (.seq (.seq (.reg [.ev (some 15) none (.w (.fad 4 (.t 2))),
 .ev (some 16) none (.r (.ld none (.t 15))),
 .ev (some 17) none (.w (.lnl (.t 16))),
 .ev (some 18) none (.w (.mv (.k (.c (.i (.ofNat 0))))))])
 (.blk 0 (.loop (.seq (.reg [.ev (some 19) none (.w (.bin .lss (.t 18) (.t 17)))])
 (.seq (.cond (.t 19) .skip (.exit 0))
 (.seq (.blk 1 (.seq (.reg [.ev (some 20) none (.w (.iad 5 (.t 16) (.t 18))),
 .ev (some 21) none (.r (.ld (some 5) (.t 20))),
 .ev (some 6) none (.a (.al [.i (.ofNat 0), .i (.ofNat 0), .s [], .s [], .l0])),
 .ev none none (.m (.st 5 (.t 6) (.t 21)))])
 (.reg [.ev (some 22) none (.r (.ld (some 5) (.t 6))),
 .ev (some 23) none (.w (.mv (.t 1))),
 .ev (some 24) none (.m (.call 205 [.t 22, .t 23])),
 .ev (some 1) none (.w (.mv (.t 24)))])))
 (.reg [.ev (some 25) none (.w (.bin .add (.t 18) (.k (.c (.i (.ofNat 1)))))),
 .ev (some 18) none (.w (.mv (.t 25)))])))))))
 (.seq (.reg [.ev (some 26) none (.w (.mv (.t 1))),
 .ev (some 4) none (.w (.mv (.t 26)))])
 .ret)))), [.t 4]⟩
theorem c205 : cFn ty ibs (cDraw ty ibs) [] f205 = some q205 := by decide +kernel
noncomputable def q206 : MFn := ⟨(.seq (.reg [.ev (some 3) none (.a (.box (.t 0))),
 .ev (some 4) none (.a (.al [.i (.ofNat 0), .i (.ofNat 0), .s [], .s [], .i (.ofNat 0), .i (.ofNat 0), .s [], .l0, .l0, .l0, .l0]))])
 (.seq (.reg [.ev (some 5) none (.r (.ld none (.t 1))),
 .ev (some 6) none (.r (.ld (some 5) (.t 3))),
 .ev (some 7) none (.r (.ld none (.t 2))),
 .ev (some 8) none (.m (.call 152 [.t 5, .t 6, .t 7])),
 .ev none none (.m (.st 11 (.t 4) (.t 8)))])
 .ret)), [.c (some 11) 4]⟩
theorem c206 : cFn ty ibs (cDraw ty ibs) [] f206 = some q206 := by decide +kernel
noncomputable def q207 : MFn := ⟨(.seq (.reg [.ev (some 4) none (.w (.mv (.k (.c (.i (.ofNat 0))))))])
 (.seq (.seq (.reg [.ev (some 6) none (.w (.mv (.t 0))),
 .ev (some 7) none (.w (.lnl (.t 6))),
 .ev (some 8) none (.w (.mv (.k (.c (.i (.ofNat 0))))))])
 (.blk 0 (.loop (.seq (.reg [.ev (some 9) none (.w (.bin .lss (.t 8) (.t 7)))])
 (.seq (.cond (.t 9) .skip (.exit 0))
 (.seq (.blk 1 (.seq (.reg [.ev (some 10) none (.w (.mv (.t 8))),
 .ev (some 5) none (.w (.mv (.t 10)))])
 (.seq (.reg [.ev (some 11) none (.w (.mv (.t 1))),
 .ev (some 12) none (.w (.mv (.t 0))),
 .ev (some 13) none (.w (.mv (.t 5))),
 .ev (some 14) none (.w (.iad 2 (.t 12) (.t 13))),
 .ev (some 15) none (.r (.ld (some 2) (.t 14))),
 .ev (some 16) none (.m (.cal (.t 11) [.t 15]))])
 (.cond (.t 16) (.seq (.reg [.ev (some 17) none (.w (.mv (.t 5))),
 .ev (some 4) none (.w (.mv (.t 17)))])
 .ret) .skip))))
 (.reg [.ev (some 18) none (.w (.bin .add (.t 8) (.k (.c (.i (.ofNat 1)))))),
 .ev (some 8) none (.w (.mv (.t 18)))])))))))
 (.seq (.reg [.ev (some 4) none (.w (.mv (.k (.c (.i (.negSucc 0))))))])
 .ret))), [.t 4]⟩
theorem c207 : cFn ty ibs (cDraw ty ibs) [] f207 = some q207 := by decide +kernel
noncomputable def q208 : MFn := ⟨(.seq (.reg [.ev (some 2) none (.a (.box (.t 0))),
 .ev (some 3) none (.w (.mv (.k (.c (.b false)))))])
 (.seq (.reg [.ev (some 4) none (.w (.fad 0 (.t 2))),
 .ev (some 5) none (.r (.ld none (.t 4))),
 .ev (some 6) none (.r (.ld none (.t 1))),
 .ev (some 7) none (.w (.bin .eql (.t 5) (.t 6))),
 .ev (some 3) none (.w (.mv (.t 7)))])
 .ret)), [.t 3]⟩
theorem c208 : cFn ty ibs (cDraw ty ibs) [] f208 = some q208 := by decide +kernel
noncomputable def q209 : MFn := ⟨(.seq (.reg [.ev (some 4) none (.w (.mv (.k (.c (.i (.ofNat 0))))))])
 (.seq (.seq (.reg [.ev (some 6) none (.w (.mv (.t 0))),
 .ev (some 7) none (.w (.lnl (.t 6))),
 .ev (some 8) none (.w (.mv (.k (.c (.i (.ofNat 0))))))])
 (.blk 0 (.loop (.seq (.reg [.ev (some 9) none (.w (.bin .lss (.t 8) (.t 7)))])
 (.seq (.cond (.t 9) .skip (.exit 0))
 (.seq (.blk 1 (.seq (.reg [.ev (some 10) none (.w (.mv (.t 8))),
 .ev (some 5) none (.w (.mv (.t 10)))])
 (.seq (.reg [.ev (some 11) none (.w (.mv (.t 1))),
 .ev (some 12) none (.w (.mv (.t 0))),
 .ev (some 13) none (.w (.mv (.t 5))),
 .ev (some 14) none (.w (.iad 5 (.t 12) (.t 13))),
 .ev (some 15) none (.r (.ld (some 5) (.t 14))),
 .ev (some 16) none (.m (.cal (.t 11) [.t 15]))])
 (.cond (.t 16) (.seq (.reg [.ev (some 17) none (.w (.mv (.t 5))),
 .ev (some 4) none (.w (.mv (.t 17)))])
 .ret) .skip))))
 (.reg [.ev (some 18) none (.w (.bin .add (.t 8) (.k (.c (.i (.ofNat 1)))))),
 .ev (some 8) none (.w (.mv (.t 18)))])))))))
 (.seq (.reg [.ev (some 4) none (.w (.mv (.k (.c (.i (.negSucc 0))))))])
 .ret))), [.t 4]⟩
theorem c209 : cFn ty ibs (cDraw ty ibs) [] f209 = some q209 := by decide +kernel
noncomputable def q210 : MFn := ⟨(.seq (.reg [.ev (some 2) none (.a (.box (.t 0))),
 .ev (some 3) none (.w (.mv (.k (.c (.b false)))))])
 (.seq (.reg [.ev (some 4) none (.w (.fad 0 (.t 2))),
 .ev (some 5) none (.r (.ld none (.t 4))),
 .ev (some 6) none (.r (.ld none (.t 1))),
 .ev (some 7) none (.w (.bin .eql (.t 5) (.t 6))),
 .ev (some 3) none (.w (.mv (.t 7)))])
 .ret)), [.t 3]⟩
theorem c210 : cFn ty ibs (cDraw ty ibs) [] f210 = some q210 := by decide +kernel
noncomputable def q211 : MFn := ⟨(.seq (.reg [.ev (some 1) none (.a (.box (.t 0))),
 .ev (some 2) none (.w (.mv (.k (.c (.b false)))))])
 (.seq (.reg [.ev (some 3) none (.r (.ld (some 4) (.t 1))),
 .ev (some 4) none (.m (.call 159 [.t 3])),
 .ev (some 5) none (.w (.un .not (.t 4))),
 .ev (some 2) none (.w (.mv (.t 5)))])
 .ret)), [.t 2]⟩
theorem c211 : cFn ty ibs (cDraw ty ibs) [] f211 = some q211 := by decide +kernel
noncomputable def q212 : MFn := ⟨(.seq (.reg [.ev (some 2) none (.w (.mv (.k (.c (.b false)))))])
 (.seq (.reg [.ev (some 3) none (.w (.mv (.t 0))),
 .ev (some 4) none (.m (.call 108 [.t 3, .k (.c (.i (.negSucc 1073741823))), .k (.c (.i (.ofNat 1073741823)))])),
 .ev (some 2) none (.w (.mv (.t 4)))])
 .ret)), [.t 2]⟩
theorem c212 : cFn ty ibs (cDraw ty ibs) [] f212 = some q212 := by decide +kernel
noncomputable def q213 : MFn := ⟨(.seq (.reg [.ev (some 2) none (.w (.mv (.k (.c (.s [])))))])
 (.seq (.seq (.reg [.ev (some 6) none (.w (.mv (.t 0))),
 .ev (some 7) none (.w (.bin .eql (.t 6) (.k (.c (.i (.ofNat 0))))))])
 (.cond (.t 7) (.seq (.reg [.ev (some 2) none (.w (.mv (.k (.c (.s [48])))))])
 .ret) .skip))
 (.seq (.reg [.ev (some 8) none (.w (.mv (.t 0))),
 .ev (some 9) none (.w (.bin .lss (.t 8) (.k (.c (.i (.ofNat 0)))))),
 .ev (some 3) none (.w (.mv (.t 9)))])
 (.seq (.reg [.ev (some 4) none (.w (.mv (.k (.c (.s [])))))])
 (.seq (.blk 0 (.loop (.seq (.seq (.reg [.ev (some 10) none (.w (.mv (.t 0))),
 .ev (some 11) none (.w (.bin .neq (.t 10) (.k (.c (.i (.ofNat 0))))))])
 (.cond (.t 11) .skip (.exit 0)))
 (.blk 1 (.seq (.reg [.ev (some 12) none (.w (.mv (.t 0))),
 .ev (some 13) none (.w (.bin .rem (.t 12) (.k (.c (.i (.ofNat 10)))))),
 .ev (some 5) none (.w (.mv (.t 13)))])
 (.seq (.seq (.reg [.ev (some 14) none (.w (.mv (.t 5))),
 .ev (some 15) none (.w (.bin .lss (.t 14) (.k (.c (.i (.ofNat 0))))))])
 (.cond (.t 15) (.reg [.ev (some 16) none (.w (.mv (.t 5))),
 .ev (some 17) none (.w (.bin .sub (.k (.c (.i (.ofNat 0)))) (.t 16))),
 .ev (some 5) none (.w (.mv (.t 17)))]) .skip))
 (.seq (.reg [.ev (some 18) none (.w (.mv (.t 5))),
 .ev (some 19) none (.w (.bin .add (.k (.c (.i (.ofNat 48)))) (.t 18))),
 .ev (some 20) none (.w (.cv .u8 (.t 19))),
 .ev (some 21) none (.a (.bsl 1 1 [.j .u8 (.ofNat 0)] [(0, 1, .t 20)])),
 .ev (some 22) none (.r (.bts (.t 21))),
 .ev (some 23) none (.w (.mv (.t 4))),
 .ev (some 24) none (.w (.bin .add (.t 22) (.t 23))),
 .ev (some 4) none (.w (.mv (.t 24)))])
 (.reg [.ev (some 25) none (.w (.mv (.t 0))),
 .ev (some 26) none (.w (.bin .quo (.t 25) (.k (.c (.i (.ofNat 10)))))),
 .ev (some 0) none (.w (.mv (.t 26)))]))))))))
 (.seq (.seq (.reg [.ev (some 27) none (.w (.mv (.t 3)))])
 (.cond (.t 27) (.seq (.reg [.ev (some 28) none (.w (.mv (.t 4))),
 .ev (some 29) none (.w (.bin .add (.k (.c (.s [45]))) (.t 28))),
 .ev (some 2) none (.w (.mv (.t 29)))])
 .ret) .skip))
 (.seq (.reg [.ev (some 30) none (.w (.mv (.t 4))),
 .ev (some 2) none (.w (.mv (.t 30)))])
 .ret))))))), [.t 2]⟩
theorem c213 : cFn ty ibs (cDraw ty ibs) [] f213 = some q213 := by decide +kernel
noncomputable def q214 : MFn := ⟨(.seq (.reg [.ev (some 4) none (.w (.mv (.k (.c (.b false)))))])
 (.seq (.seq (.reg [.ev (some 5) none (.w (.mv (.k (.c (.i (.ofNat 0))))))])
 (.blk 0 (.loop (.seq (.seq (.reg [.ev (some 6) none (.w (.mv (.t 5))),
 .ev (some 7) none (.w (.mv (.t 0))),
 .ev (some 8) none (.w (.lnl (.t 7))),
 .ev (some 9) none (.w (.bin .lss (.t 6) (.t 8)))])
 (.cond (.t 9) .skip (.exit 0)))
 (.seq (.blk 1 (.seq (.reg [.ev (some 12) none (.w (.mv (.t 0))),
 .ev (some 13) none (.w (.mv (.t 5))),
 .ev (some 14) none (.w (.iad 1 (.t 12) (.t 13))),
 .ev (some 15) none (.r (.ld none (.t 14))),
 .ev (some 16) none (.w (.mv (.t 1))),
 .ev (some 17) none (.w (.bin .eql (.t 15) (.t 16)))])
 (.cond (.t 17) (.seq (.reg [.ev (some 4) none (.w (.mv (.k (.c (.b true)))))])
 .ret) .skip)))
 (.reg [.ev (some 10) none (.w (.mv (.t 5))),
 .ev (some 11) none (.w (.bin .add (.t 10) (.k (.c (.i (.ofNat 1)))))),
 .ev (some 5) none (.w (.mv (.t 11)))]))))))
 (.seq (.reg [.ev (some 4) none (.w (.mv (.k (.c (.b false)))))])
 .ret))), [.t 4]⟩
theorem c214 : cFn ty ibs (cDraw ty ibs) [] f214 = some q214 := by decide +kernel
noncomputable def q215 : MFn := ⟨(.seq (.reg [.ev (some 4) none (.w (.mv (.k (.c (.i (.ofNat 0))))))])
 (.seq (.seq (.reg [.ev (some 5) none (.w (.mv (.k (.c (.i (.ofNat 0))))))])
 (.blk 0 (.loop (.seq (.seq (.reg [.ev (some 6) none (.w (.mv (.t 5))),
 .ev (some 7) none (.w (.mv (.t 0))),
 .ev (some 8) none (.w (.nilc (.t 7))),
 .ev (some 9) none (.w (.fad 3 (.t 8))),
 .ev (some 10) none (.r (.ld none (.t 9))),
 .ev (some 11) none (.w (.lnl (.t 10))),
 .ev (some 12) none (.w (.bin .lss (.t 6) (.t 11)))])
 (.cond (.t 12) .skip (.exit 0)))
 (.seq (.blk 1 (.seq (.reg [.ev (some 15) none (.w (.mv (.t 0))),
 .ev (some 16) none (.w (.nilc (.t 15))),
 .ev (some 17) none (.w (.fad 3 (.t 16))),
 .ev (some 18) none (.r (.ld none (.t 17))),
 .ev (some 19) none (.w (.mv (.t 5))),
 .ev (some 20) none (.w (.iad 1 (.t 18) (.t 19))),
 .ev (some 21) none (.r (.ld none (.t 20))),
 .ev (some 22) none (.w (.mv (.t 1))),
 .ev (some 23) none (.w (.bin .eql (.t 21) (.t 22)))])
 (.cond (.t 23) (.seq (.reg [.ev (some 24) none (.w (.mv (.t 5))),
 .ev (some 4) none (.w (.mv (.t 24)))])
 .ret) .skip)))
 (.reg [.ev (some 13) none (.w (.mv (.t 5))),
 .ev (some 14) none (.w (.bin .add (.t 13) (.k (.c (.i (.ofNat 1)))))),
 .ev (some 5) none (.w (.mv (.t 14)))]))))))
 (.seq (.reg [.ev (some 25) none (.w (.mv (.t 0))),
 .ev (some 26) none (.w (.nilc (.t 25))),
 .ev (some 27) none (.w (.fad 4 (.t 26))),
 .ev none none (.m (.st 1 (.t 27) (.k (.c (.b true)))))])
 (.seq (.reg [.ev (some 4) none (.w (.mv (.k (.c (.i (.ofNat 0))))))])
 .ret)))), [.t 4]⟩
theorem c215 : cFn ty ibs (cDraw ty ibs) [] f215 = some q215 := by decide +kernel
noncomputable def q216 : MFn := ⟨(.seq (.reg [.ev (some 2) none (.a (.al [.i (.ofNat 0), .i (.ofNat 0), .s [], .l0]))])
 (.seq (.reg [.ev (some 5) none (.w (.build [.i (.ofNat 0), .i (.ofNat 0), .s [], .l0] [])),
 .ev (some 3) none (.a (.al [.i (.ofNat 0), .i (.ofNat 0), .s [], .l0])),
 .ev none none (.m (.st 4 (.t 3) (.t 5)))])
 (.seq (.seq (.reg [.ev (some 6) none (.w (.mv (.t 0))),
 .ev (some 7) none (.m (.call 166 [.t 6]))])
 (.cond (.t 7) (.seq (.reg [.ev (some 8) none (.w (.mv (.t 0))),
 .ev (some 9) none (.m (.call 96 [.t 8, .k (.c (.b true))])),
 .ev (some 10) none (.w (.build [.i (.ofNat 0), .i (.ofNat 0), .s [], .l0] [(0, 1, .k (.c (.i (.ofNat 4)))), (2, 1, .t 9)])),
 .ev none none (.m (.st 4 (.t 3) (.t 10)))])
 (.blk 0 (.loop (.seq (.seq (.reg [.ev (some 11) none (.w (.mv (.t 0))),
 .ev (some 12) none (.m (.call 168 [.t 11]))])
 (.cond (.t 12) .skip (.exit 0)))
 (.blk 1 (.reg [.ev (some 13) none (.w (.fad 3 (.t 3))),
 .ev (some 14) none (.r (.ld none (.t 13))),
 .ev (some 15) none (.w (.mv (.t 0))),
 .mk (some 16) none (.call 169 [.t 15]) [(14, .ld none (.t 13))] [],
 .ev (some 17) none (.a (.bsl 4 1 [.i (.ofNat 0), .i (.ofNat 0), .s [], .l0] [(0, 4, .t 16)])),
 .mk (some 18) none (.app 4 56 (.t 14) (.t 17)) [] [],
 .ev (some 19) none (.w (.fad 3 (.t 3))),
 .mk none none (.st 1 (.t 19) (.t 18)) [] []])))))) (.reg [.ev (some 20) none (.w (.mv (.t 0))),
 .ev (some 21) none (.m (.call 169 [.t 20])),
 .ev none none (.m (.st 4 (.t 3) (.t 21)))])))
 (.seq (.seq (.reg [.ev (some 22) none (.w (.mv (.t 0))),
 .ev (some 23) none (.m (.call 100 [.t 22, .k (.c (.s [45, 62]))])),
 .ev (some 24) none (.w (.un .not (.t 23)))])
 (.cond (.t 24) (.seq (.reg [.ev (some 25) none (.r (.ld (some 4) (.t 3))),
 .ev none none (.m (.st 4 (.t 2) (.t 25)))])
 .ret) .skip))
 (.seq (.reg [.ev (some 26) none (.w (.mv (.t 0))),
 .ev (some 27) none (.m (.call 101 [.t 26]))])
 (.seq (.reg [.ev (some 28) none (.w (.mv (.t 0))),
 .ev (some 29) none (.m (.call 216 [.t 28])),
 .ev (some 4) none (.a (.al [.i (.ofNat 0), .i (.ofNat 0), .s [], .l0])),
 .ev none none (.m (.st 4 (.t 4) (.t 29)))])
 (.seq (.reg [.ev (some 30) none (.r (.ld (some 4) (.t 3))),
 .ev (some 31) none (.r (.ld (some 4) (.t 4))),
 .ev (some 32) none (.a (.bsl 4 2 [.i (.ofNat 0), .i (.ofNat 0), .s [], .l0, .i (.ofNat 0), .i (.ofNat 0), .s [], .l0] [(0, 4, .t 30), (4, 4, .t 31)])),
 .ev (some 33) none (.w (.build [.i (.ofNat 0), .i (.ofNat 0), .s [], .l0] [(0, 1, .k (.c (.i (.ofNat 3)))), (3, 1, .t 32)])),
 .ev none none (.m (.st 4 (.t 2) (.t 33)))])
 .ret))))))), [.c (some 4) 2]⟩
theorem c216 : cFn ty ibs (cDraw ty ibs) [[.ev 0, .ev 1, .ev 2, .ev 3, .ev 4, .ev 5, .ev 6, .ev 7]] f216 = some q216 := by decide +kernel
noncomputable def q217 : MFn := ⟨(.seq (.reg [.ev (some 2) none (.a (.al [.i (.ofNat 0), .i (.ofNat 0), .s [], .s [], .l0]))])
 (.seq (.reg [.ev (some 5) none (.w (.mv (.t 0))),
 .ev (some 6) none (.m (.call 35 [.t 5])),
 .ev (some 3) none (.a (.al [.i (.ofNat 0), .s [], .i (.ofNat 0), .i (.ofNat 0)])),
 .ev none none (.m (.st 4 (.t 3) (.t 6)))])
 (.seq (.blk 0 (.seq (.reg [.ev (some 8) none (.w (.mv (.t 0))),
 .ev (some 9) none (.m (.call 100 [.t 8, .k (.c (.s [95]))])),
 .ev (some 7) none (.w (.mv (.t 9)))])
 (.cond (.t 7) (.seq (.reg [.ev (some 10) none (.w (.mv (.t 0))),
 .ev (some 11) none (.m (.call 101 [.t 10]))])
 (.seq (.reg [.ev (some 12) none (.w (.build [.i (.ofNat 0), .i (.ofNat 0), .s [], .s [], .l0] [(0, 1, .k (.c (.i (.ofNat 17))))])),
 .ev none none (.m (.st 5 (.t 2) (.t 12)))])
 .ret)) (.seq (.reg [.ev (some 14) none (.w (.mv (.t 0))),
 .ev (some 15) none (.w (.nilc (.t 14))),
 .ev (some 16) none (.w (.fad 2 (.t 15))),
 .ev (some 17) none (.r (.ld none (.t 16))),
 .ev (some 18) none (.w (.bin .lss (.t 17) (.k (.c (.i (.ofNat 0)))))),
 .ev (some 19) none (.w (.mv (.t 18))),
 .ev (some 20) (some (19, true)) (.w (.fad 0 (.t 3))),
 .ev (some 21) (some (19, true)) (.r (.ld none (.t 20))),
 .ev (some 22) (some (19, true)) (.w (.bin .eql (.t 21) (.k (.c (.i (.ofNat 3)))))),
 .ev (some 23) none (.w (.pick (.t 19) (.t 22) (.k (.c (.b false))))),
 .ev (some 13) none (.w (.mv (.t 23)))])
 (.cond (.t 13) (.seq (.reg [.ev (some 24) none (.w (.mv (.t 0))),
 .ev (some 25) none (.m (.call 101 [.t 24]))])
 (.seq (.reg [.ev (some 26) none (.w (.fad 2 (.t 3))),
 .ev (some 27) none (.r (.ld none (.t 26))),
 .ev (some 28) none (.w (.build [.i (.ofNat 0), .i (.ofNat 0), .s [], .s [], .l0] [(0, 1, .k (.c (.i (.ofNat 19)))), (1, 1, .t 27)])),
 .ev none none (.m (.st 5 (.t 2) (.t 28)))])
 .ret)) (.seq (.reg [.ev (some 30) none (.w (.mv (.t 0))),
 .ev (some 31) none (.m (.call 97 [.t 30])),
 .ev (some 29) none (.w (.mv (.t 31)))])
 (.cond (.t 29) (.seq (.reg [.ev (some 32) none (.w (.mv (.t 0))),
 .ev (some 33) none (.m (.call 101 [.t 32]))])
 (.seq (.reg [.ev (some 34) none (.w (.fad 1 (.t 3))),
 .ev (some 35) none (.r (.ld none (.t 34))),
 .ev (some 36) none (.w (.build [.i (.ofNat 0), .i (.ofNat 0), .s [], .s [], .l0] [(0, 1, .k (.c (.i (.ofNat 18)))), (2, 1, .t 35)])),
 .ev none none (.m (.st 5 (.t 2) (.t 36)))])
 .ret)) (.seq (.reg [.ev (some 38) none (.w (.mv (.t 0))),
 .ev (some 39) none (.m (.call 166 [.t 38])),
 .ev (some 37) none (.w (.mv (.t 39)))])
 (.cond (.t 37) (.seq (.reg [.ev (some 40) none (.w (.mv (.t 0))),
 .ev (some 41) none (.m (.call 101 [.t 40]))])
 (.seq (.reg [.ev (some 42) none (.w (.fad 1 (.t 3))),
 .ev (some 43) none (.r (.ld none (.t 42))),
 .ev (some 44) none (.w (.build [.i (.ofNat 0), .i (.ofNat 0), .s [], .s [], .l0] [(0, 1, .k (.c (.i (.ofNat 20)))), (2, 1, .t 43)])),
 .ev none none (.m (.st 5 (.t 2) (.t 44)))])
 .ret)) .skip)))))))))
 (.seq (.reg [.ev (some 45) none (.w (.mv (.t 0))),
 .ev (some 46) none (.m (.call 98 [.t 45, .k (.c (.s [40]))]))])
 (.seq (.seq (.reg [.ev (some 47) none (.w (.mv (.t 0))),
 .ev (some 48) none (.w (.nilc (.t 47))),
 .ev (some 49) none (.w (.fad 2 (.t 48))),
 .ev (some 50) none (.r (.ld none (.t 49))),
 .ev (some 51) none (.w (.bin .geq (.t 50) (.k (.c (.i (.ofNat 0))))))])
 (.cond (.t 51) (.seq (.reg [.ev (some 52) none (.w (.build [.i (.ofNat 0), .i (.ofNat 0), .s [], .s [], .l0] [])),
 .ev none none (.m (.st 5 (.t 2) (.t 52)))])
 .ret) .skip))
 (.seq (.reg [.ev (some 53) none (.w (.mv (.t 0))),
 .ev (some 54) none (.m (.call 170 [.t 53])),
 .ev (some 4) none (.a (.al [.i (.ofNat 0), .i (.ofNat 0), .s [], .s [], .l0])),
 .ev none none (.m (.st 5 (.t 4) (.t 54)))])
 (.seq (.reg [.ev (some 55) none (.w (.mv (.t 0))),
 .ev (some 56) none (.m (.call 98 [.t 55, .k (.c (.s [41]))]))])
 (.seq (.reg [.ev (some 57) none (.r (.ld (some 5) (.t 4))),
 .ev none none (.m (.st 5 (.t 2) (.t 57)))])
 .ret)))))))), [.c (some 5) 2]⟩
theorem c217 : cFn ty ibs (cDraw ty ibs) [] f217 = some q217 := by decide +kernel
noncomputable def q218 : MFn := ⟨(.seq (.reg [.ev (some 2) none (.w (.mv (.k (.c (.b false)))))])
 (.seq (.reg [.ev (some 3) none (.w (.mv (.t 0))),
 .ev (some 4) none (.m (.call 97 [.t 3])),
 .ev (some 5) none (.w (.mv (.t 4))),
 .ev (some 6) (some (5, false)) (.w (.mv (.t 0))),
 .ev (some 7) (some (5, false)) (.m (.call 166 [.t 6])),
 .ev (some 8) none (.w (.pick (.t 5) (.k (.c (.b true))) (.t 7))),
 .ev (some 9) none (.w (.mv (.t 8))),
 .ev (some 10) (some (9, false)) (.w (.mv (.t 0))),
 .ev (some 11) (some (9, false)) (.m (.call 100 [.t 10, .k (.c (.s [40]))])),
 .ev (some 12) none (.w (.pick (.t 9) (.k (.c (.b true))) (.t 11))),
 .ev (some 13) none (.w (.mv (.t 12))),
 .ev (some 14) (some (13, false)) (.w (.mv (.t 0))),
 .ev (some 15) (some (13, false)) (.w (.nilc (.t 14))),
 .ev (some 16) (some (13, false)) (.w (.fad 2 (.t 15))),
 .ev (some 17) (some (13, false)) (.r (.ld none (.t 16))),
 .ev (some 18) (some (13, false)) (.w (.bin .lss (.t 17) (.k (.c (.i (.ofNat 0)))))),
 .ev (some 19) (some (13, false)) (.w (.mv (.t 18))),
 .ev (some 20) (some (19, true)) (.w (.mv (.t 0))),
 .ev (some 21) (some (19, true)) (.m (.call 35 [.t 20])),
 .ev (some 22) (some (19, true)) (.w (.fld 0 none (.t 21))),
 .ev (some 23) (some (19, true)) (.w (.bin .eql (.t 22) (.k (.c (.i (.ofNat 3)))))),
 .ev (some 24) (some (13, false)) (.w (.pick (.t 19) (.t 23) (.k (.c (.b false))))),
 .ev (some 25) none (.w (.pick (.t 13) (.k (.c (.b true))) (.t 24))),
 .ev (some 2) none (.w (.mv (.t 25)))])
 .ret)), [.t 2]⟩
theorem c218 : cFn ty ibs (cDraw ty ibs) [] f218 = some q218 := by decide +kernel
noncomputable def q219 : MFn := ⟨(.seq (.reg [.ev (some 2) none (.a (.al [.i (.ofNat 0), .i (.ofNat 0), .s [], .s [], .l0]))])
 (.seq (.reg [.ev (some 5) none (.w (.mv (.t 0))),
 .ev (some 6) none (.m (.call 237 [.t 5])),
 .ev (some 3) none (.a (.al [.i (.ofNat 0), .i (.ofNat 0), .s [], .s [], .l0])),
 .ev none none (.m (.st 5 (.t 3) (.t 6)))])
 (.seq (.blk 0 (.loop (.seq (.seq (.reg [.ev (some 7) none (.w (.mv (.t 0))),
 .ev (some 8) none (.m (.call 100 [.t 7, .k (.c (.s [42]))]))])
 (.cond (.t 8) .skip (.exit 0)))
 (.blk 1 (.seq (.reg [.ev (some 9) none (.w (.mv (.t 0))),
 .ev (some 10) none (.m (.call 101 [.t 9]))])
 (.seq (.reg [.ev (some 11) none (.w (.mv (.t 0))),
 .ev (some 12) none (.m (.call 237 [.t 11])),
 .ev (some 4) none (.a (.al [.i (.ofNat 0), .i (.ofNat 0), .s [], .s [], .l0])),
 .ev none none (.m (.st 5 (.t 4) (.t 12)))])
 (.reg [.ev (some 13) none (.r (.ld (some 5) (.t 3))),
 .ev (some 14) none (.r (.ld (some 5) (.t 4))),
 .ev (some 15) none (.a (.bsl 5 2 [.i (.ofNat 0), .i (.ofNat 0), .s [], .s [], .l0, .i (.ofNat 0), .i (.ofNat 0), .s [], .s [], .l0] [(0, 5, .t 13), (5, 5, .t 14)])),
 .ev (some 16) none (.m (.call 105 [.k (.c (.i (.ofNat 12))), .t 15])),
 .ev none none (.m (.st 5 (.t 3) (.t 16)))])))))))
 (.seq (.reg [.ev (some 17) none (.r (.ld (some 5) (.t 3))),
 .ev none none (.m (.st 5 (.t 2) (.t 17)))])
 .ret)))), [.c (some 5) 2]⟩
theorem c219 : cFn ty ibs (cDraw ty ibs) [] f219 = some q219 := by decide +kernel
noncomputable def q220 : MFn := ⟨(.seq (.reg [.ev (some 1) none (.a (.box (.t 0))),
 .ev (some 2) none (.w (.mv (.k (.c (.b false)))))])
 (.seq (.seq (.reg [.ev (some 3) none (.w (.mv (.k (.c (.i (.ofNat 0))))))])
 (.blk 0 (.loop (.seq (.seq (.reg [.ev (some 4) none (.w (.mv (.t 3))),
 .ev (some 5) none (.w (.fad 4 (.t 1))),
 .ev (some 6) none (.r (.ld none (.t 5))),
 .ev (some 7) none (.w (.lnl (.t 6))),
 .ev (some 8) none (.w (.bin .lss (.t 4) (.t 7)))])
 (.cond (.t 8) .skip (.exit 0)))
 (.seq (.blk 1 (.seq (.reg [.ev (some 11) none (.w (.fad 4 (.t 1))),
 .ev (some 12) none (.r (.ld none (.t 11))),
 .ev (some 13) none (.w (.mv (.t 3))),
 .ev (some 14) none (.w (.iad 5 (.t 12) (.t 13))),
 .ev (some 15) none (.r (.ld (some 5) (.t 14))),
 .ev (some 16) none (.m (.call 220 [.t 15])),
 .ev (some 17) none (.w (.un .not (.t 16)))])
 (.cond (.t 17) (.seq (.reg [.ev (some 2) none (.w (.mv (.k (.c (.b false)))))])
 .ret) .skip)))
 (.reg [.ev (some 9) none (.w (.mv (.t 3))),
 .ev (some 10) none (.w (.bin .add (.t 9) (.k (.c (.i (.ofNat 1)))))),
 .ev (some 3) none (.w (.mv (.t 10)))]))))))
 (.seq (.seq (.reg [.ev (some 18) none (.w (.fad 3 (.t 1))),
 .ev (some 19) none (.r (.ld none (.t 18))),
 .ev (some 20) none (.w (.bin .neq (.t 19) (.k (.c (.s []))))),
 .ev (some 21) none (.w (.mv (.t 20))),
 .ev (some 22) (some (21, false)) (.w (.fad 0 (.t 1))),
 .ev (some 23) (some (21, false)) (.r (.ld none (.t 22))),
 .ev (some 24) (some (21, false)) (.w (.bin .neq (.t 23) (.k (.c (.i (.ofNat 20)))))),
 .ev (some 25) (some (21, false)) (.w (.mv (.t 24))),
 .ev (some 26) (some (25, true)) (.w (.fad 4 (.t 1))),
 .ev (some 27) (some (25, true)) (.r (.ld none (.t 26))),
 .ev (some 28) (some (25, true)) (.w (.lnl (.t 27))),
 .ev (some 29) (some (25, true)) (.w (.bin .gtr (.t 28) (.k (.c (.i (.ofNat 0)))))),
 .ev (some 30) (some (21, false)) (.w (.pick (.t 25) (.t 29) (.k (.c (.b false))))),
 .ev (some 31) none (.w (.pick (.t 21) (.k (.c (.b true))) (.t 30))),
 .ev (some 32) none (.w (.mv (.t 31))),
 .ev (some 33) (some (32, false)) (.w (.fad 0 (.t 1))),
 .ev (some 34) (some (32, false)) (.r (.ld none (.t 33))),
 .ev (some 35) (some (32, false)) (.w (.bin .neq (.t 34) (.k (.c (.i (.ofNat 19)))))),
 .ev (some 36) (some (32, false)) (.w (.mv (.t 35))),
 .ev (some 37) (some (36, true)) (.w (.fad 1 (.t 1))),
 .ev (some 38) (some (36, true)) (.r (.ld none (.t 37))),
 .ev (some 39) (some (36, true)) (.w (.bin .neq (.t 38) (.k (.c (.i (.ofNat 0)))))),
 .ev (some 40) (some (32, false)) (.w (.pick (.t 36) (.t 39) (.k (.c (.b false))))),
 .ev (some 41) none (.w (.pick (.t 32) (.k (.c (.b true))) (.t 40)))])
 (.cond (.t 41) (.seq (.reg [.ev (some 2) none (.w (.mv (.k (.c (.b false)))))])
 .ret) .skip))
 (.seq (.seq (.reg [.ev (some 42) none (.w (.fad 0 (.t 1))),
 .ev (some 43) none (.r (.ld none (.t 42)))])
 (.blk 2 (.seq (.reg [.ev (some 45) none (.w (.bin .eql (.t 43) (.k (.c (.i (.ofNat 17)))))),
 .ev (some 44) none (.w (.mv (.t 45)))])
 (.cond (.t 44) (.seq (.reg [.ev (some 46) none (.w (.fad 2 (.t 1))),
 .ev (some 47) none (.r (.ld none (.t 46))),
 .ev (some 48) none (.w (.bin .eql (.t 47) (.k (.c (.s []))))),
 .ev (some 2) none (.w (.mv (.t 48)))])
 .ret) (.seq (.reg [.ev (some 50) none (.w (.bin .eql (.t 43) (.k (.c (.i (.ofNat 18)))))),
 .ev (some 49) none (.w (.mv (.t 50)))])
 (.cond (.t 49) (.seq (.reg [.ev (some 51) none (.w (.fad 2 (.t 1))),
 .ev (some 52) none (.r (.ld none (.t 51))),
 .ev (some 53) none (.m (.call 173 [.t 52])),
 .ev (some 2) none (.w (.mv (.t 53)))])
 .ret) (.seq (.reg [.ev (some 55) none (.w (.bin .eql (.t 43) (.k (.c (.i (.ofNat 19)))))),
 .ev (some 54) none (.w (.mv (.t 55)))])
 (.cond (.t 54) (.seq (.reg [.ev (some 56) none (.w (.fad 2 (.t 1))),
 .ev (some 57) none (.r (.ld none (.t 56))),
 .ev (some 58) none (.w (.bin .eql (.t 57) (.k (.c (.s []))))),
 .ev (some 59) none (.w (.mv (.t 58))),
 .ev (some 60) (some (59, true)) (.w (.fad 1 (.t 1))),
 .ev (some 61) (some (59, true)) (.r (.ld none (.t 60))),
 .ev (some 62) (some (59, true)) (.m (.call 108 [.t 61, .k (.c (.i (.ofNat 0))), .k (.c (.i (.ofNat 1073741823)))])),
 .ev (some 63) none (.w (.pick (.t 59) (.t 62) (.k (.c (.b false))))),
 .ev (some 2) none (.w (.mv (.t 63)))])
 .ret) (.seq (.reg [.ev (some 65) none (.w (.bin .eql (.t 43) (.k (.c (.i (.ofNat 20)))))),
 .ev (some 64) none (.w (.mv (.t 65)))])
 (.cond (.t 64) (.seq (.reg [.ev (some 66) none (.w (.fad 2 (.t 1))),
 .ev (some 67) none (.r (.ld none (.t 66))),
 .ev (some 68) none (.m (.call 107 [.t 67])),
 .ev (some 2) none (.w (.mv (.t 68)))])
 .ret) .skip))))))))))
 (.seq (.reg [.ev (some 2) none (.w (.mv (.k (.c (.b false)))))])
 .ret))))), [.t 2]⟩
theorem c220 : cFn ty ibs (cDraw ty ibs) [] f220 = some q220 := by decide +kernel
noncomputable def q221 : MFn := ⟨(.seq (.reg [.ev (some 4) none (.a (.box (.t 1))),
 .ev (some 5) none (.a (.box (.t 2))),
 .ev (some 6) none (.w (.mv (.k (.c .l0)))),
 .ev (some 7) none (.w (.mv (.k (.c (.b false)))))])
 (.seq (.reg [.ev (some 15) none (.w (.mv (.t 0))),
 .ev (some 16) none (.r (.ld (some 4) (.t 4))),
 .ev (some 17) none (.m (.call 44 [.t 15, .t 16])),
 .ev none none (.m (.st 4 (.t 4) (.t 17)))])
 (.seq (.reg [.ev (some 18) none (.w (.mv (.t 0))),
 .ev (some 19) none (.r (.ld (some 4) (.t 5))),
 .ev (some 20) none (.m (.call 44 [.t 18, .t 19])),
 .ev none none (.m (.st 4 (.t 5) (.t 20)))])
 (.seq (.seq (.reg [.ev (some 21) none (.r (.ld (some 4) (.t 4))),
 .ev (some 22) none (.m (.call 225 [.t 21])),
 .ev (some 23) none (.w (.bin .gtr (.t 22) (.k (.c (.i (.ofNat 200)))))),
 .ev (some 24) none (.w (.mv (.t 23))),
 .ev (some 25) (some (24, false)) (.r (.ld (some 4) (.t 5))),
 .ev (some 26) (some (24, false)) (.m (.call 225 [.t 25])),
 .ev (some 27) (some (24, false)) (.w (.bin .gtr (.t 26) (.k (.c (.i (.ofNat 200)))))),
 .ev (some 28) none (.w (.pick (.t 24) (.k (.c (.b true))) (.t 27)))])
 (.cond (.t 28) (.seq (.reg [.ev (some 29) none (.w (.mv (.t 0))),
 .ev (some 6) none (.w (.mv (.t 29))),
 .ev (some 7) none (.w (.mv (.k (.c (.b false)))))])
 .ret) .skip))
 (.seq (.blk 0 (.seq (.reg [.ev (some 31) none (.w (.fad 0 (.t 4))),
 .ev (some 32) none (.r (.ld none (.t 31))),
 .ev (some 33) none (.w (.bin .eql (.t 32) (.k (.c (.i (.ofNat 2)))))),
 .ev (some 34) none (.w (.mv (.t 33))),
 .ev (some 35) (some (34, true)) (.w (.fad 0 (.t 5))),
 .ev (some 36) (some (34, true)) (.r (.ld none (.t 35))),
 .ev (some 37) (some (34, true)) (.w (.bin .eql (.t 36) (.k (.c (.i (.ofNat 2)))))),
 .ev (some 38) none (.w (.pick (.t 34) (.t 37) (.k (.c (.b false))))),
 .ev (some 39) none (.w (.mv (.t 38))),
 .ev (some 40) (some (39, true)) (.w (.fad 1 (.t 4))),
 .ev (some 41) (some (39, true)) (.r (.ld none (.t 40))),
 .ev (some 42) (some (39, true)) (.w (.fad 1 (.t 5))),
 .ev (some 43) (some (39, true)) (.r (.ld none (.t 42))),
 .ev (some 44) (some (39, true)) (.w (.bin .eql (.t 41) (.t 43))),
 .ev (some 45) none (.w (.pick (.t 39) (.t 44) (.k (.c (.b false))))),
 .ev (some 30) none (.w (.mv (.t 45)))])
 (.cond (.t 30) (.seq (.reg [.ev (some 46) none (.w (.mv (.t 0))),
 .ev (some 6) none (.w (.mv (.t 46))),
 .ev (some 7) none (.w (.mv (.k (.c (.b true)))))])
 .ret) (.seq (.reg [.ev (some 48) none (.w (.fad 0 (.t 4))),
 .ev (some 49) none (.r (.ld none (.t 48))),
 .ev (some 50) none (.w (.bin .eql (.t 49) (.k (.c (.i (.ofNat 2)))))),
 .ev (some 47) none (.w (.mv (.t 50)))])
 (.cond (.t 47) (.seq (.seq (.reg [.ev (some 51) none (.r (.ld (some 4) (.t 5))),
 .ev (some 52) none (.w (.fad 1 (.t 4))),
 .ev (some 53) none (.r (.ld none (.t 52))),
 .ev (some 54) none (.m (.call 238 [.t 51, .t 53]))])
 (.cond (.t 54) (.seq (.reg [.ev (some 55) none (.w (.mv (.t 0))),
 .ev (some 6) none (.w (.mv (.t 55))),
 .ev (some 7) none (.w (.mv (.k (.c (.b false)))))])
 .ret) .skip))
 (.seq (.reg [.ev (some 57) none (.w (.mv (.t 0))),
 .ev (some 58) none (.w (.fad 1 (.t 4))),
 .ev (some 59) none (.r (.ld none (.t 58))),
 .ev (some 60) none (.r (.ld (some 4) (.t 5))),
 .ev (some 61) none (.m (.call 239 [.t 57, .t 59, .t 60])),
 .ev (some 56) none (.w (.mv (.t 61))),
 .ev (some 62) none (.w (.ext 0 (.t 56))),
 .ev (some 63) none (.w (.ext 1 (.t 56))),
 .ev (some 8) none (.w (.mv (.t 62))),
 .ev (some 9) none (.w (.mv (.t 63)))])
 (.seq (.reg [.ev (some 64) none (.w (.mv (.t 8))),
 .ev (some 65) none (.w (.mv (.t 9))),
 .ev (some 6) none (.w (.mv (.t 64))),
 .ev (some 7) none (.w (.mv (.t 65)))])
 .ret))) (.seq (.reg [.ev (some 67) none (.w (.fad 0 (.t 5))),
 .ev (some 68) none (.r (.ld none (.t 67))),
 .ev (some 69) none (.w (.bin .eql (.t 68) (.k (.c (.i (.ofNat 2)))))),
 .ev (some 66) none (.w (.mv (.t 69)))])
 (.cond (.t 66) (.seq (.seq (.reg [.ev (some 70) none (.r (.ld (some 4) (.t 4))),
 .ev (some 71) none (.w (.fad 1 (.t 5))),
 .ev (some 72) none (.r (.ld none (.t 71))),
 .ev (some 73) none (.m (.call 238 [.t 70, .t 72]))])
 (.cond (.t 73) (.seq (.reg [.ev (some 74) none (.w (.mv (.t 0))),
 .ev (some 6) none (.w (.mv (.t 74))),
 .ev (some 7) none (.w (.mv (.k (.c (.b false)))))])
 .ret) .skip))
 (.seq (.reg [.ev (some 76) none (.w (.mv (.t 0))),
 .ev (some 77) none (.w (.fad 1 (.t 5))),
 .ev (some 78) none (.r (.ld none (.t 77))),
 .ev (some 79) none (.r (.ld (some 4) (.t 4))),
 .ev (some 80) none (.m (.call 239 [.t 76, .t 78, .t 79])),
 .ev (some 75) none (.w (.mv (.t 80))),
 .ev (some 81) none (.w (.ext 0 (.t 75))),
 .ev (some 82) none (.w (.ext 1 (.t 75))),
 .ev (some 10) none (.w (.mv (.t 81))),
 .ev (some 11) none (.w (.mv (.t 82)))])
 (.seq (.reg [.ev (some 83) none (.w (.mv (.t 10))),
 .ev (some 84) none (.w (.mv (.t 11))),
 .ev (some 6) none (.w (.mv (.t 83))),
 .ev (some 7) none (.w (.mv (.t 84)))])
 .ret))) (.seq (.reg [.ev (some 86) none (.w (.fad 0 (.t 4))),
 .ev (some 87) none (.r (.ld none (.t 86))),
 .ev (some 88) none (.w (.fad 0 (.t 5))),
 .ev (some 89) none (.r (.ld none (.t 88))),
 .ev (some 90) none (.w (.bin .neq (.t 87) (.t 89))),
 .ev (some 91) none (.w (.mv (.t 90))),
 .ev (some 92) (some (91, false)) (.w (.fad 2 (.t 4))),
 .ev (some 93) (some (91, false)) (.r (.ld none (.t 92))),
 .ev (some 94) (some (91, false)) (.w (.fad 2 (.t 5))),
 .ev (some 95) (some (91, false)) (.r (.ld none (.t 94))),
 .ev (some 96) (some (91, false)) (.w (.bin .neq (.t 93) (.t 95))),
 .ev (some 97) none (.w (.pick (.t 91) (.k (.c (.b true))) (.t 96))),
 .ev (some 98) none (.w (.mv (.t 97))),
 .ev (some 99) (some (98, false)) (.w (.fad 3 (.t 4))),
 .ev (some 100) (some (98, false)) (.r (.ld none (.t 99))),
 .ev (some 101) (some (98, false)) (.w (.lnl (.t 100))),
 .ev (some 102) (some (98, false)) (.w (.fad 3 (.t 5))),
 .ev (some 103) (some (98, false)) (.r (.ld none (.t 102))),
 .ev (some 104) (some (98, false)) (.w (.lnl (.t 103))),
 .ev (some 105) (some (98, false)) (.w (.bin .neq (.t 101) (.t 104))),
 .ev (some 106) none (.w (.pick (.t 98) (.k (.c (.b true))) (.t 105))),
 .ev (some 85) none (.w (.mv (.t 106)))])
 (.cond (.t 85) (.seq (.reg [.ev (some 107) none (.w (.mv (.t 0))),
 .ev (some 6) none (.w (.mv (.t 107))),
 .ev (some 7) none (.w (.mv (.k (.c (.b false)))))])
 .ret) .skip)))))))))
 (.seq (.seq (.reg [.ev (some 12) none (.w (.mv (.k (.c (.i (.ofNat 0))))))])
 (.blk 1 (.loop (.seq (.seq (.reg [.ev (some 108) none (.w (.mv (.t 12))),
 .ev (some 109) none (.w (.fad 3 (.t 4))),
 .ev (some 110) none (.r (.ld none (.t 109))),
 .ev (some 111) none (.w (.lnl (.t 110))),
 .ev (some 112) none (.w (.bin .lss (.t 108) (.t 111)))])
 (.cond (.t 112) .skip (.exit 1)))
 (.seq (.blk 2 (.seq (.reg [.ev (some 116) none (.w (.mv (.t 0))),
 .ev (some 117) none (.w (.fad 3 (.t 4))),
 .ev (some 118) none (.r (.ld none (.t 117))),
 .ev (some 119) none (.w (.mv (.t 12))),
 .ev (some 120) none (.w (.iad 4 (.t 118) (.t 119))),
 .ev (some 121) none (.r (.ld (some 4) (.t 120))),
 .ev (some 122) none (.w (.fad 3 (.t 5))),
 .ev (some 123) none (.r (.ld none (.t 122))),
 .ev (some 124) none (.w (.mv (.t 12))),
 .ev (some 125) none (.w (.iad 4 (.t 123) (.t 124))),
 .ev (some 126) none (.r (.ld (some 4) (.t 125))),
 .mk (some 127) none (.call 221 [.t 116, .t 121, .t 126]) [] [],
 .ev (some 115) none (.w (.mv (.t 127))),
 .ev (some 128) none (.w (.ext 0 (.t 115))),
 .ev (some 129) none (.w (.ext 1 (.t 115))),
 .ev (some 13) none (.w (.mv (.t 128))),
 .ev (some 14) none (.w (.mv (.t 129)))])
 (.seq (.seq (.reg [.ev (some 130) none (.w (.mv (.t 14))),
 .ev (some 131) none (.w (.un .not (.t 130)))])
 (.cond (.t 131) (.seq (.reg [.ev (some 132) none (.w (.mv (.t 13))),
 .ev (some 6) none (.w (.mv (.t 132))),
 .ev (some 7) none (.w (.mv (.k (.c (.b false)))))])
 .ret) .skip))
 (.reg [.ev (some 133) none (.w (.mv (.t 13))),
 .ev (some 0) none (.w (.mv (.t 133)))]))))
 (.reg [.ev (some 113) none (.w (.mv (.t 12))),
 .ev (some 114) none (.w (.bin .add (.t 113) (.k (.c (.i (.ofNat 1)))))),
 .ev (some 12) none (.w (.mv (.t 114)))]))))))
 (.seq (.reg [.ev (some 134) none (.w (.mv (.t 0))),
 .ev (some 6) none (.w (.mv (.t 134))),
 .ev (some 7) none (.w (.mv (.k (.c (.b true)))))])
 .ret))))))), [.t 6, .t 7]⟩
theorem c221 : cFn ty ibs (cDraw ty ibs) [[.ev 0, .ev 1, .ev 2, .ev 3, .ev 4, .ev 5, .ev 6, .ev 7, .ev 8, .ev 9, .ev 10, .ev 11, .ev 12, .ev 13, .ev 14, .ev 15, .ev 16]] f221 = some q221 := by decide +kernel
noncomputable def q222 : MFn := ⟨(.seq (.reg [.ev (some 5) none (.a (.box (.t 2))),
 .ev (some 6) none (.a (.al [.l0, .i (.ofNat 0), .i (.ofNat 0), .s [], .l0]))])
 (.seq (.reg [.ev (some 11) none (.a (.bsl 5 0 [] [])),
 .ev (some 7) none (.w (.mv (.t 11)))])
 (.seq (.seq (.reg [.ev (some 8) none (.w (.mv (.k (.c (.i (.ofNat 0))))))])
 (.blk 0 (.loop (.seq (.seq (.reg [.ev (some 12) none (.w (.mv (.t 8))),
 .ev (some 13) none (.w (.mv (.t 1))),
 .ev (some 14) none (.w (.lnl (.t 13))),
 .ev (some 15) none (.w (.bin .lss (.t 12) (.t 14)))])
 (.cond (.t 15) .skip (.exit 0)))
 (.seq (.blk 1 (.seq (.reg [.ev (some 18) none (.a (.bsl 5 0 [] [])),
 .ev (some 9) none (.w (.mv (.t 18)))])
 (.seq (.seq (.reg [.ev (some 10) none (.w (.mv (.k (.c (.i (.ofNat 0))))))])
 (.blk 2 (.loop (.seq (.seq (.reg [.ev (some 19) none (.w (.mv (.t 10))),
 .ev (some 20) none (.w (.mv (.t 0))),
 .ev (some 21) none (.w (.nilc (.t 20))),
 .ev (some 22) none (.w (.fad 1 (.t 21))),
 .ev (some 23) none (.r (.ld none (.t 22))),
 .ev (some 24) none (.w (.lnl (.t 23))),
 .ev (some 25) none (.w (.bin .lss (.t 19) (.t 24)))])
 (.cond (.t 25) .skip (.exit 2)))
 (.seq (.blk 3 (.seq (.reg [.ev (some 28) none (.w (.mv (.t 1))),
 .ev (some 29) none (.w (.mv (.t 8))),
 .ev (some 30) none (.w (.iad 6 (.t 28) (.t 29))),
 .ev (some 31) none (.w (.fad 1 (.t 30))),
 .ev (some 32) none (.w (.fad 0 (.t 31))),
 .ev (some 33) none (.r (.ld none (.t 32))),
 .ev (some 34) none (.w (.mv (.t 0))),
 .ev (some 35) none (.w (.nilc (.t 34))),
 .ev (some 36) none (.w (.fad 1 (.t 35))),
 .ev (some 37) none (.r (.ld none (.t 36))),
 .ev (some 38) none (.w (.mv (.t 10))),
 .ev (some 39) none (.w (.iad 5 (.t 37) (.t 38))),
 .ev (some 40) none (.w (.fad 0 (.t 39))),
 .ev (some 41) none (.r (.ld none (.t 40))),
 .mk (some 42) none (.call 119 [.t 33, .t 41]) [] [],
 .ev (some 43) none (.w (.un .not (.t 42)))])
 (.cond (.t 43) (.reg [.ev (some 44) none (.w (.mv (.t 9))),
 .ev (some 45) none (.w (.mv (.t 0))),
 .ev (some 46) none (.w (.nilc (.t 45))),
 .ev (some 47) none (.w (.fad 1 (.t 46))),
 .ev (some 48) none (.r (.ld none (.t 47))),
 .ev (some 49) none (.w (.mv (.t 10))),
 .ev (some 50) none (.w (.iad 5 (.t 48) (.t 49))),
 .ev (some 51) none (.r (.ld (some 5) (.t 50))),
 .ev (some 52) none (.a (.bsl 5 1 [.i (.ofNat 0), .i (.ofNat 0), .i (.ofNat 0), .s [], .l0] [(0, 5, .t 51)])),
 .ev (some 53) none (.m (.app 5 64 (.t 44) (.t 52))),
 .ev (some 9) none (.w (.mv (.t 53)))]) .skip)))
 (.reg [.ev (some 26) none (.w (.mv (.t 10))),
 .ev (some 27) none (.w (.bin .add (.t 26) (.k (.c (.i (.ofNat 1)))))),
 .ev (some 10) none (.w (.mv (.t 27)))]))))))
 (.reg [.ev (some 54) none (.w (.mv (.t 7))),
 .ev (some 55) none (.w (.mv (.t 1))),
 .ev (some 56) none (.w (.mv (.t 8))),
 .ev (some 57) none (.w (.iad 6 (.t 55) (.t 56))),
 .ev (some 58) none (.w (.fad 1 (.t 57))),
 .ev (some 59) none (.w (.fad 0 (.t 58))),
 .ev (some 60) none (.r (.ld none (.t 59))),
 .ev (some 61) none (.w (.mv (.t 9))),
 .ev (some 62) none (.w (.mv (.t 1))),
 .ev (some 63) none (.w (.mv (.t 8))),
 .ev (some 64) none (.w (.iad 6 (.t 62) (.t 63))),
 .ev (some 65) none (.w (.fad 1 (.t 64))),
 .ev (some 66) none (.w (.fad 1 (.t 65))),
 .ev (some 67) none (.r (.ld (some 4) (.t 66))),
 .mk (some 68) none (.call 44 [.t 61, .t 67]) [(60, .ld none (.t 59))] [],
 .ev (some 69) none (.w (.build [.l0, .i (.ofNat 0), .i (.ofNat 0), .s [], .l0] [(0, 1, .t 60), (1, 4, .t 68)])),
 .ev (some 70) none (.a (.bsl 5 1 [.l0, .i (.ofNat 0), .i (.ofNat 0), .s [], .l0] [(0, 5, .t 69)])),
 .mk (some 71) none (.app 5 80 (.t 54) (.t 70)) [] [],
 .ev (some 7) none (.w (.mv (.t 71)))]))))
 (.reg [.ev (some 16) none (.w (.mv (.t 8))),
 .ev (some 17) none (.w (.bin .add (.t 16) (.k (.c (.i (.ofNat 1)))))),
 .ev (some 8) none (.w (.mv (.t 17)))]))))))
 (.seq (.reg [.ev (some 72) none (.w (.mv (.t 0))),
 .ev (some 73) none (.w (.nilc (.t 72))),
 .ev (some 74) none (.w (.fad 1 (.t 73))),
 .ev (some 75) none (.r (.ld none (.t 74))),
 .ev (some 76) none (.r (.ld (some 4) (.t 5))),
 .mk (some 77) none (.call 44 [.t 75, .t 76]) [] [],
 .mk none none (.st 4 (.t 5) (.t 77)) [] []])
 (.seq (.reg [.ev (some 78) none (.w (.mv (.t 7))),
 .ev (some 79) none (.r (.ld (some 4) (.t 5))),
 .ev (some 81) none (.r (.ld (some 4) (.t 5))),
 .mk (some 80) none (.call 240 [.t 78, .t 79]) [(81, .ld (some 4) (.t 5))] [],
 .ev (some 82) none (.w (.build [.l0, .i (.ofNat 0), .i (.ofNat 0), .s [], .l0] [(0, 1, .t 80), (1, 4, .t 81)])),
 .mk none none (.st 5 (.t 6) (.t 82)) [] []])
 .ret))))), [.c (some 5) 6]⟩
theorem c222 : cFn ty ibs (cDraw ty ibs) [[.ev 0, .ev 1, .ev 2, .ev 3, .ev 4, .ev 5, .ev 6, .ev 7, .ev 8, .ev 9, .ev 10, .ev 11, .ev 12, .ev 13, .ev 14, .ev 15], [.ev 0, .ev 1, .ev 2, .ev 3, .ev 4, .ev 5, .ev 6, .ev 7, .ev 8, .ev 9, .ev 10, .ev 11, .ev 12, .ev 13, .ev 14, .ev 15, .ev 16, .ev 17, .ev 18], [.ev 0, .ev 1, .ev 2, .ev 3, .ev 4, .ev 5, .ev 6], [.ev 0, .ev 1, .ev 3, .ev 2, .ev 4, .ev 5]] f222 = some q222 := by decide +kernel
end Go.Ev
