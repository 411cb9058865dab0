/-
The table: functions in the evaluator's form, each checked against the program.
-/
import Derived.Test.YtjidglpldjcmdaaGreatEvTb0
set_option linter.unusedVariables false
set_option maxRecDepth 1000000
namespace Go.Ev
open Go Go.Proofs.Tryz

noncomputable def q166 : MFn := ⟨(.seq (.reg [.ev (some 2) none (.w (.mv (.k (.c (.b false)))))])
 (.seq (.reg [.ev (some 4) none (.w (.mv (.t 0))),
 .ev (some 5) none (.m (.call 35 [.t 4])),
 .ev (some 3) none (.a (.al [.i (.ofNat 0), .s [], .i (.ofNat 0), .i (.ofNat 0)])),
 .ev none none (.m (.st 4 (.t 3) (.t 5)))])
 (.seq (.reg [.ev (some 6) none (.w (.mv (.t 0))),
 .ev (some 7) none (.w (.nilc (.t 6))),
 .ev (some 8) none (.w (.fad 2 (.t 7))),
 .ev (some 9) none (.r (.ld none (.t 8))),
 .ev (some 10) none (.w (.bin .lss (.t 9) (.k (.c (.i (.ofNat 0)))))),
 .ev (some 11) none (.w (.mv (.t 10))),
 .ev (some 12) (some (11, true)) (.w (.fad 0 (.t 3))),
 .ev (some 13) (some (11, true)) (.r (.ld none (.t 12))),
 .ev (some 14) (some (11, true)) (.w (.bin .eql (.t 13) (.k (.c (.i (.ofNat 2)))))),
 .ev (some 15) none (.w (.pick (.t 11) (.t 14) (.k (.c (.b false))))),
 .ev (some 16) none (.w (.mv (.t 15))),
 .ev (some 17) (some (16, true)) (.w (.fad 1 (.t 3))),
 .ev (some 18) (some (16, true)) (.r (.ld none (.t 17))),
 .ev (some 19) (some (16, true)) (.w (.bin .neq (.t 18) (.k (.c (.s [73, 110, 116]))))),
 .ev (some 20) none (.w (.pick (.t 16) (.t 19) (.k (.c (.b false))))),
 .ev (some 2) none (.w (.mv (.t 20)))])
 .ret))), [.t 2]⟩
theorem c166 : cFn ty ibs (cDraw ty ibs) [] f166 = some q166 := by decide +kernel
noncomputable def q167 : MFn := ⟨(.seq (.reg [.ev (some 2) none (.w (.mv (.k (.c (.b false)))))])
 (.seq (.reg [.ev (some 3) none (.a (.bsl 1 11 [.s [], .s [], .s [], .s [], .s [], .s [], .s [], .s [], .s [], .s [], .s []] [(0, 1, .k (.c (.s [100, 97, 116, 97]))), (1, 1, .k (.c (.s [108, 101, 116]))), (2, 1, .k (.c (.s [114, 101, 99]))), (3, 1, .k (.c (.s [105, 110]))), (4, 1, .k (.c (.s [102, 117, 110]))), (5, 1, .k (.c (.s [99, 97, 115, 101]))), (6, 1, .k (.c (.s [111, 102]))), (7, 1, .k (.c (.s [105, 102]))), (8, 1, .k (.c (.s [116, 104, 101, 110]))), (9, 1, .k (.c (.s [101, 108, 115, 101]))), (10, 1, .k (.c (.s [112, 117, 116])))])),
 .ev (some 4) none (.w (.mv (.t 0))),
 .ev (some 5) none (.m (.call 214 [.t 3, .t 4])),
 .ev (some 2) none (.w (.mv (.t 5)))])
 .ret)), [.t 2]⟩
theorem c167 : cFn ty ibs (cDraw ty ibs) [] f167 = some q167 := by decide +kernel
noncomputable def q168 : MFn := ⟨(.seq (.reg [.ev (some 2) none (.w (.mv (.k (.c (.b false)))))])
 (.seq (.reg [.ev (some 4) none (.w (.mv (.t 0))),
 .ev (some 5) none (.m (.call 35 [.t 4])),
 .ev (some 3) none (.a (.al [.i (.ofNat 0), .s [], .i (.ofNat 0), .i (.ofNat 0)])),
 .ev none none (.m (.st 4 (.t 3) (.t 5)))])
 (.seq (.reg [.ev (some 6) none (.w (.mv (.t 0))),
 .ev (some 7) none (.m (.call 97 [.t 6])),
 .ev (some 8) none (.w (.mv (.t 7))),
 .ev (some 9) (some (8, false)) (.w (.mv (.t 0))),
 .ev (some 10) (some (8, false)) (.w (.nilc (.t 9))),
 .ev (some 11) (some (8, false)) (.w (.fad 2 (.t 10))),
 .ev (some 12) (some (8, false)) (.r (.ld none (.t 11))),
 .ev (some 13) (some (8, false)) (.w (.bin .lss (.t 12) (.k (.c (.i (.ofNat 0)))))),
 .ev (some 14) (some (8, false)) (.w (.mv (.t 13))),
 .ev (some 15) (some (14, true)) (.w (.fad 0 (.t 3))),
 .ev (some 16) (some (14, true)) (.r (.ld none (.t 15))),
 .ev (some 17) (some (14, true)) (.w (.bin .eql (.t 16) (.k (.c (.i (.ofNat 2)))))),
 .ev (some 18) (some (8, false)) (.w (.pick (.t 14) (.t 17) (.k (.c (.b false))))),
 .ev (some 19) none (.w (.pick (.t 8) (.k (.c (.b true))) (.t 18))),
 .ev (some 20) none (.w (.mv (.t 19))),
 .ev (some 21) (some (20, false)) (.w (.mv (.t 0))),
 .ev (some 22) (some (20, false)) (.m (.call 100 [.t 21, .k (.c (.s [40]))])),
 .ev (some 23) none (.w (.pick (.t 20) (.k (.c (.b true))) (.t 22))),
 .ev (some 2) none (.w (.mv (.t 23)))])
 .ret))), [.t 2]⟩
theorem c168 : cFn ty ibs (cDraw ty ibs) [] f168 = some q168 := by decide +kernel
noncomputable def q169 : MFn := ⟨(.seq (.reg [.ev (some 2) none (.a (.al [.i (.ofNat 0), .i (.ofNat 0), .s [], .l0]))])
 (.seq (.reg [.ev (some 5) none (.w (.mv (.t 0))),
 .ev (some 6) none (.m (.call 35 [.t 5])),
 .ev (some 3) none (.a (.al [.i (.ofNat 0), .s [], .i (.ofNat 0), .i (.ofNat 0)])),
 .ev none none (.m (.st 4 (.t 3) (.t 6)))])
 (.seq (.blk 0 (.seq (.reg [.ev (some 8) none (.w (.mv (.t 0))),
 .ev (some 9) none (.m (.call 97 [.t 8])),
 .ev (some 7) none (.w (.mv (.t 9)))])
 (.cond (.t 7) (.seq (.reg [.ev (some 10) none (.w (.mv (.t 0))),
 .ev (some 11) none (.m (.call 101 [.t 10]))])
 (.seq (.reg [.ev (some 12) none (.w (.mv (.t 0))),
 .ev (some 13) none (.w (.fad 1 (.t 3))),
 .ev (some 14) none (.r (.ld none (.t 13))),
 .ev (some 15) none (.m (.call 215 [.t 12, .t 14])),
 .ev (some 16) none (.w (.build [.i (.ofNat 0), .i (.ofNat 0), .s [], .l0] [(0, 1, .k (.c (.i (.ofNat 2)))), (1, 1, .t 15)])),
 .ev none none (.m (.st 4 (.t 2) (.t 16)))])
 .ret)) (.seq (.reg [.ev (some 18) none (.w (.mv (.t 0))),
 .ev (some 19) none (.m (.call 166 [.t 18])),
 .ev (some 17) none (.w (.mv (.t 19)))])
 (.cond (.t 17) (.seq (.reg [.ev (some 20) none (.w (.mv (.t 0))),
 .ev (some 21) none (.m (.call 101 [.t 20]))])
 (.seq (.reg [.ev (some 22) none (.w (.fad 1 (.t 3))),
 .ev (some 23) none (.r (.ld none (.t 22))),
 .ev (some 24) none (.w (.build [.i (.ofNat 0), .i (.ofNat 0), .s [], .l0] [(0, 1, .k (.c (.i (.ofNat 4)))), (2, 1, .t 23)])),
 .ev none none (.m (.st 4 (.t 2) (.t 24)))])
 .ret)) (.seq (.reg [.ev (some 26) none (.w (.mv (.t 0))),
 .ev (some 27) none (.w (.nilc (.t 26))),
 .ev (some 28) none (.w (.fad 2 (.t 27))),
 .ev (some 29) none (.r (.ld none (.t 28))),
 .ev (some 30) none (.w (.bin .lss (.t 29) (.k (.c (.i (.ofNat 0)))))),
 .ev (some 31) none (.w (.mv (.t 30))),
 .ev (some 32) (some (31, true)) (.w (.fad 0 (.t 3))),
 .ev (some 33) (some (31, true)) (.r (.ld none (.t 32))),
 .ev (some 34) (some (31, true)) (.w (.bin .eql (.t 33) (.k (.c (.i (.ofNat 2)))))),
 .ev (some 35) none (.w (.pick (.t 31) (.t 34) (.k (.c (.b false))))),
 .ev (some 25) none (.w (.mv (.t 35)))])
 (.cond (.t 25) (.seq (.reg [.ev (some 36) none (.w (.mv (.t 0))),
 .ev (some 37) none (.m (.call 101 [.t 36]))])
 (.seq (.reg [.ev (some 38) none (.w (.build [.i (.ofNat 0), .i (.ofNat 0), .s [], .l0] [(0, 1, .k (.c (.i (.ofNat 1))))])),
 .ev none none (.m (.st 4 (.t 2) (.t 38)))])
 .ret)) .skip)))))))
 (.seq (.reg [.ev (some 39) none (.w (.mv (.t 0))),
 .ev (some 40) none (.m (.call 98 [.t 39, .k (.c (.s [40]))]))])
 (.seq (.seq (.reg [.ev (some 41) none (.w (.mv (.t 0))),
 .ev (some 42) none (.w (.nilc (.t 41))),
 .ev (some 43) none (.w (.fad 2 (.t 42))),
 .ev (some 44) none (.r (.ld none (.t 43))),
 .ev (some 45) none (.w (.bin .geq (.t 44) (.k (.c (.i (.ofNat 0))))))])
 (.cond (.t 45) (.seq (.reg [.ev (some 46) none (.w (.build [.i (.ofNat 0), .i (.ofNat 0), .s [], .l0] [])),
 .ev none none (.m (.st 4 (.t 2) (.t 46)))])
 .ret) .skip))
 (.seq (.reg [.ev (some 47) none (.w (.mv (.t 0))),
 .ev (some 48) none (.m (.call 216 [.t 47])),
 .ev (some 4) none (.a (.al [.i (.ofNat 0), .i (.ofNat 0), .s [], .l0])),
 .ev none none (.m (.st 4 (.t 4) (.t 48)))])
 (.seq (.reg [.ev (some 49) none (.w (.mv (.t 0))),
 .ev (some 50) none (.m (.call 98 [.t 49, .k (.c (.s [41]))]))])
 (.seq (.reg [.ev (some 51) none (.r (.ld (some 4) (.t 4))),
 .ev none none (.m (.st 4 (.t 2) (.t 51)))])
 .ret)))))))), [.c (some 4) 2]⟩
theorem c169 : cFn ty ibs (cDraw ty ibs) [] f169 = some q169 := by decide +kernel
noncomputable def q170 : MFn := ⟨(.seq (.reg [.ev (some 2) none (.a (.al [.i (.ofNat 0), .i (.ofNat 0), .s [], .s [], .l0]))])
 (.seq (.seq (.reg [.ev (some 4) none (.w (.mv (.t 0))),
 .ev (some 5) none (.m (.call 166 [.t 4])),
 .ev (some 6) none (.w (.un .not (.t 5)))])
 (.cond (.t 6) (.seq (.reg [.ev (some 7) none (.w (.mv (.t 0))),
 .ev (some 8) none (.m (.call 217 [.t 7])),
 .ev none none (.m (.st 5 (.t 2) (.t 8)))])
 .ret) .skip))
 (.seq (.reg [.ev (some 9) none (.w (.mv (.t 0))),
 .ev (some 10) none (.m (.call 96 [.t 9, .k (.c (.b true))])),
 .ev (some 11) none (.w (.build [.i (.ofNat 0), .i (.ofNat 0), .s [], .s [], .l0] [(0, 1, .k (.c (.i (.ofNat 20)))), (2, 1, .t 10)])),
 .ev (some 3) none (.a (.al [.i (.ofNat 0), .i (.ofNat 0), .s [], .s [], .l0])),
 .ev none none (.m (.st 5 (.t 3) (.t 11)))])
 (.seq (.blk 0 (.loop (.seq (.seq (.reg [.ev (some 12) none (.w (.mv (.t 0))),
 .ev (some 13) none (.m (.call 218 [.t 12])),
 .ev (some 14) none (.w (.mv (.t 13))),
 .ev (some 15) (some (14, false)) (.w (.mv (.t 0))),
 .ev (some 16) (some (14, false)) (.m (.call 100 [.t 15, .k (.c (.s [95]))])),
 .ev (some 17) none (.w (.pick (.t 14) (.k (.c (.b true))) (.t 16)))])
 (.cond (.t 17) .skip (.exit 0)))
 (.blk 1 (.reg [.ev (some 18) none (.w (.fad 4 (.t 3))),
 .ev (some 19) none (.r (.ld none (.t 18))),
 .ev (some 20) none (.w (.mv (.t 0))),
 .mk (some 21) none (.call 217 [.t 20]) [(19, .ld none (.t 18))] [],
 .ev (some 22) none (.a (.bsl 5 1 [.i (.ofNat 0), .i (.ofNat 0), .s [], .s [], .l0] [(0, 5, .t 21)])),
 .mk (some 23) none (.app 5 72 (.t 19) (.t 22)) [] [],
 .ev (some 24) none (.w (.fad 4 (.t 3))),
 .mk none none (.st 1 (.t 24) (.t 23)) [] []])))))
 (.seq (.reg [.ev (some 25) none (.r (.ld (some 5) (.t 3))),
 .ev none none (.m (.st 5 (.t 2) (.t 25)))])
 .ret))))), [.c (some 5) 2]⟩
theorem c170 : cFn ty ibs (cDraw ty ibs) [[.ev 0, .ev 1, .ev 2, .ev 3, .ev 4, .ev 5, .ev 6, .ev 7]] f170 = some q170 := by decide +kernel
noncomputable def q171 : MFn := ⟨(.seq (.reg [.ev (some 2) none (.a (.al [.i (.ofNat 0), .i (.ofNat 0), .s [], .s [], .l0]))])
 (.seq (.reg [.ev (some 6) none (.w (.mv (.t 0))),
 .ev (some 7) none (.m (.call 219 [.t 6])),
 .ev (some 3) none (.a (.al [.i (.ofNat 0), .i (.ofNat 0), .s [], .s [], .l0])),
 .ev none none (.m (.st 5 (.t 3) (.t 7)))])
 (.seq (.blk 0 (.loop (.seq (.seq (.reg [.ev (some 8) none (.w (.mv (.t 0))),
 .ev (some 9) none (.m (.call 100 [.t 8, .k (.c (.s [43]))])),
 .ev (some 10) none (.w (.mv (.t 9))),
 .ev (some 11) (some (10, false)) (.w (.mv (.t 0))),
 .ev (some 12) (some (10, false)) (.m (.call 100 [.t 11, .k (.c (.s [45]))])),
 .ev (some 13) none (.w (.pick (.t 10) (.k (.c (.b true))) (.t 12)))])
 (.cond (.t 13) .skip (.exit 0)))
 (.blk 1 (.seq (.reg [.ev (some 4) none (.w (.mv (.k (.c (.i (.ofNat 10))))))])
 (.seq (.seq (.reg [.ev (some 14) none (.w (.mv (.t 0))),
 .ev (some 15) none (.m (.call 100 [.t 14, .k (.c (.s [45]))]))])
 (.cond (.t 15) (.reg [.ev (some 4) none (.w (.mv (.k (.c (.i (.ofNat 11))))))]) .skip))
 (.seq (.reg [.ev (some 16) none (.w (.mv (.t 0))),
 .ev (some 17) none (.m (.call 101 [.t 16]))])
 (.seq (.reg [.ev (some 18) none (.w (.mv (.t 0))),
 .ev (some 19) none (.m (.call 219 [.t 18])),
 .ev (some 5) none (.a (.al [.i (.ofNat 0), .i (.ofNat 0), .s [], .s [], .l0])),
 .ev none none (.m (.st 5 (.t 5) (.t 19)))])
 (.reg [.ev (some 20) none (.w (.mv (.t 4))),
 .ev (some 21) none (.r (.ld (some 5) (.t 3))),
 .ev (some 22) none (.r (.ld (some 5) (.t 5))),
 .ev (some 23) none (.a (.bsl 5 2 [.i (.ofNat 0), .i (.ofNat 0), .s [], .s [], .l0, .i (.ofNat 0), .i (.ofNat 0), .s [], .s [], .l0] [(0, 5, .t 21), (5, 5, .t 22)])),
 .ev (some 24) none (.m (.call 105 [.t 20, .t 23])),
 .ev none none (.m (.st 5 (.t 3) (.t 24)))])))))))))
 (.seq (.reg [.ev (some 25) none (.r (.ld (some 5) (.t 3))),
 .ev none none (.m (.st 5 (.t 2) (.t 25)))])
 .ret)))), [.c (some 5) 2]⟩
theorem c171 : cFn ty ibs (cDraw ty ibs) [] f171 = some q171 := by decide +kernel
noncomputable def q172 : MFn := ⟨(.seq (.reg [.ev (some 4) none (.w (.mv (.k (.c (.i (.ofNat 0))))))])
 (.seq (.seq (.reg [.ev (some 5) none (.w (.mv (.t 0))),
 .ev (some 6) none (.w (.mv (.t 1))),
 .ev (some 7) none (.w (.bin .gtr (.t 5) (.t 6)))])
 (.cond (.t 7) (.seq (.reg [.ev (some 8) none (.w (.mv (.t 0))),
 .ev (some 4) none (.w (.mv (.t 8)))])
 .ret) .skip))
 (.seq (.reg [.ev (some 9) none (.w (.mv (.t 1))),
 .ev (some 4) none (.w (.mv (.t 9)))])
 .ret))), [.t 4]⟩
theorem c172 : cFn ty ibs (cDraw ty ibs) [] f172 = some q172 := by decide +kernel
noncomputable def q173 : MFn := ⟨(.seq (.reg [.ev (some 2) none (.w (.mv (.k (.c (.b false)))))])
 (.seq (.seq (.reg [.ev (some 3) none (.w (.mv (.k (.c (.i (.ofNat 0))))))])
 (.blk 0 (.loop (.seq (.seq (.reg [.ev (some 4) none (.w (.mv (.t 3))),
 .ev (some 5) none (.w (.mv (.t 0))),
 .ev (some 6) none (.w (.lns (.t 5))),
 .ev (some 7) none (.w (.bin .lss (.t 4) (.t 6)))])
 (.cond (.t 7) .skip (.exit 0)))
 (.seq (.blk 1 (.seq (.reg [.ev (some 10) none (.w (.mv (.t 0))),
 .ev (some 11) none (.w (.mv (.t 3))),
 .ev (some 12) none (.w (.ixs (.t 10) (.t 11))),
 .ev (some 13) none (.m (.call 161 [.t 12])),
 .ev (some 14) none (.w (.un .not (.t 13))),
 .ev (some 15) none (.w (.mv (.t 14))),
 .ev (some 16) (some (15, true)) (.w (.mv (.t 0))),
 .ev (some 17) (some (15, true)) (.w (.mv (.t 3))),
 .ev (some 18) (some (15, true)) (.w (.ixs (.t 16) (.t 17))),
 .ev (some 19) (some (15, true)) (.m (.call 162 [.t 18])),
 .ev (some 20) (some (15, true)) (.w (.un .not (.t 19))),
 .ev (some 21) none (.w (.pick (.t 15) (.t 20) (.k (.c (.b false)))))])
 (.cond (.t 21) (.seq (.reg [.ev (some 2) none (.w (.mv (.k (.c (.b false)))))])
 .ret) .skip)))
 (.reg [.ev (some 8) none (.w (.mv (.t 3))),
 .ev (some 9) none (.w (.bin .add (.t 8) (.k (.c (.i (.ofNat 1)))))),
 .ev (some 3) none (.w (.mv (.t 9)))]))))))
 (.seq (.reg [.ev (some 22) none (.w (.mv (.t 0))),
 .ev (some 23) none (.w (.lns (.t 22))),
 .ev (some 24) none (.m (.call 108 [.t 23, .k (.c (.i (.ofNat 1))), .k (.c (.i (.ofNat 8)))])),
 .ev (some 25) none (.w (.mv (.t 24))),
 .ev (some 26) (some (25, true)) (.w (.mv (.t 0))),
 .ev (some 27) (some (25, true)) (.w (.ixs (.t 26) (.k (.c (.i (.ofNat 0)))))),
 .ev (some 28) (some (25, true)) (.m (.call 161 [.t 27])),
 .ev (some 29) none (.w (.pick (.t 25) (.t 28) (.k (.c (.b false))))),
 .ev (some 30) none (.w (.mv (.t 29))),
 .ev (some 31) (some (30, true)) (.w (.mv (.t 0))),
 .ev (some 32) (some (30, true)) (.m (.call 167 [.t 31])),
 .ev (some 33) (some (30, true)) (.w (.un .not (.t 32))),
 .ev (some 34) none (.w (.pick (.t 30) (.t 33) (.k (.c (.b false))))),
 .ev (some 2) none (.w (.mv (.t 34)))])
 .ret))), [.t 2]⟩
theorem c173 : cFn ty ibs (cDraw ty ibs) [] f173 = some q173 := by decide +kernel
noncomputable def q174 : MFn := ⟨(.seq (.reg [.ev (some 2) none (.a (.box (.t 0))),
 .ev (some 4) none (.w (.mv (.k (.c (.b false)))))])
 (.seq (.seq (.reg [.ev (some 6) none (.w (.mv (.t 1))),
 .ev (some 5) none (.w (.mv (.t 6)))])
 (.blk 0 (.loop (.seq (.seq (.reg [.ev (some 7) none (.w (.mv (.t 5))),
 .ev (some 8) none (.w (.fad 4 (.t 2))),
 .ev (some 9) none (.r (.ld none (.t 8))),
 .ev (some 10) none (.w (.lnl (.t 9))),
 .ev (some 11) none (.w (.bin .lss (.t 7) (.t 10)))])
 (.cond (.t 11) .skip (.exit 0)))
 (.seq (.blk 1 (.seq (.reg [.ev (some 14) none (.w (.fad 4 (.t 2))),
 .ev (some 15) none (.r (.ld none (.t 14))),
 .ev (some 16) none (.w (.mv (.t 5))),
 .ev (some 17) none (.w (.iad 5 (.t 15) (.t 16))),
 .ev (some 18) none (.r (.ld (some 5) (.t 17))),
 .ev (some 19) none (.m (.call 112 [.t 18])),
 .ev (some 20) none (.w (.un .not (.t 19)))])
 (.cond (.t 20) (.seq (.reg [.ev (some 4) none (.w (.mv (.k (.c (.b false)))))])
 .ret) .skip)))
 (.reg [.ev (some 12) none (.w (.mv (.t 5))),
 .ev (some 13) none (.w (.bin .add (.t 12) (.k (.c (.i (.ofNat 1)))))),
 .ev (some 5) none (.w (.mv (.t 13)))]))))))
 (.seq (.reg [.ev (some 4) none (.w (.mv (.k (.c (.b true)))))])
 .ret))), [.t 4]⟩
theorem c174 : cFn ty ibs (cDraw ty ibs) [] f174 = some q174 := by decide +kernel
noncomputable def q175 : MFn := ⟨(.seq (.reg [.ev (some 1) none (.a (.box (.t 0))),
 .ev (some 2) none (.w (.mv (.k (.c (.b false)))))])
 (.seq (.seq (.reg [.ev (some 3) none (.w (.mv (.k (.c (.i (.ofNat 1))))))])
 (.blk 0 (.loop (.seq (.seq (.reg [.ev (some 5) none (.w (.mv (.t 3))),
 .ev (some 6) none (.w (.fad 4 (.t 1))),
 .ev (some 7) none (.r (.ld none (.t 6))),
 .ev (some 8) none (.w (.lnl (.t 7))),
 .ev (some 9) none (.w (.bin .lss (.t 5) (.t 8)))])
 (.cond (.t 9) .skip (.exit 0)))
 (.seq (.blk 1 (.seq (.reg [.ev (some 12) none (.w (.fad 4 (.t 1))),
 .ev (some 13) none (.r (.ld none (.t 12))),
 .ev (some 14) none (.w (.mv (.t 3))),
 .ev (some 15) none (.w (.iad 5 (.t 13) (.t 14))),
 .ev (some 16) none (.r (.ld (some 5) (.t 15))),
 .ev (some 4) none (.a (.al [.i (.ofNat 0), .i (.ofNat 0), .s [], .s [], .l0])),
 .ev none none (.m (.st 5 (.t 4) (.t 16)))])
 (.seq (.reg [.ev (some 17) none (.w (.fad 0 (.t 4))),
 .ev (some 18) none (.r (.ld none (.t 17))),
 .ev (some 19) none (.w (.bin .neq (.t 18) (.k (.c (.i (.ofNat 8)))))),
 .ev (some 20) none (.w (.mv (.t 19))),
 .ev (some 21) (some (20, false)) (.w (.fad 1 (.t 4))),
 .ev (some 22) (some (20, false)) (.r (.ld none (.t 21))),
 .ev (some 23) (some (20, false)) (.w (.bin .neq (.t 22) (.k (.c (.i (.ofNat 0)))))),
 .ev (some 24) none (.w (.pick (.t 20) (.k (.c (.b true))) (.t 23))),
 .ev (some 25) none (.w (.mv (.t 24))),
 .ev (some 26) (some (25, false)) (.w (.fad 2 (.t 4))),
 .ev (some 27) (some (25, false)) (.r (.ld none (.t 26))),
 .ev (some 28) (some (25, false)) (.w (.bin .neq (.t 27) (.k (.c (.s []))))),
 .ev (some 29) none (.w (.pick (.t 25) (.k (.c (.b true))) (.t 28))),
 .ev (some 30) none (.w (.mv (.t 29))),
 .ev (some 31) (some (30, false)) (.w (.fad 3 (.t 4))),
 .ev (some 32) (some (30, false)) (.r (.ld none (.t 31))),
 .ev (some 33) (some (30, false)) (.w (.bin .neq (.t 32) (.k (.c (.s []))))),
 .ev (some 34) none (.w (.pick (.t 30) (.k (.c (.b true))) (.t 33))),
 .ev (some 35) none (.w (.mv (.t 34))),
 .ev (some 36) (some (35, false)) (.w (.fad 4 (.t 4))),
 .ev (some 37) (some (35, false)) (.r (.ld none (.t 36))),
 .ev (some 38) (some (35, false)) (.w (.lnl (.t 37))),
 .ev (some 39) (some (35, false)) (.w (.bin .neq (.t 38) (.k (.c (.i (.ofNat 2)))))),
 .ev (some 40) none (.w (.pick (.t 35) (.k (.c (.b true))) (.t 39))),
 .ev (some 41) none (.w (.mv (.t 40))),
 .ev (some 42) (some (41, false)) (.w (.fad 4 (.t 4))),
 .ev (some 43) (some (41, false)) (.r (.ld none (.t 42))),
 .ev (some 44) (some (41, false)) (.w (.iad 5 (.t 43) (.k (.c (.i (.ofNat 0)))))),
 .ev (some 45) (some (41, false)) (.r (.ld (some 5) (.t 44))),
 .ev (some 46) (some (41, false)) (.m (.call 220 [.t 45])),
 .ev (some 47) (some (41, false)) (.w (.un .not (.t 46))),
 .ev (some 48) none (.w (.pick (.t 41) (.k (.c (.b true))) (.t 47))),
 .ev (some 49) none (.w (.mv (.t 48))),
 .ev (some 50) (some (49, false)) (.w (.fad 4 (.t 4))),
 .ev (some 51) (some (49, false)) (.r (.ld none (.t 50))),
 .ev (some 52) (some (49, false)) (.w (.iad 5 (.t 51) (.k (.c (.i (.ofNat 1)))))),
 .ev (some 53) (some (49, false)) (.r (.ld (some 5) (.t 52))),
 .ev (some 54) (some (49, false)) (.m (.call 112 [.t 53])),
 .ev (some 55) (some (49, false)) (.w (.un .not (.t 54))),
 .ev (some 56) none (.w (.pick (.t 49) (.k (.c (.b true))) (.t 55)))])
 (.cond (.t 56) (.seq (.reg [.ev (some 2) none (.w (.mv (.k (.c (.b false)))))])
 .ret) .skip))))
 (.reg [.ev (some 10) none (.w (.mv (.t 3))),
 .ev (some 11) none (.w (.bin .add (.t 10) (.k (.c (.i (.ofNat 1)))))),
 .ev (some 3) none (.w (.mv (.t 11)))]))))))
 (.seq (.reg [.ev (some 57) none (.w (.fad 4 (.t 1))),
 .ev (some 58) none (.r (.ld none (.t 57))),
 .ev (some 59) none (.w (.lnl (.t 58))),
 .ev (some 60) none (.w (.bin .geq (.t 59) (.k (.c (.i (.ofNat 2)))))),
 .ev (some 61) none (.w (.mv (.t 60))),
 .ev (some 62) (some (61, true)) (.w (.fad 4 (.t 1))),
 .ev (some 63) (some (61, true)) (.r (.ld none (.t 62))),
 .ev (some 64) (some (61, true)) (.w (.iad 5 (.t 63) (.k (.c (.i (.ofNat 0)))))),
 .ev (some 65) (some (61, true)) (.r (.ld (some 5) (.t 64))),
 .ev (some 66) (some (61, true)) (.m (.call 112 [.t 65])),
 .ev (some 67) none (.w (.pick (.t 61) (.t 66) (.k (.c (.b false))))),
 .ev (some 2) none (.w (.mv (.t 67)))])
 .ret))), [.t 2]⟩
theorem c175 : cFn ty ibs (cDraw ty ibs) [] f175 = some q175 := by decide +kernel
noncomputable def q176 : MFn := ⟨(.seq (.reg [.ev (some 4) none (.a (.box (.t 1))),
 .ev (some 6) none (.w (.mv (.k (.c (.b false)))))])
 (.seq (.seq (.reg [.ev (some 7) none (.w (.mv (.k (.c (.i (.ofNat 0))))))])
 (.blk 0 (.loop (.seq (.seq (.reg [.ev (some 9) none (.w (.mv (.t 7))),
 .ev (some 10) none (.w (.fad 3 (.t 4))),
 .ev (some 11) none (.r (.ld none (.t 10))),
 .ev (some 12) none (.w (.lnl (.t 11))),
 .ev (some 13) none (.w (.bin .lss (.t 9) (.t 12)))])
 (.cond (.t 13) .skip (.exit 0)))
 (.seq (.blk 1 (.seq (.reg [.ev (some 16) none (.w (.mv (.t 0))),
 .ev (some 17) none (.w (.fad 3 (.t 4))),
 .ev (some 18) none (.r (.ld none (.t 17))),
 .ev (some 19) none (.w (.mv (.t 7))),
 .ev (some 20) none (.w (.iad 4 (.t 18) (.t 19))),
 .ev (some 21) none (.r (.ld (some 4) (.t 20))),
 .ev (some 22) none (.w (.mv (.t 2))),
 .ev (some 23) none (.m (.call 176 [.t 16, .t 21, .t 22])),
 .ev (some 24) none (.w (.un .not (.t 23)))])
 (.cond (.t 24) (.seq (.reg [.ev (some 6) none (.w (.mv (.k (.c (.b false)))))])
 .ret) .skip)))
 (.reg [.ev (some 14) none (.w (.mv (.t 7))),
 .ev (some 15) none (.w (.bin .add (.t 14) (.k (.c (.i (.ofNat 1)))))),
 .ev (some 7) none (.w (.mv (.t 15)))]))))))
 (.seq (.seq (.reg [.ev (some 25) none (.w (.fad 0 (.t 4))),
 .ev (some 26) none (.r (.ld none (.t 25))),
 .ev (some 27) none (.w (.bin .neq (.t 26) (.k (.c (.i (.ofNat 4))))))])
 (.cond (.t 27) (.seq (.reg [.ev (some 6) none (.w (.mv (.k (.c (.b true)))))])
 .ret) .skip))
 (.seq (.reg [.ev (some 28) none (.w (.mv (.t 0))),
 .ev (some 29) none (.w (.fad 2 (.t 4))),
 .ev (some 30) none (.r (.ld none (.t 29))),
 .ev (some 31) none (.m (.call 113 [.t 28, .t 30])),
 .ev (some 8) none (.w (.mv (.t 31)))])
 (.seq (.reg [.ev (some 32) none (.w (.mv (.t 8))),
 .ev (some 33) none (.w (.bin .geq (.t 32) (.k (.c (.i (.ofNat 0)))))),
 .ev (some 34) none (.w (.mv (.t 33))),
 .ev (some 35) (some (34, true)) (.w (.mv (.t 2))),
 .ev (some 36) (some (34, true)) (.w (.un .not (.t 35))),
 .ev (some 37) (some (34, true)) (.w (.mv (.t 36))),
 .ev (some 38) (some (37, false)) (.w (.mv (.t 0))),
 .ev (some 39) (some (37, false)) (.w (.mv (.t 8))),
 .ev (some 40) (some (37, false)) (.w (.iad 3 (.t 38) (.t 39))),
 .ev (some 41) (some (37, false)) (.w (.fad 1 (.t 40))),
 .ev (some 42) (some (37, false)) (.r (.ld none (.t 41))),
 .ev (some 43) (some (37, false)) (.w (.fad 3 (.t 4))),
 .ev (some 44) (some (37, false)) (.r (.ld none (.t 43))),
 .ev (some 45) (some (37, false)) (.w (.lnl (.t 44))),
 .ev (some 46) (some (37, false)) (.w (.bin .eql (.t 42) (.t 45))),
 .ev (some 47) (some (34, true)) (.w (.pick (.t 37) (.k (.c (.b true))) (.t 46))),
 .ev (some 48) none (.w (.pick (.t 34) (.t 47) (.k (.c (.b false))))),
 .ev (some 6) none (.w (.mv (.t 48)))])
 .ret))))), [.t 6]⟩
theorem c176 : cFn ty ibs (cDraw ty ibs) [[.ev 0, .ev 1, .ev 2, .ev 3, .ev 4, .ev 5, .ev 6, .ev 7, .ev 8, .ev 9, .ev 10, .ev 11, .ev 12, .ev 13, .ev 14, .ev 15, .ev 16, .ev 17]] f176 = some q176 := by decide +kernel
noncomputable def q177 : MFn := ⟨(.seq (.reg [.ev (some 0) none (.a (.al [.i (.ofNat 0), .i (.ofNat 0), .s [], .l0]))])
 (.seq (.reg [.ev (some 1) none (.w (.build [.i (.ofNat 0), .i (.ofNat 0), .s [], .l0] [(0, 1, .k (.c (.i (.ofNat 1))))])),
 .ev none none (.m (.st 4 (.t 0) (.t 1)))])
 .ret)), [.c (some 4) 0]⟩
theorem c177 : cFn ty ibs (cDraw ty ibs) [] f177 = some q177 := by decide +kernel
noncomputable def q178 : MFn := ⟨(.seq (.reg [.ev (some 4) none (.w (.mv (.k (.c (.i (.ofNat 0))))))])
 (.seq (.seq (.reg [.ev (some 6) none (.w (.mv (.t 0))),
 .ev (some 7) none (.w (.lnl (.t 6))),
 .ev (some 8) none (.w (.bin .sub (.t 7) (.k (.c (.i (.ofNat 1)))))),
 .ev (some 5) none (.w (.mv (.t 8)))])
 (.blk 0 (.loop (.seq (.seq (.reg [.ev (some 9) none (.w (.mv (.t 5))),
 .ev (some 10) none (.w (.bin .geq (.t 9) (.k (.c (.i (.ofNat 0))))))])
 (.cond (.t 10) .skip (.exit 0)))
 (.seq (.blk 1 (.seq (.reg [.ev (some 13) none (.w (.mv (.t 0))),
 .ev (some 14) none (.w (.mv (.t 5))),
 .ev (some 15) none (.w (.iad 6 (.t 13) (.t 14))),
 .ev (some 16) none (.w (.fad 0 (.t 15))),
 .ev (some 17) none (.r (.ld none (.t 16))),
 .ev (some 18) none (.w (.mv (.t 1))),
 .ev (some 19) none (.w (.bin .eql (.t 17) (.t 18)))])
 (.cond (.t 19) (.seq (.reg [.ev (some 20) none (.w (.mv (.t 5))),
 .ev (some 4) none (.w (.mv (.t 20)))])
 .ret) .skip)))
 (.reg [.ev (some 11) none (.w (.mv (.t 5))),
 .ev (some 12) none (.w (.bin .sub (.t 11) (.k (.c (.i (.ofNat 1)))))),
 .ev (some 5) none (.w (.mv (.t 12)))]))))))
 (.seq (.reg [.ev (some 4) none (.w (.mv (.k (.c (.i (.negSucc 0))))))])
 .ret))), [.t 4]⟩
theorem c178 : cFn ty ibs (cDraw ty ibs) [] f178 = some q178 := by decide +kernel
noncomputable def q179 : MFn := ⟨(.seq (.reg [.ev (some 4) none (.w (.mv (.k (.c .l0))))])
 (.seq (.reg [.ev (some 7) none (.a (.bsl 4 0 [] [])),
 .ev (some 5) none (.w (.mv (.t 7)))])
 (.seq (.seq (.reg [.ev (some 6) none (.w (.mv (.k (.c (.i (.ofNat 0))))))])
 (.blk 0 (.loop (.seq (.seq (.reg [.ev (some 8) none (.w (.mv (.t 6))),
 .ev (some 9) none (.w (.mv (.t 1))),
 .ev (some 10) none (.w (.bin .lss (.t 8) (.t 9)))])
 (.cond (.t 10) .skip (.exit 0)))
 (.seq (.blk 1 (.reg [.ev (some 13) none (.w (.mv (.t 5))),
 .ev (some 14) none (.w (.mv (.t 0))),
 .ev (some 15) none (.m (.call 181 [.t 14])),
 .ev (some 16) none (.a (.bsl 4 1 [.i (.ofNat 0), .i (.ofNat 0), .s [], .l0] [(0, 4, .t 15)])),
 .ev (some 17) none (.m (.app 4 56 (.t 13) (.t 16))),
 .ev (some 5) none (.w (.mv (.t 17)))]))
 (.reg [.ev (some 11) none (.w (.mv (.t 6))),
 .ev (some 12) none (.w (.bin .add (.t 11) (.k (.c (.i (.ofNat 1)))))),
 .ev (some 6) none (.w (.mv (.t 12)))]))))))
 (.seq (.reg [.ev (some 18) none (.w (.mv (.t 5))),
 .ev (some 4) none (.w (.mv (.t 18)))])
 .ret)))), [.t 4]⟩
theorem c179 : cFn ty ibs (cDraw ty ibs) [] f179 = some q179 := by decide +kernel
noncomputable def q180 : MFn := ⟨(.seq (.reg [.ev (some 3) none (.a (.box (.t 0))),
 .ev (some 6) none (.a (.al [.i (.ofNat 0), .i (.ofNat 0), .s [], .l0]))])
 (.seq (.reg [.ev (some 9) none (.a (.bsl 5 0 [] [])),
 .ev (some 7) none (.w (.mv (.t 9)))])
 (.seq (.seq (.reg [.ev (some 8) none (.w (.mv (.k (.c (.i (.ofNat 0))))))])
 (.blk 0 (.loop (.seq (.seq (.reg [.ev (some 10) none (.w (.mv (.t 8))),
 .ev (some 11) none (.w (.mv (.t 1))),
 .ev (some 12) none (.w (.lnl (.t 11))),
 .ev (some 13) none (.w (.bin .lss (.t 10) (.t 12))),
 .ev (some 14) none (.w (.mv (.t 13))),
 .ev (some 15) (some (14, true)) (.w (.mv (.t 8))),
 .ev (some 16) (some (14, true)) (.w (.mv (.t 2))),
 .ev (some 17) (some (14, true)) (.w (.lnl (.t 16))),
 .ev (some 18) (some (14, true)) (.w (.bin .lss (.t 15) (.t 17))),
 .ev (some 19) none (.w (.pick (.t 14) (.t 18) (.k (.c (.b false)))))])
 (.cond (.t 19) .skip (.exit 0)))
 (.seq (.blk 1 (.reg [.ev (some 22) none (.w (.mv (.t 7))),
 .ev (some 23) none (.w (.mv (.t 1))),
 .ev (some 24) none (.w (.mv (.t 8))),
 .ev (some 25) none (.w (.iad 1 (.t 23) (.t 24))),
 .ev (some 26) none (.r (.ld none (.t 25))),
 .ev (some 27) none (.w (.mv (.t 2))),
 .ev (some 28) none (.w (.mv (.t 8))),
 .ev (some 29) none (.w (.iad 4 (.t 27) (.t 28))),
 .ev (some 30) none (.r (.ld (some 4) (.t 29))),
 .ev (some 31) none (.w (.build [.i (.ofNat 0), .i (.ofNat 0), .i (.ofNat 0), .s [], .l0] [(0, 1, .t 26), (1, 4, .t 30)])),
 .ev (some 32) none (.a (.bsl 5 1 [.i (.ofNat 0), .i (.ofNat 0), .i (.ofNat 0), .s [], .l0] [(0, 5, .t 31)])),
 .mk (some 33) none (.app 5 64 (.t 22) (.t 32)) [] [],
 .ev (some 7) none (.w (.mv (.t 33)))]))
 (.reg [.ev (some 20) none (.w (.mv (.t 8))),
 .ev (some 21) none (.w (.bin .add (.t 20) (.k (.c (.i (.ofNat 1)))))),
 .ev (some 8) none (.w (.mv (.t 21)))]))))))
 (.seq (.reg [.ev (some 34) none (.w (.mv (.t 7))),
 .ev (some 35) none (.r (.ld (some 4) (.t 3))),
 .ev (some 36) none (.m (.call 44 [.t 34, .t 35])),
 .ev none none (.m (.st 4 (.t 6) (.t 36)))])
 .ret)))), [.c (some 4) 6]⟩
theorem c180 : cFn ty ibs (cDraw ty ibs) [[.ev 0, .ev 1, .ev 2, .ev 3, .ev 4, .ev 5, .ev 6, .ev 7, .ev 8, .ev 9, .ev 10, .ev 11, .ev 12]] f180 = some q180 := by decide +kernel
noncomputable def q181 : MFn := ⟨(.seq (.reg [.ev (some 2) none (.a (.al [.i (.ofNat 0), .i (.ofNat 0), .s [], .l0]))])
 (.seq (.seq (.reg [.ev (some 3) none (.w (.mv (.t 0))),
 .ev (some 4) none (.w (.nilc (.t 3))),
 .ev (some 5) none (.w (.fad 2 (.t 4))),
 .ev (some 6) none (.r (.ld none (.t 5))),
 .ev (some 7) none (.w (.bin .eql (.t 6) (.k (.c (.i (.ofNat 2000))))))])
 (.cond (.t 7) (.reg [.ev (some 8) none (.w (.mv (.t 0))),
 .ev (some 9) none (.m (.call 118 [.t 8, .k (.c (.i (.ofNat 5)))]))]) (.reg [.ev (some 10) none (.w (.mv (.t 0))),
 .ev (some 11) none (.w (.nilc (.t 10))),
 .ev (some 12) none (.w (.fad 2 (.t 11))),
 .ev (some 13) none (.r (.ld none (.t 12))),
 .ev (some 14) none (.w (.bin .add (.t 13) (.k (.c (.i (.ofNat 1)))))),
 .ev (some 15) none (.w (.nilc (.t 10))),
 .ev (some 16) none (.w (.fad 2 (.t 15))),
 .ev none none (.m (.st 1 (.t 16) (.t 14)))])))
 (.seq (.reg [.ev (some 17) none (.w (.mv (.t 0))),
 .ev (some 18) none (.w (.nilc (.t 17))),
 .ev (some 19) none (.w (.fad 2 (.t 18))),
 .ev (some 20) none (.r (.ld none (.t 19))),
 .ev (some 21) none (.w (.bin .sub (.t 20) (.k (.c (.i (.ofNat 1)))))),
 .ev (some 22) none (.w (.build [.i (.ofNat 0), .i (.ofNat 0), .s [], .l0] [(0, 1, .k (.c (.i (.ofNat 2)))), (1, 1, .t 21)])),
 .ev none none (.m (.st 4 (.t 2) (.t 22)))])
 .ret))), [.c (some 4) 2]⟩
theorem c181 : cFn ty ibs (cDraw ty ibs) [] f181 = some q181 := by decide +kernel
noncomputable def q182 : MFn := ⟨(.seq (.reg [.ev (some 5) none (.a (.box (.t 2))),
 .ev (some 6) none (.w (.mv (.k (.c .l0))))])
 (.seq (.reg [.ev (some 8) none (.a (.bsl 6 0 [] [])),
 .ev (some 9) none (.w (.mv (.t 0))),
 .ev (some 10) none (.m (.app 6 96 (.t 8) (.t 9))),
 .ev (some 7) none (.w (.mv (.t 10)))])
 (.seq (.reg [.ev (some 11) none (.w (.mv (.t 7))),
 .ev (some 12) none (.w (.mv (.t 1))),
 .ev (some 13) none (.r (.ld (some 5) (.t 5))),
 .ev (some 14) none (.w (.build [.s [], .l0, .i (.ofNat 0), .i (.ofNat 0), .s [], .l0] [(0, 1, .t 12), (1, 5, .t 13)])),
 .ev (some 15) none (.a (.bsl 6 1 [.s [], .l0, .i (.ofNat 0), .i (.ofNat 0), .s [], .l0] [(0, 6, .t 14)])),
 .ev (some 16) none (.m (.app 6 96 (.t 11) (.t 15))),
 .ev (some 6) none (.w (.mv (.t 16)))])
 .ret))), [.t 6]⟩
theorem c182 : cFn ty ibs (cDraw ty ibs) [] f182 = some q182 := by decide +kernel
noncomputable def q183 : MFn := ⟨(.seq (.reg [.ev (some 2) none (.a (.box (.t 0))),
 .ev (some 3) none (.a (.box (.t 1))),
 .ev (some 4) none (.a (.al [.i (.ofNat 0), .i (.ofNat 0), .s [], .l0]))])
 (.seq (.reg [.ev (some 5) none (.r (.ld (some 4) (.t 2))),
 .ev (some 7) none (.r (.ld (some 4) (.t 3))),
 .mk (some 6) none (.call 121 [.t 5]) [(7, .ld (some 4) (.t 3))] [],
 .mk (some 8) none (.call 121 [.t 7]) [] [],
 .ev (some 9) none (.a (.bsl 4 2 [.i (.ofNat 0), .i (.ofNat 0), .s [], .l0, .i (.ofNat 0), .i (.ofNat 0), .s [], .l0] [(0, 4, .t 6), (4, 4, .t 8)])),
 .ev (some 10) none (.w (.build [.i (.ofNat 0), .i (.ofNat 0), .s [], .l0] [(0, 1, .k (.c (.i (.ofNat 3)))), (3, 1, .t 9)])),
 .mk none none (.st 4 (.t 4) (.t 10)) [] []])
 .ret)), [.c (some 4) 4]⟩
theorem c183 : cFn ty ibs (cDraw ty ibs) [[.ev 0, .ev 2, .ev 1, .ev 3, .ev 4, .ev 5, .ev 6]] f183 = some q183 := by decide +kernel
noncomputable def q184 : MFn := ⟨(.seq (.reg [.ev (some 4) none (.a (.box (.t 1))),
 .ev (some 5) none (.a (.box (.t 2)))])
 (.seq (.seq (.reg [.ev (some 8) none (.w (.mv (.t 0))),
 .ev (some 9) none (.w (.nilc (.t 8))),
 .ev (some 10) none (.w (.fad 3 (.t 9))),
 .ev (some 11) none (.r (.ld none (.t 10))),
 .ev (some 12) none (.w (.bin .neq (.t 11) (.k (.c (.i (.ofNat 0))))))])
 (.cond (.t 12) .ret .skip))
 (.seq (.reg [.ev (some 14) none (.w (.mv (.t 0))),
 .ev (some 15) none (.w (.nilc (.t 14))),
 .ev (some 16) none (.w (.fad 1 (.t 15))),
 .ev (some 17) none (.r (.ld none (.t 16))),
 .ev (some 18) none (.r (.ld (some 4) (.t 4))),
 .ev (some 19) none (.r (.ld (some 4) (.t 5))),
 .mk (some 20) none (.call 221 [.t 17, .t 18, .t 19]) [] [],
 .ev (some 13) none (.w (.mv (.t 20))),
 .ev (some 21) none (.w (.ext 0 (.t 13))),
 .ev (some 22) none (.w (.ext 1 (.t 13))),
 .ev (some 6) none (.w (.mv (.t 21))),
 .ev (some 7) none (.w (.mv (.t 22)))])
 (.seq (.seq (.reg [.ev (some 23) none (.w (.mv (.t 7))),
 .ev (some 24) none (.w (.un .not (.t 23)))])
 (.cond (.t 24) (.seq (.reg [.ev (some 25) none (.w (.mv (.t 0))),
 .ev (some 26) none (.m (.call 118 [.t 25, .k (.c (.i (.ofNat 4)))]))])
 .ret) .skip))
 (.reg [.ev (some 27) none (.w (.mv (.t 0))),
 .ev (some 28) none (.w (.mv (.t 6))),
 .ev (some 29) none (.w (.nilc (.t 27))),
 .ev (some 30) none (.w (.fad 1 (.t 29))),
 .ev none none (.m (.st 1 (.t 30) (.t 28)))]))))), []⟩
theorem c184 : cFn ty ibs (cDraw ty ibs) [[.ev 0, .ev 1, .ev 2, .ev 3, .ev 4, .ev 5, .ev 6, .ev 7, .ev 8, .ev 9, .ev 10, .ev 11]] f184 = some q184 := by decide +kernel
noncomputable def q185 : MFn := ⟨(.seq (.reg [.ev (some 4) none (.a (.box (.t 1))),
 .ev (some 6) none (.a (.al [.i (.ofNat 0), .i (.ofNat 0), .s [], .s [], .i (.ofNat 0), .i (.ofNat 0), .s [], .l0, .l0, .l0, .l0]))])
 (.seq (.reg [.ev (some 15) none (.w (.fad 0 (.t 4))),
 .ev (some 16) none (.r (.ld none (.t 15))),
 .ev (some 17) none (.w (.fad 2 (.t 4))),
 .ev (some 18) none (.r (.ld none (.t 17))),
 .ev (some 19) none (.w (.fad 3 (.t 4))),
 .ev (some 20) none (.r (.ld none (.t 19))),
 .ev (some 21) none (.w (.build [.i (.ofNat 0), .i (.ofNat 0), .s [], .s [], .i (.ofNat 0), .i (.ofNat 0), .s [], .l0, .l0, .l0, .l0] [(0, 1, .t 16), (2, 1, .t 18), (3, 1, .t 20)])),
 .ev (some 7) none (.a (.al [.i (.ofNat 0), .i (.ofNat 0), .s [], .s [], .i (.ofNat 0), .i (.ofNat 0), .s [], .l0, .l0, .l0, .l0])),
 .ev none none (.m (.st 11 (.t 7) (.t 21)))])
 (.seq (.reg [.ev (some 22) none (.w (.build [.i (.ofNat 0), .i (.ofNat 0), .s [], .l0] [])),
 .ev (some 8) none (.a (.al [.i (.ofNat 0), .i (.ofNat 0), .s [], .l0])),
 .ev none none (.m (.st 4 (.t 8) (.t 22)))])
 (.seq (.reg [.ev (some 23) none (.w (.build [.i (.ofNat 0), .i (.ofNat 0), .s [], .s [], .i (.ofNat 0), .i (.ofNat 0), .s [], .l0, .l0, .l0, .l0] [])),
 .ev (some 9) none (.a (.al [.i (.ofNat 0), .i (.ofNat 0), .s [], .s [], .i (.ofNat 0), .i (.ofNat 0), .s [], .l0, .l0, .l0, .l0])),
 .ev none none (.m (.st 11 (.t 9) (.t 23)))])
 (.seq (.seq (.reg [.ev (some 24) none (.w (.fad 0 (.t 4))),
 .ev (some 25) none (.r (.ld none (.t 24))),
 .ev (some 26) none (.w (.bin .eql (.t 25) (.k (.c (.i (.ofNat 5))))))])
 (.cond (.t 26) (.seq (.reg [.ev (some 27) none (.w (.mv (.t 0))),
 .ev (some 28) none (.w (.fad 4 (.t 4))),
 .ev (some 29) none (.r (.ld none (.t 28))),
 .ev (some 30) none (.w (.iad 5 (.t 29) (.k (.c (.i (.ofNat 0)))))),
 .ev (some 31) none (.r (.ld (some 5) (.t 30))),
 .ev (some 32) none (.w (.mv (.t 2))),
 .ev (some 33) none (.m (.call 39 [.t 27, .t 31, .t 32])),
 .ev none none (.m (.st 11 (.t 9) (.t 33)))])
 (.reg [.ev (some 34) none (.w (.fad 4 (.t 9))),
 .ev (some 35) none (.r (.ld (some 4) (.t 34))),
 .ev none none (.m (.st 4 (.t 8) (.t 35)))])) (.seq (.reg [.ev (some 36) none (.w (.mv (.t 0))),
 .ev (some 37) none (.m (.call 181 [.t 36])),
 .ev (some 10) none (.a (.al [.i (.ofNat 0), .i (.ofNat 0), .s [], .l0])),
 .ev none none (.m (.st 4 (.t 10) (.t 37)))])
 (.seq (.reg [.ev (some 38) none (.w (.mv (.t 0))),
 .ev (some 39) none (.m (.call 181 [.t 38])),
 .ev (some 11) none (.a (.al [.i (.ofNat 0), .i (.ofNat 0), .s [], .l0])),
 .ev none none (.m (.st 4 (.t 11) (.t 39)))])
 (.seq (.reg [.ev (some 40) none (.r (.ld (some 4) (.t 10))),
 .ev (some 41) none (.r (.ld (some 4) (.t 11))),
 .ev (some 42) none (.m (.call 183 [.t 40, .t 41])),
 .ev none none (.m (.st 4 (.t 8) (.t 42)))])
 (.seq (.reg [.ev (some 43) none (.w (.mv (.t 2))),
 .ev (some 44) none (.w (.fad 2 (.t 4))),
 .ev (some 45) none (.r (.ld none (.t 44))),
 .ev (some 46) none (.r (.ld (some 4) (.t 8))),
 .ev (some 47) none (.w (.build [.l0, .i (.ofNat 0), .i (.ofNat 0), .s [], .l0] [(1, 4, .t 46)])),
 .ev (some 49) none (.w (.fad 3 (.t 4))),
 .ev (some 50) none (.r (.ld none (.t 49))),
 .ev (some 51) none (.r (.ld (some 4) (.t 10))),
 .ev (some 52) none (.w (.build [.l0, .i (.ofNat 0), .i (.ofNat 0), .s [], .l0] [(1, 4, .t 51)])),
 .mk (some 48) none (.call 182 [.t 43, .t 45, .t 47]) [(50, .ld none (.t 49)), (51, .ld (some 4) (.t 10))] [],
 .mk (some 53) none (.call 182 [.t 48, .t 50, .t 52]) [] [],
 .ev (some 12) none (.w (.mv (.t 53)))])
 (.seq (.reg [.ev (some 54) none (.w (.mv (.t 0))),
 .ev (some 55) none (.w (.fad 4 (.t 4))),
 .ev (some 56) none (.r (.ld none (.t 55))),
 .ev (some 57) none (.w (.iad 5 (.t 56) (.k (.c (.i (.ofNat 0)))))),
 .ev (some 58) none (.r (.ld (some 5) (.t 57))),
 .ev (some 59) none (.w (.mv (.t 12))),
 .ev (some 60) none (.m (.call 39 [.t 54, .t 58, .t 59])),
 .ev none none (.m (.st 11 (.t 9) (.t 60)))])
 (.seq (.reg [.ev (some 61) none (.w (.mv (.t 0))),
 .ev (some 62) none (.w (.fad 4 (.t 9))),
 .ev (some 63) none (.r (.ld (some 4) (.t 62))),
 .ev (some 64) none (.r (.ld (some 4) (.t 11))),
 .ev (some 65) none (.m (.call 184 [.t 61, .t 63, .t 64]))])
 (.reg [.ev (some 66) none (.r (.ld (some 4) (.t 10))),
 .ev (some 67) none (.a (.bsl 4 1 [.i (.ofNat 0), .i (.ofNat 0), .s [], .l0] [(0, 4, .t 66)])),
 .ev (some 68) none (.w (.fad 8 (.t 7))),
 .ev none none (.m (.st 1 (.t 68) (.t 67)))])))))))))
 (.seq (.seq (.reg [.ev (some 69) none (.w (.mv (.t 0))),
 .ev (some 70) none (.w (.nilc (.t 69))),
 .ev (some 71) none (.w (.fad 3 (.t 70))),
 .ev (some 72) none (.r (.ld none (.t 71))),
 .ev (some 73) none (.w (.bin .neq (.t 72) (.k (.c (.i (.ofNat 0))))))])
 (.cond (.t 73) (.seq (.reg [.ev (some 74) none (.r (.ld (some 11) (.t 7))),
 .ev none none (.m (.st 11 (.t 6) (.t 74)))])
 .ret) .skip))
 (.seq (.reg [.ev (some 75) none (.w (.mv (.t 0))),
 .ev (some 76) none (.w (.mv (.t 2))),
 .ev (some 77) none (.r (.ld (some 4) (.t 8))),
 .ev (some 78) none (.m (.call 222 [.t 75, .t 76, .t 77])),
 .ev (some 13) none (.a (.al [.l0, .i (.ofNat 0), .i (.ofNat 0), .s [], .l0])),
 .ev none none (.m (.st 5 (.t 13) (.t 78)))])
 (.seq (.reg [.ev (some 79) none (.a (.bsl 1 0 [] [])),
 .ev (some 80) none (.w (.fad 0 (.t 13))),
 .ev (some 81) none (.r (.ld none (.t 80))),
 .ev (some 82) none (.m (.app 1 8 (.t 79) (.t 81))),
 .ev (some 83) none (.w (.fad 9 (.t 7))),
 .ev none none (.m (.st 1 (.t 83) (.t 82)))])
 (.seq (.reg [.ev (some 84) none (.w (.mv (.t 0))),
 .ev (some 85) none (.w (.fad 4 (.t 4))),
 .ev (some 86) none (.r (.ld none (.t 85))),
 .ev (some 87) none (.w (.iad 5 (.t 86) (.k (.c (.i (.ofNat 1)))))),
 .ev (some 88) none (.r (.ld (some 5) (.t 87))),
 .ev (some 89) none (.w (.mv (.t 2))),
 .ev (some 90) none (.w (.fad 2 (.t 4))),
 .ev (some 91) none (.r (.ld none (.t 90))),
 .ev (some 92) none (.r (.ld (some 5) (.t 13))),
 .ev (some 14) none (.a (.al [.i (.ofNat 0), .i (.ofNat 0), .s [], .s [], .i (.ofNat 0), .i (.ofNat 0), .s [], .l0, .l0, .l0, .l0])),
 .mk (some 93) none (.call 182 [.t 89, .t 91, .t 92]) [(86, .ld none (.t 85)), (88, .ld (some 5) (.t 87))] [(14, .al [.i (.ofNat 0), .i (.ofNat 0), .s [], .s [], .i (.ofNat 0), .i (.ofNat 0), .s [], .l0, .l0, .l0, .l0])],
 .mk (some 94) none (.call 39 [.t 84, .t 88, .t 93]) [] [(14, .al [.i (.ofNat 0), .i (.ofNat 0), .s [], .s [], .i (.ofNat 0), .i (.ofNat 0), .s [], .l0, .l0, .l0, .l0])],
 .mk none none (.st 11 (.t 14) (.t 94)) [] []])
 (.seq (.reg [.ev (some 95) none (.r (.ld (some 11) (.t 9))),
 .ev (some 96) none (.r (.ld (some 11) (.t 14))),
 .ev (some 97) none (.a (.bsl 11 2 [.i (.ofNat 0), .i (.ofNat 0), .s [], .s [], .i (.ofNat 0), .i (.ofNat 0), .s [], .l0, .l0, .l0, .l0, .i (.ofNat 0), .i (.ofNat 0), .s [], .s [], .i (.ofNat 0), .i (.ofNat 0), .s [], .l0, .l0, .l0, .l0] [(0, 11, .t 95), (11, 11, .t 96)])),
 .ev (some 98) none (.w (.fad 10 (.t 7))),
 .ev none none (.m (.st 1 (.t 98) (.t 97)))])
 (.seq (.reg [.ev (some 99) none (.w (.fad 4 (.t 14))),
 .ev (some 100) none (.r (.ld (some 4) (.t 99))),
 .ev (some 101) none (.m (.call 121 [.t 100])),
 .ev (some 102) none (.w (.fad 4 (.t 7))),
 .ev none none (.m (.st 4 (.t 102) (.t 101)))])
 (.seq (.reg [.ev (some 103) none (.r (.ld (some 11) (.t 7))),
 .ev none none (.m (.st 11 (.t 6) (.t 103)))])
 .ret)))))))))))), [.c (some 11) 6]⟩
theorem c185 : cFn ty ibs (cDraw ty ibs) [[.ev 0, .ev 1, .ev 2, .ev 3, .ev 4, .ev 6, .ev 7, .ev 8, .ev 9, .ev 5, .ev 10, .ev 11], [.ev 0, .ev 1, .ev 2, .ev 3, .ev 4, .ev 5, .ev 6, .ev 7, .ev 8, .ev 11, .ev 9, .ev 10, .ev 12]] f185 = some q185 := by decide +kernel
noncomputable def q186 : MFn := ⟨(.seq (.reg [.ev (some 4) none (.a (.box (.t 1))),
 .ev (some 6) none (.a (.al [.i (.ofNat 0), .i (.ofNat 0), .s [], .s [], .i (.ofNat 0), .i (.ofNat 0), .s [], .l0, .l0, .l0, .l0]))])
 (.seq (.reg [.ev (some 13) none (.w (.fad 0 (.t 4))),
 .ev (some 14) none (.r (.ld none (.t 13))),
 .ev (some 15) none (.w (.build [.i (.ofNat 0), .i (.ofNat 0), .s [], .s [], .i (.ofNat 0), .i (.ofNat 0), .s [], .l0, .l0, .l0, .l0] [(0, 1, .t 14)])),
 .ev (some 7) none (.a (.al [.i (.ofNat 0), .i (.ofNat 0), .s [], .s [], .i (.ofNat 0), .i (.ofNat 0), .s [], .l0, .l0, .l0, .l0])),
 .ev none none (.m (.st 11 (.t 7) (.t 15)))])
 (.seq (.reg [.ev (some 16) none (.w (.mv (.t 0))),
 .ev (some 17) none (.w (.fad 4 (.t 4))),
 .ev (some 18) none (.r (.ld none (.t 17))),
 .ev (some 19) none (.w (.iad 5 (.t 18) (.k (.c (.i (.ofNat 0)))))),
 .ev (some 20) none (.r (.ld (some 5) (.t 19))),
 .ev (some 21) none (.w (.mv (.t 2))),
 .ev (some 22) none (.m (.call 39 [.t 16, .t 20, .t 21])),
 .ev (some 8) none (.a (.al [.i (.ofNat 0), .i (.ofNat 0), .s [], .s [], .i (.ofNat 0), .i (.ofNat 0), .s [], .l0, .l0, .l0, .l0])),
 .ev none none (.m (.st 11 (.t 8) (.t 22)))])
 (.seq (.reg [.ev (some 23) none (.w (.fad 10 (.t 7))),
 .ev (some 24) none (.r (.ld none (.t 23))),
 .ev (some 25) none (.r (.ld (some 11) (.t 8))),
 .ev (some 26) none (.a (.bsl 11 1 [.i (.ofNat 0), .i (.ofNat 0), .s [], .s [], .i (.ofNat 0), .i (.ofNat 0), .s [], .l0, .l0, .l0, .l0] [(0, 11, .t 25)])),
 .ev (some 27) none (.m (.app 11 176 (.t 24) (.t 26))),
 .ev (some 28) none (.w (.fad 10 (.t 7))),
 .ev none none (.m (.st 1 (.t 28) (.t 27)))])
 (.seq (.reg [.ev (some 29) none (.w (.mv (.t 0))),
 .ev (some 30) none (.m (.call 181 [.t 29])),
 .ev (some 31) none (.w (.fad 4 (.t 7))),
 .ev none none (.m (.st 4 (.t 31) (.t 30)))])
 (.seq (.seq (.reg [.ev (some 9) none (.w (.mv (.k (.c (.i (.ofNat 1))))))])
 (.blk 0 (.loop (.seq (.seq (.reg [.ev (some 32) none (.w (.mv (.t 9))),
 .ev (some 33) none (.w (.fad 4 (.t 4))),
 .ev (some 34) none (.r (.ld none (.t 33))),
 .ev (some 35) none (.w (.lnl (.t 34))),
 .ev (some 36) none (.w (.bin .lss (.t 32) (.t 35))),
 .ev (some 37) none (.w (.mv (.t 36))),
 .ev (some 38) (some (37, true)) (.w (.mv (.t 0))),
 .ev (some 39) (some (37, true)) (.w (.nilc (.t 38))),
 .ev (some 40) (some (37, true)) (.w (.fad 3 (.t 39))),
 .ev (some 41) (some (37, true)) (.r (.ld none (.t 40))),
 .ev (some 42) (some (37, true)) (.w (.bin .eql (.t 41) (.k (.c (.i (.ofNat 0)))))),
 .ev (some 43) none (.w (.pick (.t 37) (.t 42) (.k (.c (.b false)))))])
 (.cond (.t 43) .skip (.exit 0)))
 (.seq (.blk 1 (.seq (.reg [.ev (some 47) none (.w (.mv (.t 0))),
 .ev (some 48) none (.w (.fad 4 (.t 4))),
 .ev (some 49) none (.r (.ld none (.t 48))),
 .ev (some 50) none (.w (.mv (.t 9))),
 .ev (some 51) none (.w (.iad 5 (.t 49) (.t 50))),
 .ev (some 52) none (.w (.fad 4 (.t 51))),
 .ev (some 53) none (.r (.ld none (.t 52))),
 .ev (some 54) none (.w (.iad 5 (.t 53) (.k (.c (.i (.ofNat 0)))))),
 .ev (some 55) none (.r (.ld (some 5) (.t 54))),
 .ev (some 56) none (.w (.mv (.t 2))),
 .ev (some 57) none (.w (.mv (.t 2))),
 .ev (some 58) none (.w (.lnl (.t 57))),
 .ev (some 59) none (.m (.call 223 [.t 47, .t 55, .t 56, .t 58])),
 .ev (some 46) none (.w (.mv (.t 59))),
 .ev (some 60) none (.w (.ext 0 (.t 46))),
 .ev (some 61) none (.w (.ext 1 (.t 46))),
 .ev (some 10) none (.a (.al [.i (.ofNat 0), .i (.ofNat 0), .s [], .s [], .i (.ofNat 0), .i (.ofNat 0), .s [], .l0, .l0, .l0, .l0])),
 .ev none none (.m (.st 11 (.t 10) (.t 60))),
 .ev (some 11) none (.w (.mv (.t 61)))])
 (.seq (.reg [.ev (some 62) none (.w (.mv (.t 0))),
 .ev (some 63) none (.w (.fad 4 (.t 10))),
 .ev (some 64) none (.r (.ld (some 4) (.t 63))),
 .ev (some 65) none (.w (.fad 4 (.t 8))),
 .ev (some 66) none (.r (.ld (some 4) (.t 65))),
 .ev (some 67) none (.m (.call 184 [.t 62, .t 64, .t 66]))])
 (.seq (.reg [.ev (some 68) none (.w (.mv (.t 0))),
 .ev (some 69) none (.w (.fad 4 (.t 4))),
 .ev (some 70) none (.r (.ld none (.t 69))),
 .ev (some 71) none (.w (.mv (.t 9))),
 .ev (some 72) none (.w (.iad 5 (.t 70) (.t 71))),
 .ev (some 73) none (.w (.fad 4 (.t 72))),
 .ev (some 74) none (.r (.ld none (.t 73))),
 .ev (some 75) none (.w (.iad 5 (.t 74) (.k (.c (.i (.ofNat 1)))))),
 .ev (some 76) none (.r (.ld (some 5) (.t 75))),
 .ev (some 77) none (.w (.mv (.t 11))),
 .ev (some 78) none (.m (.call 39 [.t 68, .t 76, .t 77])),
 .ev (some 12) none (.a (.al [.i (.ofNat 0), .i (.ofNat 0), .s [], .s [], .i (.ofNat 0), .i (.ofNat 0), .s [], .l0, .l0, .l0, .l0])),
 .ev none none (.m (.st 11 (.t 12) (.t 78)))])
 (.seq (.reg [.ev (some 79) none (.w (.mv (.t 0))),
 .ev (some 80) none (.w (.fad 4 (.t 12))),
 .ev (some 81) none (.r (.ld (some 4) (.t 80))),
 .ev (some 82) none (.w (.fad 4 (.t 7))),
 .ev (some 83) none (.r (.ld (some 4) (.t 82))),
 .ev (some 84) none (.m (.call 184 [.t 79, .t 81, .t 83]))])
 (.reg [.ev (some 85) none (.w (.fad 10 (.t 7))),
 .ev (some 86) none (.r (.ld none (.t 85))),
 .ev (some 87) none (.w (.fad 4 (.t 7))),
 .ev (some 88) none (.r (.ld (some 4) (.t 87))),
 .ev (some 90) none (.r (.ld (some 11) (.t 10))),
 .ev (some 91) none (.r (.ld (some 11) (.t 12))),
 .ev (some 92) none (.a (.bsl 11 2 [.i (.ofNat 0), .i (.ofNat 0), .s [], .s [], .i (.ofNat 0), .i (.ofNat 0), .s [], .l0, .l0, .l0, .l0, .i (.ofNat 0), .i (.ofNat 0), .s [], .s [], .i (.ofNat 0), .i (.ofNat 0), .s [], .l0, .l0, .l0, .l0] [(0, 11, .t 90), (11, 11, .t 91)])),
 .mk (some 89) none (.call 121 [.t 88]) [(86, .ld none (.t 85)), (90, .ld (some 11) (.t 10)), (91, .ld (some 11) (.t 12))] [(92, .bsl 11 2 [.i (.ofNat 0), .i (.ofNat 0), .s [], .s [], .i (.ofNat 0), .i (.ofNat 0), .s [], .l0, .l0, .l0, .l0, .i (.ofNat 0), .i (.ofNat 0), .s [], .s [], .i (.ofNat 0), .i (.ofNat 0), .s [], .l0, .l0, .l0, .l0] [(0, 11, .t 90), (11, 11, .t 91)])],
 .ev (some 93) none (.w (.build [.i (.ofNat 0), .i (.ofNat 0), .s [], .s [], .i (.ofNat 0), .i (.ofNat 0), .s [], .l0, .l0, .l0, .l0] [(0, 1, .k (.c (.i (.ofNat 8)))), (4, 4, .t 89), (10, 1, .t 92)])),
 .ev (some 94) none (.a (.bsl 11 1 [.i (.ofNat 0), .i (.ofNat 0), .s [], .s [], .i (.ofNat 0), .i (.ofNat 0), .s [], .l0, .l0, .l0, .l0] [(0, 11, .t 93)])),
 .mk (some 95) none (.app 11 176 (.t 86) (.t 94)) [] [],
 .ev (some 96) none (.w (.fad 10 (.t 7))),
 .mk none none (.st 1 (.t 96) (.t 95)) [] []]))))))
 (.reg [.ev (some 44) none (.w (.mv (.t 9))),
 .ev (some 45) none (.w (.bin .add (.t 44) (.k (.c (.i (.ofNat 1)))))),
 .ev (some 9) none (.w (.mv (.t 45)))]))))))
 (.seq (.reg [.ev (some 97) none (.r (.ld (some 11) (.t 7))),
 .ev none none (.m (.st 11 (.t 6) (.t 97)))])
 .ret))))))), [.c (some 11) 6]⟩
theorem c186 : cFn ty ibs (cDraw ty ibs) [[.ev 0, .ev 1, .ev 2, .ev 3, .ev 5, .ev 6, .ev 7, .ev 4, .ev 8, .ev 9, .ev 10, .ev 11, .ev 12]] f186 = some q186 := by decide +kernel
noncomputable def q187 : MFn := ⟨(.seq (.reg [.ev (some 4) none (.a (.box (.t 1))),
 .ev (some 6) none (.a (.al [.i (.ofNat 0), .i (.ofNat 0), .s [], .s [], .i (.ofNat 0), .i (.ofNat 0), .s [], .l0, .l0, .l0, .l0]))])
 (.seq (.reg [.ev (some 10) none (.w (.mv (.t 0))),
 .ev (some 11) none (.w (.fad 4 (.t 4))),
 .ev (some 12) none (.r (.ld none (.t 11))),
 .ev (some 13) none (.w (.iad 5 (.t 12) (.k (.c (.i (.ofNat 0)))))),
 .ev (some 14) none (.r (.ld (some 5) (.t 13))),
 .ev (some 15) none (.w (.mv (.t 2))),
 .ev (some 16) none (.m (.call 39 [.t 10, .t 14, .t 15])),
 .ev (some 7) none (.a (.al [.i (.ofNat 0), .i (.ofNat 0), .s [], .s [], .i (.ofNat 0), .i (.ofNat 0), .s [], .l0, .l0, .l0, .l0])),
 .ev none none (.m (.st 11 (.t 7) (.t 16)))])
 (.seq (.reg [.ev (some 17) none (.w (.mv (.t 0))),
 .ev (some 18) none (.w (.fad 4 (.t 7))),
 .ev (some 19) none (.r (.ld (some 4) (.t 18))),
 .mk (some 20) none (.call 177 []) [(19, .ld (some 4) (.t 18))] [],
 .mk (some 21) none (.call 184 [.t 17, .t 19, .t 20]) [] []])
 (.seq (.reg [.ev (some 22) none (.w (.mv (.t 0))),
 .ev (some 23) none (.w (.fad 4 (.t 4))),
 .ev (some 24) none (.r (.ld none (.t 23))),
 .ev (some 25) none (.w (.iad 5 (.t 24) (.k (.c (.i (.ofNat 1)))))),
 .ev (some 26) none (.r (.ld (some 5) (.t 25))),
 .ev (some 27) none (.w (.mv (.t 2))),
 .ev (some 28) none (.m (.call 39 [.t 22, .t 26, .t 27])),
 .ev (some 8) none (.a (.al [.i (.ofNat 0), .i (.ofNat 0), .s [], .s [], .i (.ofNat 0), .i (.ofNat 0), .s [], .l0, .l0, .l0, .l0])),
 .ev none none (.m (.st 11 (.t 8) (.t 28)))])
 (.seq (.reg [.ev (some 29) none (.w (.mv (.t 0))),
 .ev (some 30) none (.w (.fad 4 (.t 4))),
 .ev (some 31) none (.r (.ld none (.t 30))),
 .ev (some 32) none (.w (.iad 5 (.t 31) (.k (.c (.i (.ofNat 2)))))),
 .ev (some 33) none (.r (.ld (some 5) (.t 32))),
 .ev (some 34) none (.w (.mv (.t 2))),
 .ev (some 35) none (.m (.call 39 [.t 29, .t 33, .t 34])),
 .ev (some 9) none (.a (.al [.i (.ofNat 0), .i (.ofNat 0), .s [], .s [], .i (.ofNat 0), .i (.ofNat 0), .s [], .l0, .l0, .l0, .l0])),
 .ev none none (.m (.st 11 (.t 9) (.t 35)))])
 (.seq (.reg [.ev (some 36) none (.w (.mv (.t 0))),
 .ev (some 37) none (.w (.fad 4 (.t 8))),
 .ev (some 38) none (.r (.ld (some 4) (.t 37))),
 .ev (some 39) none (.w (.fad 4 (.t 9))),
 .ev (some 40) none (.r (.ld (some 4) (.t 39))),
 .ev (some 41) none (.m (.call 184 [.t 36, .t 38, .t 40]))])
 (.seq (.reg [.ev (some 42) none (.w (.fad 0 (.t 4))),
 .ev (some 43) none (.r (.ld none (.t 42))),
 .ev (some 44) none (.w (.fad 4 (.t 8))),
 .ev (some 45) none (.r (.ld (some 4) (.t 44))),
 .ev (some 47) none (.r (.ld (some 11) (.t 7))),
 .ev (some 48) none (.r (.ld (some 11) (.t 8))),
 .ev (some 49) none (.r (.ld (some 11) (.t 9))),
 .ev (some 50) none (.a (.bsl 11 3 [.i (.ofNat 0), .i (.ofNat 0), .s [], .s [], .i (.ofNat 0), .i (.ofNat 0), .s [], .l0, .l0, .l0, .l0, .i (.ofNat 0), .i (.ofNat 0), .s [], .s [], .i (.ofNat 0), .i (.ofNat 0), .s [], .l0, .l0, .l0, .l0, .i (.ofNat 0), .i (.ofNat 0), .s [], .s [], .i (.ofNat 0), .i (.ofNat 0), .s [], .l0, .l0, .l0, .l0] [(0, 11, .t 47), (11, 11, .t 48), (22, 11, .t 49)])),
 .mk (some 46) none (.call 121 [.t 45]) [(43, .ld none (.t 42)), (47, .ld (some 11) (.t 7)), (48, .ld (some 11) (.t 8)), (49, .ld (some 11) (.t 9))] [(50, .bsl 11 3 [.i (.ofNat 0), .i (.ofNat 0), .s [], .s [], .i (.ofNat 0), .i (.ofNat 0), .s [], .l0, .l0, .l0, .l0, .i (.ofNat 0), .i (.ofNat 0), .s [], .s [], .i (.ofNat 0), .i (.ofNat 0), .s [], .l0, .l0, .l0, .l0, .i (.ofNat 0), .i (.ofNat 0), .s [], .s [], .i (.ofNat 0), .i (.ofNat 0), .s [], .l0, .l0, .l0, .l0] [(0, 11, .t 47), (11, 11, .t 48), (22, 11, .t 49)])],
 .ev (some 51) none (.w (.build [.i (.ofNat 0), .i (.ofNat 0), .s [], .s [], .i (.ofNat 0), .i (.ofNat 0), .s [], .l0, .l0, .l0, .l0] [(0, 1, .t 43), (4, 4, .t 46), (10, 1, .t 50)])),
 .mk none none (.st 11 (.t 6) (.t 51)) [] []])
 .ret))))))), [.c (some 11) 6]⟩
theorem c187 : cFn ty ibs (cDraw ty ibs) [[.ev 0, .ev 1, .ev 2, .ev 3, .ev 4], [.ev 0, .ev 1, .ev 2, .ev 3, .ev 5, .ev 6, .ev 7, .ev 8, .ev 4, .ev 9, .ev 10]] f187 = some q187 := by decide +kernel
noncomputable def q188 : MFn := ⟨(.seq (.reg [.ev (some 4) none (.a (.box (.t 1))),
 .ev (some 6) none (.w (.mv (.k (.c .l0))))])
 (.seq (.reg [.ev (some 14) none (.w (.mv (.t 0))),
 .ev (some 15) none (.w (.nilc (.t 14))),
 .ev (some 16) none (.w (.fad 0 (.t 15))),
 .ev (some 17) none (.r (.ld none (.t 16))),
 .ev (some 18) none (.w (.fad 2 (.t 4))),
 .ev (some 19) none (.r (.ld none (.t 18))),
 .mk (some 20) none (.call 114 [.t 17, .t 19]) [] [],
 .ev (some 13) none (.w (.mv (.t 20))),
 .ev (some 21) none (.w (.ext 0 (.t 13))),
 .ev (some 22) none (.w (.ext 1 (.t 13))),
 .ev (some 7) none (.w (.mv (.t 21))),
 .ev (some 8) none (.w (.mv (.t 22)))])
 (.seq (.seq (.reg [.ev (some 23) none (.w (.mv (.t 7))),
 .ev (some 24) none (.w (.bin .lss (.t 23) (.k (.c (.i (.ofNat 0)))))),
 .ev (some 25) none (.w (.mv (.t 24))),
 .ev (some 26) (some (25, false)) (.w (.mv (.t 0))),
 .ev (some 27) (some (25, false)) (.w (.nilc (.t 26))),
 .ev (some 28) (some (25, false)) (.w (.fad 0 (.t 27))),
 .ev (some 29) (some (25, false)) (.r (.ld none (.t 28))),
 .ev (some 30) (some (25, false)) (.w (.mv (.t 7))),
 .ev (some 31) (some (25, false)) (.w (.iad 3 (.t 29) (.t 30))),
 .ev (some 32) (some (25, false)) (.w (.fad 2 (.t 31))),
 .ev (some 33) (some (25, false)) (.r (.ld none (.t 32))),
 .ev (some 34) (some (25, false)) (.w (.mv (.t 8))),
 .ev (some 35) (some (25, false)) (.w (.iad 2 (.t 33) (.t 34))),
 .ev (some 36) (some (25, false)) (.w (.fad 1 (.t 35))),
 .ev (some 37) (some (25, false)) (.r (.ld none (.t 36))),
 .ev (some 38) (some (25, false)) (.w (.lnl (.t 37))),
 .ev (some 39) (some (25, false)) (.w (.fad 4 (.t 4))),
 .ev (some 40) (some (25, false)) (.r (.ld none (.t 39))),
 .ev (some 41) (some (25, false)) (.w (.lnl (.t 40))),
 .ev (some 42) (some (25, false)) (.w (.bin .neq (.t 38) (.t 41))),
 .ev (some 43) none (.w (.pick (.t 25) (.k (.c (.b true))) (.t 42)))])
 (.cond (.t 43) (.seq (.reg [.ev (some 44) none (.w (.mv (.t 0))),
 .ev (some 45) none (.m (.call 118 [.t 44, .k (.c (.i (.ofNat 3)))]))])
 (.seq (.reg [.ev (some 6) none (.w (.mv (.k (.c .l0))))])
 .ret)) .skip))
 (.seq (.reg [.ev (some 46) none (.w (.mv (.t 0))),
 .ev (some 47) none (.w (.nilc (.t 46))),
 .ev (some 48) none (.w (.fad 0 (.t 47))),
 .ev (some 49) none (.r (.ld none (.t 48))),
 .ev (some 50) none (.w (.mv (.t 7))),
 .ev (some 51) none (.w (.iad 3 (.t 49) (.t 50))),
 .ev (some 52) none (.r (.ld (some 3) (.t 51))),
 .ev (some 9) none (.a (.al [.s [], .i (.ofNat 0), .l0])),
 .ev none none (.m (.st 3 (.t 9) (.t 52)))])
 (.seq (.reg [.ev (some 53) none (.w (.mv (.t 2))),
 .ev (some 54) none (.w (.mv (.t 0))),
 .ev (some 55) none (.w (.fad 1 (.t 9))),
 .ev (some 56) none (.r (.ld none (.t 55))),
 .ev (some 57) none (.m (.call 179 [.t 54, .t 56])),
 .ev (some 58) none (.w (.nilc (.t 53))),
 .ev (some 59) none (.w (.fad 8 (.t 58))),
 .ev none none (.m (.st 1 (.t 59) (.t 57)))])
 (.seq (.reg [.ev (some 60) none (.w (.mv (.t 2))),
 .ev (some 61) none (.w (.fad 0 (.t 9))),
 .ev (some 62) none (.r (.ld none (.t 61))),
 .ev (some 63) none (.w (.build [.i (.ofNat 0), .i (.ofNat 0), .s [], .l0] [(0, 1, .k (.c (.i (.ofNat 4)))), (2, 1, .t 62)])),
 .ev (some 64) none (.w (.nilc (.t 60))),
 .ev (some 65) none (.w (.fad 4 (.t 64))),
 .ev none none (.m (.st 4 (.t 65) (.t 63)))])
 (.seq (.seq (.reg [.ev (some 10) none (.w (.mv (.k (.c (.i (.ofNat 0))))))])
 (.blk 0 (.loop (.seq (.seq (.reg [.ev (some 66) none (.w (.mv (.t 10))),
 .ev (some 67) none (.w (.mv (.t 2))),
 .ev (some 68) none (.w (.nilc (.t 67))),
 .ev (some 69) none (.w (.fad 8 (.t 68))),
 .ev (some 70) none (.r (.ld none (.t 69))),
 .ev (some 71) none (.w (.lnl (.t 70))),
 .ev (some 72) none (.w (.bin .lss (.t 66) (.t 71)))])
 (.cond (.t 72) .skip (.exit 0)))
 (.seq (.blk 1 (.reg [.ev (some 75) none (.w (.mv (.t 2))),
 .ev (some 76) none (.w (.nilc (.t 75))),
 .ev (some 77) none (.w (.fad 4 (.t 76))),
 .ev (some 78) none (.w (.fad 3 (.t 77))),
 .ev (some 79) none (.r (.ld none (.t 78))),
 .ev (some 80) none (.w (.mv (.t 2))),
 .ev (some 81) none (.w (.nilc (.t 80))),
 .ev (some 82) none (.w (.fad 8 (.t 81))),
 .ev (some 83) none (.r (.ld none (.t 82))),
 .ev (some 84) none (.w (.mv (.t 10))),
 .ev (some 85) none (.w (.iad 4 (.t 83) (.t 84))),
 .ev (some 86) none (.r (.ld (some 4) (.t 85))),
 .ev (some 88) none (.w (.lnl (.t 79))),
 .ev (some 89) none (.a (.bsl 4 1 [.i (.ofNat 0), .i (.ofNat 0), .s [], .l0] [(0, 4, .k (.a [.i (.ofNat 0), .i (.ofNat 0), .s [], .l0]))])),
 .mk (some 87) none (.call 121 [.t 86]) [(79, .ld none (.t 78))] [(89, .bsl 4 1 [.i (.ofNat 0), .i (.ofNat 0), .s [], .l0] [(0, 4, .k (.a [.i (.ofNat 0), .i (.ofNat 0), .s [], .l0]))])],
 .mk (some 90) none (.app 4 56 (.t 79) (.t 89)) [] [],
 .ev (some 91) none (.w (.iad 4 (.t 90) (.t 88))),
 .ev (some 92) none (.w (.nilc (.t 75))),
 .ev (some 93) none (.w (.fad 4 (.t 92))),
 .ev (some 94) none (.w (.fad 3 (.t 93))),
 .e2  4 (.t 91) (.t 87)  1 (.t 94) (.t 90)]))
 (.reg [.ev (some 73) none (.w (.mv (.t 10))),
 .ev (some 74) none (.w (.bin .add (.t 73) (.k (.c (.i (.ofNat 1)))))),
 .ev (some 10) none (.w (.mv (.t 74)))]))))))
 (.seq (.reg [.ev (some 95) none (.a (.bsl 4 0 [] [])),
 .ev (some 11) none (.w (.mv (.t 95)))])
 (.seq (.seq (.reg [.ev (some 12) none (.w (.mv (.k (.c (.i (.ofNat 0))))))])
 (.blk 2 (.loop (.seq (.seq (.reg [.ev (some 96) none (.w (.mv (.t 12))),
 .ev (some 97) none (.w (.fad 4 (.t 4))),
 .ev (some 98) none (.r (.ld none (.t 97))),
 .ev (some 99) none (.w (.lnl (.t 98))),
 .ev (some 100) none (.w (.bin .lss (.t 96) (.t 99)))])
 (.cond (.t 100) .skip (.exit 2)))
 (.seq (.blk 3 (.reg [.ev (some 103) none (.w (.mv (.t 11))),
 .ev (some 104) none (.w (.fad 2 (.t 9))),
 .ev (some 105) none (.r (.ld none (.t 104))),
 .ev (some 106) none (.w (.mv (.t 8))),
 .ev (some 107) none (.w (.iad 2 (.t 105) (.t 106))),
 .ev (some 108) none (.w (.fad 1 (.t 107))),
 .ev (some 109) none (.r (.ld none (.t 108))),
 .ev (some 110) none (.w (.mv (.t 12))),
 .ev (some 111) none (.w (.iad 4 (.t 109) (.t 110))),
 .ev (some 112) none (.r (.ld (some 4) (.t 111))),
 .ev (some 113) none (.w (.fad 1 (.t 9))),
 .ev (some 114) none (.r (.ld none (.t 113))),
 .ev (some 116) none (.w (.mv (.t 2))),
 .ev (some 117) none (.w (.nilc (.t 116))),
 .ev (some 118) none (.w (.fad 8 (.t 117))),
 .ev (some 119) none (.r (.ld none (.t 118))),
 .mk (some 115) none (.call 224 [.t 114]) [(105, .ld none (.t 104)), (109, .ld none (.t 108)), (112, .ld (some 4) (.t 111)), (119, .ld none (.t 118))] [],
 .mk (some 120) none (.call 180 [.t 112, .t 115, .t 119]) [] [],
 .ev (some 121) none (.a (.bsl 4 1 [.i (.ofNat 0), .i (.ofNat 0), .s [], .l0] [(0, 4, .t 120)])),
 .mk (some 122) none (.app 4 56 (.t 103) (.t 121)) [] [],
 .ev (some 11) none (.w (.mv (.t 122)))]))
 (.reg [.ev (some 101) none (.w (.mv (.t 12))),
 .ev (some 102) none (.w (.bin .add (.t 101) (.k (.c (.i (.ofNat 1)))))),
 .ev (some 12) none (.w (.mv (.t 102)))]))))))
 (.seq (.reg [.ev (some 123) none (.w (.mv (.t 11))),
 .ev (some 6) none (.w (.mv (.t 123)))])
 .ret)))))))))), [.t 6]⟩
theorem c188 : cFn ty ibs (cDraw ty ibs) [[.ev 0, .ev 1, .ev 2, .ev 3, .ev 4, .ev 5, .ev 6, .ev 7, .ev 8, .ev 9, .ev 10, .ev 11], [.ev 0, .ev 1, .ev 2, .ev 3, .ev 4, .ev 5, .ev 6, .ev 7, .ev 8, .ev 9, .ev 10, .ev 11, .ev 12, .ev 13, .ev 14, .ev 15, .ev 16, .ev 17, .ev 18, .ev 19, .ev 20], [.ev 0, .ev 1, .ev 2, .ev 3, .ev 4, .ev 5, .ev 6, .ev 7, .ev 8, .ev 9, .ev 10, .ev 11, .ev 13, .ev 14, .ev 12, .ev 15, .ev 16, .ev 18, .ev 19, .ev 20, .e2 17 21], [.ev 0, .ev 1, .ev 2, .ev 3, .ev 4, .ev 5, .ev 6, .ev 7, .ev 8, .ev 9, .ev 10, .ev 11, .ev 13, .ev 14, .ev 15, .ev 16, .ev 12, .ev 17, .ev 18, .ev 19, .ev 20]] f188 = some q188 := by decide +kernel
noncomputable def q189 : MFn := ⟨(.seq (.reg [.ev (some 4) none (.a (.box (.t 1))),
 .ev (some 6) none (.a (.al [.i (.ofNat 0), .i (.ofNat 0), .s [], .s [], .i (.ofNat 0), .i (.ofNat 0), .s [], .l0, .l0, .l0, .l0]))])
 (.seq (.reg [.ev (some 10) none (.w (.fad 0 (.t 4))),
 .ev (some 11) none (.r (.ld none (.t 10))),
 .ev (some 7) none (.a (.al [.i (.ofNat 0), .i (.ofNat 0), .s [], .s [], .i (.ofNat 0), .i (.ofNat 0), .s [], .l0, .l0, .l0, .l0])),
 .mk (some 12) none (.call 177 []) [(11, .ld none (.t 10))] [(7, .al [.i (.ofNat 0), .i (.ofNat 0), .s [], .s [], .i (.ofNat 0), .i (.ofNat 0), .s [], .l0, .l0, .l0, .l0])],
 .ev (some 13) none (.w (.build [.i (.ofNat 0), .i (.ofNat 0), .s [], .s [], .i (.ofNat 0), .i (.ofNat 0), .s [], .l0, .l0, .l0, .l0] [(0, 1, .t 11), (4, 4, .t 12)])),
 .mk none none (.st 11 (.t 7) (.t 13)) [] []])
 (.seq (.seq (.reg [.ev (some 8) none (.w (.mv (.k (.c (.i (.ofNat 0))))))])
 (.blk 0 (.loop (.seq (.seq (.reg [.ev (some 14) none (.w (.mv (.t 8))),
 .ev (some 15) none (.w (.fad 4 (.t 4))),
 .ev (some 16) none (.r (.ld none (.t 15))),
 .ev (some 17) none (.w (.lnl (.t 16))),
 .ev (some 18) none (.w (.bin .lss (.t 14) (.t 17)))])
 (.cond (.t 18) .skip (.exit 0)))
 (.seq (.blk 1 (.seq (.reg [.ev (some 21) none (.w (.mv (.t 0))),
 .ev (some 22) none (.w (.fad 4 (.t 4))),
 .ev (some 23) none (.r (.ld none (.t 22))),
 .ev (some 24) none (.w (.mv (.t 8))),
 .ev (some 25) none (.w (.iad 5 (.t 23) (.t 24))),
 .ev (some 26) none (.r (.ld (some 5) (.t 25))),
 .ev (some 27) none (.w (.mv (.t 2))),
 .ev (some 28) none (.m (.call 39 [.t 21, .t 26, .t 27])),
 .ev (some 9) none (.a (.al [.i (.ofNat 0), .i (.ofNat 0), .s [], .s [], .i (.ofNat 0), .i (.ofNat 0), .s [], .l0, .l0, .l0, .l0])),
 .ev none none (.m (.st 11 (.t 9) (.t 28)))])
 (.seq (.reg [.ev (some 29) none (.w (.mv (.t 0))),
 .ev (some 30) none (.w (.fad 4 (.t 9))),
 .ev (some 31) none (.r (.ld (some 4) (.t 30))),
 .mk (some 32) none (.call 177 []) [(31, .ld (some 4) (.t 30))] [],
 .mk (some 33) none (.call 184 [.t 29, .t 31, .t 32]) [] []])
 (.reg [.ev (some 34) none (.w (.fad 10 (.t 7))),
 .ev (some 35) none (.r (.ld none (.t 34))),
 .ev (some 36) none (.r (.ld (some 11) (.t 9))),
 .ev (some 37) none (.a (.bsl 11 1 [.i (.ofNat 0), .i (.ofNat 0), .s [], .s [], .i (.ofNat 0), .i (.ofNat 0), .s [], .l0, .l0, .l0, .l0] [(0, 11, .t 36)])),
 .ev (some 38) none (.m (.app 11 176 (.t 35) (.t 37))),
 .ev (some 39) none (.w (.fad 10 (.t 7))),
 .ev none none (.m (.st 1 (.t 39) (.t 38)))]))))
 (.reg [.ev (some 19) none (.w (.mv (.t 8))),
 .ev (some 20) none (.w (.bin .add (.t 19) (.k (.c (.i (.ofNat 1)))))),
 .ev (some 8) none (.w (.mv (.t 20)))]))))))
 (.seq (.reg [.ev (some 40) none (.r (.ld (some 11) (.t 7))),
 .ev none none (.m (.st 11 (.t 6) (.t 40)))])
 .ret)))), [.c (some 11) 6]⟩
theorem c189 : cFn ty ibs (cDraw ty ibs) [[.ev 0, .ev 1, .ev 4, .ev 2, .ev 3, .ev 5], [.ev 0, .ev 1, .ev 2, .ev 3, .ev 4]] f189 = some q189 := by decide +kernel
end Go.Ev
