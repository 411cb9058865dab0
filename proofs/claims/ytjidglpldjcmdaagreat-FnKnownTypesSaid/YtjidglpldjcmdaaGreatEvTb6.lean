/-
The table: functions in the evaluator's form, each checked against the program.
-/
import Derived.Test.YtjidglpldjcmdaaGreatEvTb0
set_option linter.unusedVariables false
set_option maxRecDepth 1000000
namespace Go.Ev
open Go Go.Proofs.Tryz

noncomputable def q133 : MFn := ⟨(.seq (.reg [.ev (some 4) none (.a (.al [.i (.ofNat 0), .i (.ofNat 0), .s [], .l0]))])
 (.seq (.seq (.reg [.ev (some 9) none (.w (.mv (.t 0))),
 .ev (some 10) none (.w (.nilc (.t 9))),
 .ev (some 11) none (.w (.fad 2 (.t 10))),
 .ev (some 12) none (.r (.ld none (.t 11))),
 .ev (some 13) none (.w (.bin .geq (.t 12) (.k (.c (.i (.ofNat 0))))))])
 (.cond (.t 13) (.seq (.reg [.ev (some 14) none (.w (.build [.i (.ofNat 0), .i (.ofNat 0), .s [], .l0] [])),
 .ev none none (.m (.st 4 (.t 4) (.t 14)))])
 .ret) .skip))
 (.seq (.reg [.ev (some 15) none (.w (.mv (.t 0))),
 .ev (some 16) none (.m (.call 130 [.t 15])),
 .ev (some 5) none (.w (.mv (.t 16)))])
 (.seq (.reg [.ev (some 17) none (.w (.mv (.t 0))),
 .ev (some 18) none (.w (.mv (.t 1))),
 .ev (some 19) none (.m (.call 53 [.t 17, .t 18])),
 .ev (some 6) none (.a (.al [.i (.ofNat 0), .i (.ofNat 0), .s [], .l0])),
 .ev none none (.m (.st 4 (.t 6) (.t 19)))])
 (.seq (.blk 0 (.loop (.seq (.seq (.reg [.ev (some 20) none (.w (.mv (.t 5))),
 .ev (some 21) none (.w (.mv (.t 20))),
 .ev (some 22) (some (21, true)) (.w (.mv (.t 0))),
 .ev (some 23) (some (21, true)) (.m (.call 52 [.t 22])),
 .ev (some 24) none (.w (.pick (.t 21) (.t 23) (.k (.c (.b false)))))])
 (.cond (.t 24) .skip (.exit 0)))
 (.blk 1 (.seq (.reg [.ev (some 25) none (.w (.mv (.t 0))),
 .ev (some 26) none (.w (.mv (.t 1))),
 .ev (some 27) none (.m (.call 53 [.t 25, .t 26])),
 .ev (some 7) none (.a (.al [.i (.ofNat 0), .i (.ofNat 0), .s [], .l0])),
 .ev none none (.m (.st 4 (.t 7) (.t 27)))])
 (.reg [.ev (some 28) none (.w (.fad 3 (.t 6))),
 .ev (some 29) none (.r (.ld none (.t 28))),
 .ev (some 30) none (.r (.ld (some 4) (.t 7))),
 .ev (some 31) none (.a (.bsl 4 1 [.i (.ofNat 0), .i (.ofNat 0), .s [], .l0] [(0, 4, .t 30)])),
 .ev (some 32) none (.m (.app 4 56 (.t 29) (.t 31))),
 .ev (some 33) none (.w (.fad 3 (.t 6))),
 .ev none none (.m (.st 1 (.t 33) (.t 32)))]))))))
 (.seq (.seq (.reg [.ev (some 34) none (.w (.mv (.t 0))),
 .ev (some 35) none (.m (.call 15 [.t 34, .k (.c (.s [45, 62]))])),
 .ev (some 36) none (.w (.un .not (.t 35)))])
 (.cond (.t 36) (.seq (.reg [.ev (some 37) none (.r (.ld (some 4) (.t 6))),
 .ev none none (.m (.st 4 (.t 4) (.t 37)))])
 .ret) .skip))
 (.seq (.reg [.ev (some 38) none (.w (.mv (.t 0))),
 .ev (some 39) none (.w (.mv (.t 1))),
 .ev (some 40) none (.m (.call 133 [.t 38, .t 39])),
 .ev (some 8) none (.a (.al [.i (.ofNat 0), .i (.ofNat 0), .s [], .l0])),
 .ev none none (.m (.st 4 (.t 8) (.t 40)))])
 (.seq (.reg [.ev (some 41) none (.r (.ld (some 4) (.t 6))),
 .ev (some 42) none (.r (.ld (some 4) (.t 8))),
 .ev (some 43) none (.a (.bsl 4 2 [.i (.ofNat 0), .i (.ofNat 0), .s [], .l0, .i (.ofNat 0), .i (.ofNat 0), .s [], .l0] [(0, 4, .t 41), (4, 4, .t 42)])),
 .ev (some 44) none (.w (.build [.i (.ofNat 0), .i (.ofNat 0), .s [], .l0] [(0, 1, .k (.c (.i (.ofNat 3)))), (3, 1, .t 43)])),
 .ev none none (.m (.st 4 (.t 4) (.t 44)))])
 .ret)))))))), [.c (some 4) 4]⟩
theorem c133 : cFn ty ibs (cDraw ty ibs) [] f133 = some q133 := by decide +kernel
noncomputable def q134 : MFn := ⟨(.seq (.reg [.ev (some 2) none (.a (.al [.i (.ofNat 0), .i (.ofNat 0), .s [], .s [], .l0]))])
 (.seq (.seq (.reg [.ev (some 6) none (.w (.mv (.t 0))),
 .ev (some 7) none (.w (.nilc (.t 6))),
 .ev (some 8) none (.w (.fad 2 (.t 7))),
 .ev (some 9) none (.r (.ld none (.t 8))),
 .ev (some 10) none (.w (.bin .geq (.t 9) (.k (.c (.i (.ofNat 0))))))])
 (.cond (.t 10) (.seq (.reg [.ev (some 11) none (.w (.build [.i (.ofNat 0), .i (.ofNat 0), .s [], .s [], .l0] [])),
 .ev none none (.m (.st 5 (.t 2) (.t 11)))])
 .ret) .skip))
 (.seq (.reg [.ev (some 12) none (.w (.mv (.t 0))),
 .ev (some 13) none (.m (.call 130 [.t 12])),
 .ev (some 3) none (.w (.mv (.t 13)))])
 (.seq (.reg [.ev (some 14) none (.w (.mv (.t 0))),
 .ev (some 15) none (.m (.call 194 [.t 14])),
 .ev (some 4) none (.a (.al [.i (.ofNat 0), .i (.ofNat 0), .s [], .s [], .l0])),
 .ev none none (.m (.st 5 (.t 4) (.t 15)))])
 (.seq (.blk 0 (.loop (.seq (.seq (.reg [.ev (some 16) none (.w (.mv (.t 3))),
 .ev (some 17) none (.w (.mv (.t 16))),
 .ev (some 18) (some (17, true)) (.w (.mv (.t 0))),
 .ev (some 19) (some (17, true)) (.w (.nilc (.t 18))),
 .ev (some 20) (some (17, true)) (.w (.fad 2 (.t 19))),
 .ev (some 21) (some (17, true)) (.r (.ld none (.t 20))),
 .ev (some 22) (some (17, true)) (.w (.bin .lss (.t 21) (.k (.c (.i (.ofNat 0)))))),
 .ev (some 23) none (.w (.pick (.t 17) (.t 22) (.k (.c (.b false))))),
 .ev (some 24) none (.w (.mv (.t 23))),
 .ev (some 25) (some (24, true)) (.w (.mv (.t 0))),
 .ev (some 26) (some (24, true)) (.m (.call 49 [.t 25])),
 .ev (some 27) (some (24, true)) (.w (.mv (.t 26))),
 .ev (some 28) (some (27, false)) (.w (.mv (.t 0))),
 .ev (some 29) (some (27, false)) (.m (.call 130 [.t 28])),
 .ev (some 30) (some (24, true)) (.w (.pick (.t 27) (.k (.c (.b true))) (.t 29))),
 .ev (some 31) (some (24, true)) (.w (.mv (.t 30))),
 .ev (some 32) (some (31, false)) (.w (.mv (.t 0))),
 .ev (some 33) (some (31, false)) (.m (.call 18 [.t 32])),
 .ev (some 34) (some (31, false)) (.w (.fld 0 none (.t 33))),
 .ev (some 35) (some (31, false)) (.w (.bin .eql (.t 34) (.k (.c (.i (.ofNat 3)))))),
 .ev (some 36) (some (24, true)) (.w (.pick (.t 31) (.k (.c (.b true))) (.t 35))),
 .ev (some 37) (some (24, true)) (.w (.mv (.t 36))),
 .ev (some 38) (some (37, false)) (.w (.mv (.t 0))),
 .ev (some 39) (some (37, false)) (.m (.call 46 [.t 38, .k (.c (.s [40]))])),
 .ev (some 40) (some (24, true)) (.w (.pick (.t 37) (.k (.c (.b true))) (.t 39))),
 .ev (some 41) (some (24, true)) (.w (.mv (.t 40))),
 .ev (some 42) (some (41, false)) (.w (.mv (.t 0))),
 .ev (some 43) (some (41, false)) (.m (.call 46 [.t 42, .k (.c (.s [95]))])),
 .ev (some 44) (some (24, true)) (.w (.pick (.t 41) (.k (.c (.b true))) (.t 43))),
 .ev (some 45) none (.w (.pick (.t 24) (.t 44) (.k (.c (.b false)))))])
 (.cond (.t 45) .skip (.exit 0)))
 (.blk 1 (.seq (.reg [.ev (some 46) none (.w (.mv (.t 0))),
 .ev (some 47) none (.m (.call 194 [.t 46])),
 .ev (some 5) none (.a (.al [.i (.ofNat 0), .i (.ofNat 0), .s [], .s [], .l0])),
 .ev none none (.m (.st 5 (.t 5) (.t 47)))])
 (.reg [.ev (some 48) none (.w (.fad 4 (.t 4))),
 .ev (some 49) none (.r (.ld none (.t 48))),
 .ev (some 50) none (.r (.ld (some 5) (.t 5))),
 .ev (some 51) none (.a (.bsl 5 1 [.i (.ofNat 0), .i (.ofNat 0), .s [], .s [], .l0] [(0, 5, .t 50)])),
 .ev (some 52) none (.m (.app 5 72 (.t 49) (.t 51))),
 .ev (some 53) none (.w (.fad 4 (.t 4))),
 .ev none none (.m (.st 1 (.t 53) (.t 52)))]))))))
 (.seq (.reg [.ev (some 54) none (.r (.ld (some 5) (.t 4))),
 .ev none none (.m (.st 5 (.t 2) (.t 54)))])
 .ret)))))), [.c (some 5) 2]⟩
theorem c134 : cFn ty ibs (cDraw ty ibs) [] f134 = some q134 := by decide +kernel
noncomputable def q135 : MFn := ⟨(.seq (.reg [.ev (some 2) none (.a (.al [.i (.ofNat 0), .i (.ofNat 0), .s [], .s [], .l0]))])
 (.seq (.reg [.ev (some 6) none (.w (.mv (.t 0))),
 .ev (some 7) none (.m (.call 195 [.t 6])),
 .ev (some 3) none (.a (.al [.i (.ofNat 0), .i (.ofNat 0), .s [], .s [], .l0])),
 .ev none none (.m (.st 5 (.t 3) (.t 7)))])
 (.blk 0 (.loop (.blk 1 (.seq (.reg [.ev (some 4) none (.w (.mv (.k (.c (.i (.ofNat 10))))))])
 (.seq (.seq (.reg [.ev (some 8) none (.w (.mv (.t 0))),
 .ev (some 9) none (.m (.call 15 [.t 8, .k (.c (.s [43]))])),
 .ev (some 10) none (.w (.un .not (.t 9)))])
 (.cond (.t 10) (.seq (.reg [.ev (some 4) none (.w (.mv (.k (.c (.i (.ofNat 11))))))])
 (.seq (.reg [.ev (some 11) none (.w (.mv (.t 0))),
 .ev (some 12) none (.m (.call 15 [.t 11, .k (.c (.s [45]))])),
 .ev (some 13) none (.w (.un .not (.t 12)))])
 (.cond (.t 13) (.seq (.reg [.ev (some 14) none (.r (.ld (some 5) (.t 3))),
 .ev none none (.m (.st 5 (.t 2) (.t 14)))])
 .ret) .skip))) .skip))
 (.seq (.reg [.ev (some 15) none (.w (.mv (.t 0))),
 .ev (some 16) none (.m (.call 195 [.t 15])),
 .ev (some 5) none (.a (.al [.i (.ofNat 0), .i (.ofNat 0), .s [], .s [], .l0])),
 .ev none none (.m (.st 5 (.t 5) (.t 16)))])
 (.reg [.ev (some 17) none (.w (.mv (.t 4))),
 .ev (some 18) none (.r (.ld (some 5) (.t 3))),
 .ev (some 19) none (.r (.ld (some 5) (.t 5))),
 .ev (some 20) none (.a (.bsl 5 2 [.i (.ofNat 0), .i (.ofNat 0), .s [], .s [], .l0, .i (.ofNat 0), .i (.ofNat 0), .s [], .s [], .l0] [(0, 5, .t 18), (5, 5, .t 19)])),
 .ev (some 21) none (.w (.build [.i (.ofNat 0), .i (.ofNat 0), .s [], .s [], .l0] [(0, 1, .t 17), (4, 1, .t 20)])),
 .ev none none (.m (.st 5 (.t 3) (.t 21)))]))))))))), [.c (some 5) 2]⟩
theorem c135 : cFn ty ibs (cDraw ty ibs) [] f135 = some q135 := by decide +kernel
noncomputable def q136 : MFn := ⟨(.seq (.reg [.ev (some 4) none (.w (.mv (.k (.c (.i (.ofNat 0))))))])
 (.seq (.seq (.reg [.ev (some 6) none (.w (.mv (.t 0))),
 .ev (some 7) none (.w (.lnl (.t 6))),
 .ev (some 8) none (.w (.mv (.k (.c (.i (.ofNat 0))))))])
 (.blk 0 (.loop (.seq (.reg [.ev (some 9) none (.w (.bin .lss (.t 8) (.t 7)))])
 (.seq (.cond (.t 9) .skip (.exit 0))
 (.seq (.blk 1 (.seq (.reg [.ev (some 10) none (.w (.mv (.t 8))),
 .ev (some 5) none (.w (.mv (.t 10)))])
 (.seq (.reg [.ev (some 11) none (.w (.mv (.t 1))),
 .ev (some 12) none (.w (.mv (.t 0))),
 .ev (some 13) none (.w (.mv (.t 5))),
 .ev (some 14) none (.w (.iad 4 (.t 12) (.t 13))),
 .ev (some 15) none (.r (.ld (some 4) (.t 14))),
 .ev (some 16) none (.m (.cal (.t 11) [.t 15]))])
 (.cond (.t 16) (.seq (.reg [.ev (some 17) none (.w (.mv (.t 5))),
 .ev (some 4) none (.w (.mv (.t 17)))])
 .ret) .skip))))
 (.reg [.ev (some 18) none (.w (.bin .add (.t 8) (.k (.c (.i (.ofNat 1)))))),
 .ev (some 8) none (.w (.mv (.t 18)))])))))))
 (.seq (.reg [.ev (some 4) none (.w (.mv (.k (.c (.i (.negSucc 0))))))])
 .ret))), [.t 4]⟩
theorem c136 : cFn ty ibs (cDraw ty ibs) [] f136 = some q136 := by decide +kernel
noncomputable def q137 : MFn := ⟨(.seq (.reg [.ev (some 6) none (.w (.mv (.k (.c (.b false)))))])
 (.seq (.reg [.ev (some 7) none (.w (.mv (.t 0))),
 .ev (some 8) none (.w (.mv (.t 1))),
 .ev (some 9) none (.w (.bin .geq (.t 7) (.t 8))),
 .ev (some 10) none (.w (.mv (.t 9))),
 .ev (some 11) (some (10, true)) (.w (.mv (.t 0))),
 .ev (some 12) (some (10, true)) (.w (.mv (.t 2))),
 .ev (some 13) (some (10, true)) (.w (.bin .leq (.t 11) (.t 12))),
 .ev (some 14) none (.w (.pick (.t 10) (.t 13) (.k (.c (.b false))))),
 .ev (some 6) none (.w (.mv (.t 14)))])
 .ret)), [.t 6]⟩
theorem c137 : cFn ty ibs (cDraw ty ibs) [] f137 = some q137 := by decide +kernel
noncomputable def q138 : MFn := ⟨(.seq (.reg [.ev (some 2) none (.w (.mv (.k (.c (.b false)))))])
 (.seq (.reg [.ev (some 3) none (.w (.mv (.t 0))),
 .ev (some 4) none (.m (.call 196 [.t 3, .k (.c (.f 124 []))])),
 .ev (some 5) none (.w (.mv (.t 4))),
 .ev (some 6) (some (5, true)) (.w (.mv (.t 0))),
 .ev (some 7) (some (5, true)) (.m (.call 131 [.t 6])),
 .ev (some 8) (some (5, true)) (.w (.un .not (.t 7))),
 .ev (some 9) none (.w (.pick (.t 5) (.t 8) (.k (.c (.b false))))),
 .ev (some 2) none (.w (.mv (.t 9)))])
 .ret)), [.t 2]⟩
theorem c138 : cFn ty ibs (cDraw ty ibs) [] f138 = some q138 := by decide +kernel
noncomputable def q139 : MFn := ⟨(.seq (.reg [.ev (some 2) none (.w (.mv (.k (.c (.b false)))))])
 (.seq (.reg [.ev (some 3) none (.w (.mv (.t 0))),
 .ev (some 4) none (.m (.call 196 [.t 3, .k (.c (.f 191 []))])),
 .ev (some 5) none (.w (.mv (.t 4))),
 .ev (some 6) (some (5, true)) (.w (.mv (.t 0))),
 .ev (some 7) (some (5, true)) (.w (.bin .neq (.t 6) (.k (.c (.s [73, 110, 116]))))),
 .ev (some 8) none (.w (.pick (.t 5) (.t 7) (.k (.c (.b false))))),
 .ev (some 2) none (.w (.mv (.t 8)))])
 .ret)), [.t 2]⟩
theorem c139 : cFn ty ibs (cDraw ty ibs) [] f139 = some q139 := by decide +kernel
noncomputable def q140 : MFn := ⟨(.seq (.reg [.ev (some 3) none (.a (.box (.t 1))),
 .ev (some 4) none (.w (.mv (.k (.c (.b false)))))])
 (.seq (.reg [.ev (some 5) none (.w (.mv (.t 0))),
 .ev (some 6) none (.w (.mkf 198 [.t 3])),
 .ev (some 7) none (.m (.call 197 [.t 5, .t 6])),
 .ev (some 8) none (.w (.un .not (.t 7))),
 .ev (some 4) none (.w (.mv (.t 8)))])
 .ret)), [.t 4]⟩
theorem c140 : cFn ty ibs (cDraw ty ibs) [] f140 = some q140 := by decide +kernel
noncomputable def q141 : MFn := ⟨(.seq (.reg [.ev (some 1) none (.a (.box (.t 0))),
 .ev (some 2) none (.w (.mv (.k (.c (.b false)))))])
 (.seq (.reg [.ev (some 3) none (.w (.fad 0 (.t 1))),
 .ev (some 4) none (.r (.ld none (.t 3))),
 .ev (some 5) none (.w (.bin .eql (.t 4) (.k (.c (.i (.ofNat 8)))))),
 .ev (some 6) none (.w (.mv (.t 5))),
 .ev (some 7) (some (6, true)) (.w (.fad 1 (.t 1))),
 .ev (some 8) (some (6, true)) (.r (.ld none (.t 7))),
 .ev (some 9) (some (6, true)) (.w (.bin .eql (.t 8) (.k (.c (.i (.ofNat 0)))))),
 .ev (some 10) none (.w (.pick (.t 6) (.t 9) (.k (.c (.b false))))),
 .ev (some 11) none (.w (.mv (.t 10))),
 .ev (some 12) (some (11, true)) (.w (.fad 2 (.t 1))),
 .ev (some 13) (some (11, true)) (.r (.ld none (.t 12))),
 .ev (some 14) (some (11, true)) (.w (.bin .eql (.t 13) (.k (.c (.s []))))),
 .ev (some 15) none (.w (.pick (.t 11) (.t 14) (.k (.c (.b false))))),
 .ev (some 16) none (.w (.mv (.t 15))),
 .ev (some 17) (some (16, true)) (.w (.fad 3 (.t 1))),
 .ev (some 18) (some (16, true)) (.r (.ld none (.t 17))),
 .ev (some 19) (some (16, true)) (.w (.bin .eql (.t 18) (.k (.c (.s []))))),
 .ev (some 20) none (.w (.pick (.t 16) (.t 19) (.k (.c (.b false))))),
 .ev (some 21) none (.w (.mv (.t 20))),
 .ev (some 22) (some (21, true)) (.w (.fad 4 (.t 1))),
 .ev (some 23) (some (21, true)) (.r (.ld none (.t 22))),
 .ev (some 24) (some (21, true)) (.w (.lnl (.t 23))),
 .ev (some 25) (some (21, true)) (.w (.bin .eql (.t 24) (.k (.c (.i (.ofNat 2)))))),
 .ev (some 26) none (.w (.pick (.t 21) (.t 25) (.k (.c (.b false))))),
 .ev (some 27) none (.w (.mv (.t 26))),
 .ev (some 28) (some (27, true)) (.w (.fad 4 (.t 1))),
 .ev (some 29) (some (27, true)) (.r (.ld none (.t 28))),
 .ev (some 30) (some (27, true)) (.w (.iad 5 (.t 29) (.k (.c (.i (.ofNat 0)))))),
 .ev (some 31) (some (27, true)) (.r (.ld (some 5) (.t 30))),
 .ev (some 32) (some (27, true)) (.m (.call 199 [.t 31])),
 .ev (some 33) none (.w (.pick (.t 27) (.t 32) (.k (.c (.b false))))),
 .ev (some 34) none (.w (.mv (.t 33))),
 .ev (some 35) (some (34, true)) (.w (.fad 4 (.t 1))),
 .ev (some 36) (some (34, true)) (.r (.ld none (.t 35))),
 .ev (some 37) (some (34, true)) (.w (.iad 5 (.t 36) (.k (.c (.i (.ofNat 1)))))),
 .ev (some 38) (some (34, true)) (.r (.ld (some 5) (.t 37))),
 .ev (some 39) (some (34, true)) (.m (.call 62 [.t 38])),
 .ev (some 40) none (.w (.pick (.t 34) (.t 39) (.k (.c (.b false))))),
 .ev (some 2) none (.w (.mv (.t 40)))])
 .ret)), [.t 2]⟩
theorem c141 : cFn ty ibs (cDraw ty ibs) [] f141 = some q141 := by decide +kernel
noncomputable def q142 : MFn := ⟨(.seq (.reg [.ev (some 2) none (.a (.box (.t 0))),
 .ev (some 3) none (.w (.mv (.k (.c (.b false)))))])
 (.seq (.reg [.ev (some 4) none (.r (.ld (some 4) (.t 2))),
 .ev (some 5) none (.w (.fad 1 (.t 1))),
 .ev (some 6) none (.r (.ld none (.t 5))),
 .ev (some 7) none (.m (.call 143 [.t 4, .t 6])),
 .ev (some 8) none (.w (.un .not (.t 7))),
 .ev (some 3) none (.w (.mv (.t 8)))])
 .ret)), [.t 3]⟩
theorem c142 : cFn ty ibs (cDraw ty ibs) [] f142 = some q142 := by decide +kernel
noncomputable def q143 : MFn := ⟨(.seq (.reg [.ev (some 2) none (.a (.box (.t 0))),
 .ev (some 3) none (.a (.box (.t 1))),
 .ev (some 4) none (.w (.mv (.k (.c (.b false)))))])
 (.seq (.reg [.ev (some 5) none (.w (.mv (.k (.c (.b false)))))])
 (.seq (.seq (.reg [.ev (some 6) none (.w (.fad 0 (.t 2))),
 .ev (some 7) none (.r (.ld none (.t 6)))])
 (.blk 0 (.seq (.reg [.ev (some 9) none (.w (.bin .eql (.t 7) (.k (.c (.i (.ofNat 1)))))),
 .ev (some 8) none (.w (.mv (.t 9)))])
 (.cond (.t 8) (.reg [.ev (some 10) none (.w (.fad 1 (.t 2))),
 .ev (some 11) none (.r (.ld none (.t 10))),
 .ev (some 12) none (.w (.bin .eql (.t 11) (.k (.c (.i (.ofNat 0)))))),
 .ev (some 13) none (.w (.mv (.t 12))),
 .ev (some 14) (some (13, true)) (.w (.fad 2 (.t 2))),
 .ev (some 15) (some (13, true)) (.r (.ld none (.t 14))),
 .ev (some 16) (some (13, true)) (.w (.bin .eql (.t 15) (.k (.c (.s []))))),
 .ev (some 17) none (.w (.pick (.t 13) (.t 16) (.k (.c (.b false))))),
 .ev (some 18) none (.w (.mv (.t 17))),
 .ev (some 19) (some (18, true)) (.w (.fad 3 (.t 2))),
 .ev (some 20) (some (18, true)) (.r (.ld none (.t 19))),
 .ev (some 21) (some (18, true)) (.w (.lnl (.t 20))),
 .ev (some 22) (some (18, true)) (.w (.bin .eql (.t 21) (.k (.c (.i (.ofNat 0)))))),
 .ev (some 23) none (.w (.pick (.t 18) (.t 22) (.k (.c (.b false))))),
 .ev (some 5) none (.w (.mv (.t 23)))]) (.seq (.reg [.ev (some 25) none (.w (.bin .eql (.t 7) (.k (.c (.i (.ofNat 2)))))),
 .ev (some 24) none (.w (.mv (.t 25)))])
 (.cond (.t 24) (.reg [.ev (some 26) none (.w (.fad 1 (.t 2))),
 .ev (some 27) none (.r (.ld none (.t 26))),
 .ev (some 28) none (.r (.ld none (.t 3))),
 .ev (some 29) none (.w (.bin .sub (.t 28) (.k (.c (.i (.ofNat 1)))))),
 .ev (some 30) none (.m (.call 137 [.t 27, .k (.c (.i (.ofNat 0))), .t 29])),
 .ev (some 31) none (.w (.mv (.t 30))),
 .ev (some 32) (some (31, true)) (.w (.fad 2 (.t 2))),
 .ev (some 33) (some (31, true)) (.r (.ld none (.t 32))),
 .ev (some 34) (some (31, true)) (.w (.bin .eql (.t 33) (.k (.c (.s []))))),
 .ev (some 35) none (.w (.pick (.t 31) (.t 34) (.k (.c (.b false))))),
 .ev (some 36) none (.w (.mv (.t 35))),
 .ev (some 37) (some (36, true)) (.w (.fad 3 (.t 2))),
 .ev (some 38) (some (36, true)) (.r (.ld none (.t 37))),
 .ev (some 39) (some (36, true)) (.w (.lnl (.t 38))),
 .ev (some 40) (some (36, true)) (.w (.bin .eql (.t 39) (.k (.c (.i (.ofNat 0)))))),
 .ev (some 41) none (.w (.pick (.t 36) (.t 40) (.k (.c (.b false))))),
 .ev (some 5) none (.w (.mv (.t 41)))]) (.seq (.reg [.ev (some 43) none (.w (.bin .eql (.t 7) (.k (.c (.i (.ofNat 3)))))),
 .ev (some 42) none (.w (.mv (.t 43)))])
 (.cond (.t 42) (.reg [.ev (some 44) none (.w (.fad 1 (.t 2))),
 .ev (some 45) none (.r (.ld none (.t 44))),
 .ev (some 46) none (.w (.bin .eql (.t 45) (.k (.c (.i (.ofNat 0)))))),
 .ev (some 47) none (.w (.mv (.t 46))),
 .ev (some 48) (some (47, true)) (.w (.fad 2 (.t 2))),
 .ev (some 49) (some (47, true)) (.r (.ld none (.t 48))),
 .ev (some 50) (some (47, true)) (.w (.bin .eql (.t 49) (.k (.c (.s []))))),
 .ev (some 51) none (.w (.pick (.t 47) (.t 50) (.k (.c (.b false))))),
 .ev (some 52) none (.w (.mv (.t 51))),
 .ev (some 53) (some (52, true)) (.w (.fad 3 (.t 2))),
 .ev (some 54) (some (52, true)) (.r (.ld none (.t 53))),
 .ev (some 55) (some (52, true)) (.w (.lnl (.t 54))),
 .ev (some 56) (some (52, true)) (.w (.bin .eql (.t 55) (.k (.c (.i (.ofNat 2)))))),
 .ev (some 57) none (.w (.pick (.t 52) (.t 56) (.k (.c (.b false))))),
 .ev (some 5) none (.w (.mv (.t 57)))]) (.seq (.reg [.ev (some 59) none (.w (.bin .eql (.t 7) (.k (.c (.i (.ofNat 4)))))),
 .ev (some 58) none (.w (.mv (.t 59)))])
 (.cond (.t 58) (.reg [.ev (some 60) none (.w (.fad 1 (.t 2))),
 .ev (some 61) none (.r (.ld none (.t 60))),
 .ev (some 62) none (.w (.bin .eql (.t 61) (.k (.c (.i (.ofNat 0)))))),
 .ev (some 63) none (.w (.mv (.t 62))),
 .ev (some 64) (some (63, true)) (.w (.fad 2 (.t 2))),
 .ev (some 65) (some (63, true)) (.r (.ld none (.t 64))),
 .ev (some 66) (some (63, true)) (.m (.call 139 [.t 65])),
 .ev (some 67) none (.w (.pick (.t 63) (.t 66) (.k (.c (.b false))))),
 .ev (some 5) none (.w (.mv (.t 67)))]) .skip))))))))))
 (.seq (.reg [.ev (some 68) none (.w (.mv (.t 5))),
 .ev (some 69) none (.w (.mv (.t 68))),
 .ev (some 70) (some (69, true)) (.w (.fad 3 (.t 2))),
 .ev (some 71) (some (69, true)) (.r (.ld none (.t 70))),
 .ev (some 72) (some (69, true)) (.w (.mkf 200 [.t 3])),
 .ev (some 73) (some (69, true)) (.m (.call 57 [.t 71, .t 72])),
 .ev (some 74) (some (69, true)) (.w (.un .not (.t 73))),
 .ev (some 75) none (.w (.pick (.t 69) (.t 74) (.k (.c (.b false))))),
 .ev (some 4) none (.w (.mv (.t 75)))])
 .ret)))), [.t 4]⟩
theorem c143 : cFn ty ibs (cDraw ty ibs) [] f143 = some q143 := by decide +kernel
noncomputable def q144 : MFn := ⟨(.seq (.reg [.ev (some 4) none (.w (.mv (.k (.c (.b false)))))])
 (.seq (.reg [.ev (some 5) none (.w (.mv (.t 0))),
 .ev (some 6) none (.w (.mv (.t 1))),
 .ev (some 7) none (.m (.call 132 [.t 5, .t 6])),
 .ev (some 8) none (.w (.bin .geq (.t 7) (.k (.c (.i (.ofNat 0)))))),
 .ev (some 4) none (.w (.mv (.t 8)))])
 .ret)), [.t 4]⟩
theorem c144 : cFn ty ibs (cDraw ty ibs) [] f144 = some q144 := by decide +kernel
noncomputable def q145 : MFn := ⟨(.seq (.reg [.ev (some 2) none (.a (.box (.t 0))),
 .ev (some 3) none (.w (.mv (.k (.c (.b false)))))])
 (.seq (.reg [.ev (some 4) none (.r (.ld (some 4) (.t 2))),
 .ev (some 5) none (.r (.ld none (.t 1))),
 .ev (some 6) none (.m (.call 146 [.t 4, .t 5])),
 .ev (some 3) none (.w (.mv (.t 6)))])
 .ret)), [.t 3]⟩
theorem c145 : cFn ty ibs (cDraw ty ibs) [] f145 = some q145 := by decide +kernel
noncomputable def q146 : MFn := ⟨(.seq (.reg [.ev (some 2) none (.a (.box (.t 0))),
 .ev (some 3) none (.a (.box (.t 1))),
 .ev (some 4) none (.w (.mv (.k (.c (.b false)))))])
 (.seq (.reg [.ev (some 5) none (.r (.ld none (.t 3))),
 .ev (some 6) none (.r (.ld (some 4) (.t 2))),
 .ev (some 7) none (.m (.cal (.t 5) [.t 6])),
 .ev (some 8) none (.w (.mv (.t 7))),
 .ev (some 9) (some (8, false)) (.w (.fad 3 (.t 2))),
 .ev (some 10) (some (8, false)) (.r (.ld none (.t 9))),
 .ev (some 11) (some (8, false)) (.w (.mkf 201 [.t 3])),
 .ev (some 12) (some (8, false)) (.m (.call 57 [.t 10, .t 11])),
 .ev (some 13) none (.w (.pick (.t 8) (.k (.c (.b true))) (.t 12))),
 .ev (some 4) none (.w (.mv (.t 13)))])
 .ret)), [.t 4]⟩
theorem c146 : cFn ty ibs (cDraw ty ibs) [] f146 = some q146 := by decide +kernel
noncomputable def q147 : MFn := ⟨(.seq (.reg [.ev (some 2) none (.a (.box (.t 0))),
 .ev (some 3) none (.w (.mv (.k (.c (.b false)))))])
 (.seq (.reg [.ev (some 4) none (.w (.fad 0 (.t 2))),
 .ev (some 5) none (.r (.ld none (.t 4))),
 .ev (some 6) none (.r (.ld none (.t 1))),
 .ev (some 7) none (.w (.bin .eql (.t 5) (.t 6))),
 .ev (some 3) none (.w (.mv (.t 7)))])
 .ret)), [.t 3]⟩
theorem c147 : cFn ty ibs (cDraw ty ibs) [] f147 = some q147 := by decide +kernel
noncomputable def q148 : MFn := ⟨(.seq (.reg [.ev (some 2) none (.w (.mv (.k (.c .l0))))])
 (.seq (.seq (.reg [.ev (some 3) none (.w (.mv (.t 0))),
 .ev (some 4) none (.w (.eql false (.t 3) (.k (.c .l0))))])
 (.cond (.t 4) (.seq (.reg [.ev (some 2) none (.w (.mv (.k (.c .l0))))])
 .ret) .skip))
 (.seq (.reg [.ev (some 5) none (.a (.bsl 6 0 [] [])),
 .ev (some 6) none (.w (.mv (.t 0))),
 .ev (some 7) none (.m (.app 6 96 (.t 5) (.t 6))),
 .ev (some 2) none (.w (.mv (.t 7)))])
 .ret))), [.t 2]⟩
theorem c148 : cFn ty ibs (cDraw ty ibs) [] f148 = some q148 := by decide +kernel
noncomputable def q149 : MFn := ⟨(.seq (.reg [.ev (some 4) none (.a (.box (.t 1))),
 .ev (some 5) none (.a (.box (.t 2))),
 .ev (some 6) none (.w (.mv (.k (.c .l0)))),
 .ev (some 7) none (.w (.mv (.k (.c (.b false)))))])
 (.seq (.reg [.ev (some 13) none (.w (.mv (.t 0))),
 .ev (some 14) none (.r (.ld (some 4) (.t 4))),
 .ev (some 16) none (.w (.mv (.t 0))),
 .ev (some 17) none (.r (.ld (some 4) (.t 5))),
 .ev (some 8) none (.a (.al [.i (.ofNat 0), .i (.ofNat 0), .s [], .l0])),
 .ev (some 9) none (.a (.al [.i (.ofNat 0), .i (.ofNat 0), .s [], .l0])),
 .mk (some 15) none (.call 84 [.t 13, .t 14]) [(17, .ld (some 4) (.t 5))] [(8, .al [.i (.ofNat 0), .i (.ofNat 0), .s [], .l0]), (9, .al [.i (.ofNat 0), .i (.ofNat 0), .s [], .l0])],
 .mk (some 18) none (.call 84 [.t 16, .t 17]) [] [(8, .al [.i (.ofNat 0), .i (.ofNat 0), .s [], .l0]), (9, .al [.i (.ofNat 0), .i (.ofNat 0), .s [], .l0])],
 .mk none none (.st 4 (.t 8) (.t 15)) [] [],
 .mk none none (.st 4 (.t 9) (.t 18)) [] []])
 (.seq (.blk 0 (.seq (.seq (.reg [.ev (some 20) none (.w (.fad 0 (.t 8))),
 .ev (some 21) none (.r (.ld none (.t 20))),
 .ev (some 22) none (.w (.bin .eql (.t 21) (.k (.c (.i (.ofNat 2)))))),
 .ev (some 23) none (.w (.mv (.t 22))),
 .ev (some 24) (some (23, true)) (.w (.fad 0 (.t 9))),
 .ev (some 25) (some (23, true)) (.r (.ld none (.t 24))),
 .ev (some 26) (some (23, true)) (.w (.bin .eql (.t 25) (.k (.c (.i (.ofNat 2)))))),
 .ev (some 27) none (.w (.pick (.t 23) (.t 26) (.k (.c (.b false))))),
 .ev (some 28) none (.w (.mv (.t 27))),
 .ev (some 29) (some (28, true)) (.w (.fad 1 (.t 8))),
 .ev (some 30) (some (28, true)) (.r (.ld none (.t 29))),
 .ev (some 31) (some (28, true)) (.w (.fad 1 (.t 9))),
 .ev (some 32) (some (28, true)) (.r (.ld none (.t 31))),
 .ev (some 33) (some (28, true)) (.w (.bin .eql (.t 30) (.t 32))),
 .ev (some 34) none (.w (.pick (.t 28) (.t 33) (.k (.c (.b false))))),
 .ev (some 19) none (.w (.mv (.t 34)))])
 (.cond (.t 19) .skip (.reg [.ev (some 35) none (.w (.fad 0 (.t 8))),
 .ev (some 36) none (.r (.ld none (.t 35))),
 .ev (some 37) none (.w (.bin .eql (.t 36) (.k (.c (.i (.ofNat 1)))))),
 .ev (some 38) none (.w (.mv (.t 37))),
 .ev (some 39) (some (38, true)) (.w (.fad 0 (.t 9))),
 .ev (some 40) (some (38, true)) (.r (.ld none (.t 39))),
 .ev (some 41) (some (38, true)) (.w (.bin .eql (.t 40) (.k (.c (.i (.ofNat 1)))))),
 .ev (some 42) none (.w (.pick (.t 38) (.t 41) (.k (.c (.b false))))),
 .ev (some 19) none (.w (.mv (.t 42)))])))
 (.cond (.t 19) (.seq (.reg [.ev (some 43) none (.w (.mv (.t 0))),
 .ev (some 6) none (.w (.mv (.t 43))),
 .ev (some 7) none (.w (.mv (.k (.c (.b true)))))])
 .ret) (.seq (.reg [.ev (some 45) none (.w (.fad 0 (.t 8))),
 .ev (some 46) none (.r (.ld none (.t 45))),
 .ev (some 47) none (.w (.bin .eql (.t 46) (.k (.c (.i (.ofNat 2)))))),
 .ev (some 44) none (.w (.mv (.t 47)))])
 (.cond (.t 44) (.seq (.reg [.ev (some 48) none (.w (.mv (.t 0))),
 .ev (some 49) none (.w (.fad 1 (.t 8))),
 .ev (some 50) none (.r (.ld none (.t 49))),
 .ev (some 51) none (.r (.ld (some 4) (.t 9))),
 .ev (some 52) none (.m (.call 202 [.t 48, .t 50, .t 51])),
 .ev (some 53) none (.w (.ext 0 (.t 52))),
 .ev (some 54) none (.w (.ext 1 (.t 52))),
 .ev (some 6) none (.w (.mv (.t 53))),
 .ev (some 7) none (.w (.mv (.t 54)))])
 .ret) (.seq (.reg [.ev (some 56) none (.w (.fad 0 (.t 9))),
 .ev (some 57) none (.r (.ld none (.t 56))),
 .ev (some 58) none (.w (.bin .eql (.t 57) (.k (.c (.i (.ofNat 2)))))),
 .ev (some 55) none (.w (.mv (.t 58)))])
 (.cond (.t 55) (.seq (.reg [.ev (some 59) none (.w (.mv (.t 0))),
 .ev (some 60) none (.w (.fad 1 (.t 9))),
 .ev (some 61) none (.r (.ld none (.t 60))),
 .ev (some 62) none (.r (.ld (some 4) (.t 8))),
 .ev (some 63) none (.m (.call 202 [.t 59, .t 61, .t 62])),
 .ev (some 64) none (.w (.ext 0 (.t 63))),
 .ev (some 65) none (.w (.ext 1 (.t 63))),
 .ev (some 6) none (.w (.mv (.t 64))),
 .ev (some 7) none (.w (.mv (.t 65)))])
 .ret) (.seq (.reg [.ev (some 67) none (.w (.fad 0 (.t 8))),
 .ev (some 68) none (.r (.ld none (.t 67))),
 .ev (some 69) none (.w (.fad 0 (.t 9))),
 .ev (some 70) none (.r (.ld none (.t 69))),
 .ev (some 71) none (.w (.bin .neq (.t 68) (.t 70))),
 .ev (some 72) none (.w (.mv (.t 71))),
 .ev (some 73) (some (72, false)) (.w (.fad 2 (.t 8))),
 .ev (some 74) (some (72, false)) (.r (.ld none (.t 73))),
 .ev (some 75) (some (72, false)) (.w (.fad 2 (.t 9))),
 .ev (some 76) (some (72, false)) (.r (.ld none (.t 75))),
 .ev (some 77) (some (72, false)) (.w (.bin .neq (.t 74) (.t 76))),
 .ev (some 78) none (.w (.pick (.t 72) (.k (.c (.b true))) (.t 77))),
 .ev (some 79) none (.w (.mv (.t 78))),
 .ev (some 80) (some (79, false)) (.w (.fad 3 (.t 8))),
 .ev (some 81) (some (79, false)) (.r (.ld none (.t 80))),
 .ev (some 82) (some (79, false)) (.w (.lnl (.t 81))),
 .ev (some 83) (some (79, false)) (.w (.fad 3 (.t 9))),
 .ev (some 84) (some (79, false)) (.r (.ld none (.t 83))),
 .ev (some 85) (some (79, false)) (.w (.lnl (.t 84))),
 .ev (some 86) (some (79, false)) (.w (.bin .neq (.t 82) (.t 85))),
 .ev (some 87) none (.w (.pick (.t 79) (.k (.c (.b true))) (.t 86))),
 .ev (some 66) none (.w (.mv (.t 87)))])
 (.cond (.t 66) (.seq (.reg [.ev (some 6) none (.w (.mv (.k (.c .l0)))),
 .ev (some 7) none (.w (.mv (.k (.c (.b false)))))])
 .ret) .skip)))))))))
 (.seq (.seq (.reg [.ev (some 88) none (.w (.fad 3 (.t 8))),
 .ev (some 89) none (.r (.ld none (.t 88))),
 .ev (some 90) none (.w (.lnl (.t 89))),
 .ev (some 91) none (.w (.mv (.k (.c (.i (.ofNat 0))))))])
 (.blk 1 (.loop (.seq (.reg [.ev (some 92) none (.w (.bin .lss (.t 91) (.t 90)))])
 (.seq (.cond (.t 92) .skip (.exit 1))
 (.seq (.blk 2 (.seq (.reg [.ev (some 93) none (.w (.mv (.t 91))),
 .ev (some 10) none (.w (.mv (.t 93)))])
 (.seq (.reg [.ev (some 95) none (.w (.mv (.t 0))),
 .ev (some 96) none (.w (.fad 3 (.t 8))),
 .ev (some 97) none (.r (.ld none (.t 96))),
 .ev (some 98) none (.w (.mv (.t 10))),
 .ev (some 99) none (.w (.iad 4 (.t 97) (.t 98))),
 .ev (some 100) none (.r (.ld (some 4) (.t 99))),
 .ev (some 101) none (.w (.fad 3 (.t 9))),
 .ev (some 102) none (.r (.ld none (.t 101))),
 .ev (some 103) none (.w (.mv (.t 10))),
 .ev (some 104) none (.w (.iad 4 (.t 102) (.t 103))),
 .ev (some 105) none (.r (.ld (some 4) (.t 104))),
 .mk (some 106) none (.call 149 [.t 95, .t 100, .t 105]) [] [],
 .ev (some 94) none (.w (.mv (.t 106))),
 .ev (some 107) none (.w (.ext 0 (.t 94))),
 .ev (some 108) none (.w (.ext 1 (.t 94))),
 .ev (some 11) none (.w (.mv (.t 107))),
 .ev (some 12) none (.w (.mv (.t 108)))])
 (.seq (.seq (.reg [.ev (some 109) none (.w (.mv (.t 12))),
 .ev (some 110) none (.w (.un .not (.t 109)))])
 (.cond (.t 110) (.seq (.reg [.ev (some 6) none (.w (.mv (.k (.c .l0)))),
 .ev (some 7) none (.w (.mv (.k (.c (.b false)))))])
 .ret) .skip))
 (.reg [.ev (some 111) none (.w (.mv (.t 11))),
 .ev (some 0) none (.w (.mv (.t 111)))])))))
 (.reg [.ev (some 112) none (.w (.bin .add (.t 91) (.k (.c (.i (.ofNat 1)))))),
 .ev (some 91) none (.w (.mv (.t 112)))])))))))
 (.seq (.reg [.ev (some 113) none (.w (.mv (.t 0))),
 .ev (some 6) none (.w (.mv (.t 113))),
 .ev (some 7) none (.w (.mv (.k (.c (.b true)))))])
 .ret))))), [.t 6, .t 7]⟩
theorem c149 : cFn ty ibs (cDraw ty ibs) [[.ev 0, .ev 1, .ev 3, .ev 4, .ev 6, .ev 7, .ev 2, .ev 5, .ev 8, .ev 9], [.ev 0, .ev 1, .ev 2, .ev 3, .ev 4, .ev 5, .ev 6, .ev 7, .ev 8, .ev 9, .ev 10, .ev 11, .ev 12, .ev 13, .ev 14, .ev 15, .ev 16]] f149 = some q149 := by decide +kernel
noncomputable def q150 : MFn := ⟨(.seq (.reg [.ev (some 5) none (.a (.box (.t 2))),
 .ev (some 6) none (.a (.al [.l0, .i (.ofNat 0), .i (.ofNat 0), .s [], .l0]))])
 (.seq (.reg [.ev (some 7) none (.w (.mv (.t 0))),
 .ev (some 8) none (.w (.nilc (.t 7))),
 .ev (some 9) none (.w (.fad 1 (.t 8))),
 .ev (some 10) none (.r (.ld none (.t 9))),
 .ev (some 11) none (.r (.ld (some 4) (.t 5))),
 .mk (some 12) none (.call 84 [.t 10, .t 11]) [] [],
 .mk none none (.st 4 (.t 5) (.t 12)) [] []])
 (.seq (.reg [.ev (some 13) none (.w (.mv (.t 0))),
 .ev (some 14) none (.w (.mv (.t 1))),
 .ev (some 16) none (.r (.ld (some 4) (.t 5))),
 .ev (some 18) none (.r (.ld (some 4) (.t 5))),
 .mk (some 15) none (.call 204 [.t 13, .t 14]) [(16, .ld (some 4) (.t 5)), (18, .ld (some 4) (.t 5))] [],
 .mk (some 17) none (.call 203 [.t 15, .t 16]) [(18, .ld (some 4) (.t 5))] [],
 .ev (some 19) none (.w (.build [.l0, .i (.ofNat 0), .i (.ofNat 0), .s [], .l0] [(0, 1, .t 17), (1, 4, .t 18)])),
 .mk none none (.st 5 (.t 6) (.t 19)) [] []])
 .ret))), [.c (some 5) 6]⟩
theorem c150 : cFn ty ibs (cDraw ty ibs) [[.ev 0, .ev 1, .ev 2, .ev 3, .ev 4, .ev 5, .ev 6], [.ev 0, .ev 1, .ev 3, .ev 5, .ev 2, .ev 4, .ev 6, .ev 7]] f150 = some q150 := by decide +kernel
noncomputable def q151 : MFn := ⟨(.seq (.reg [.ev (some 1) none (.a (.box (.t 0))),
 .ev (some 2) none (.w (.mv (.k (.c (.b false)))))])
 (.seq (.reg [.ev (some 6) none (.r (.ld (some 5) (.t 1))),
 .ev (some 7) none (.m (.call 205 [.t 6, .k (.c .l0)])),
 .ev (some 3) none (.w (.mv (.t 7)))])
 (.seq (.seq (.reg [.ev (some 8) none (.w (.mv (.t 3))),
 .ev (some 9) none (.w (.lnl (.t 8))),
 .ev (some 10) none (.w (.mv (.k (.c (.i (.ofNat 0))))))])
 (.blk 0 (.loop (.seq (.reg [.ev (some 11) none (.w (.bin .lss (.t 10) (.t 9)))])
 (.seq (.cond (.t 11) .skip (.exit 0))
 (.seq (.blk 1 (.seq (.reg [.ev (some 12) none (.w (.mv (.t 10))),
 .ev (some 13) none (.w (.iad 1 (.t 8) (.t 10))),
 .ev (some 14) none (.r (.ld none (.t 13))),
 .ev (some 4) none (.w (.mv (.t 12))),
 .ev (some 5) none (.w (.mv (.t 14)))])
 (.seq (.reg [.ev (some 15) none (.w (.mv (.t 3))),
 .ev (some 16) none (.w (.mv (.t 4))),
 .ev (some 17) none (.w (.sll 1 (.t 15) none (some (.t 16)) none)),
 .ev (some 18) none (.w (.mv (.t 5))),
 .ev (some 19) none (.m (.call 144 [.t 17, .t 18]))])
 (.cond (.t 19) (.seq (.reg [.ev (some 2) none (.w (.mv (.k (.c (.b true)))))])
 .ret) .skip))))
 (.reg [.ev (some 20) none (.w (.bin .add (.t 10) (.k (.c (.i (.ofNat 1)))))),
 .ev (some 10) none (.w (.mv (.t 20)))])))))))
 (.seq (.reg [.ev (some 2) none (.w (.mv (.k (.c (.b false)))))])
 .ret)))), [.t 2]⟩
theorem c151 : cFn ty ibs (cDraw ty ibs) [] f151 = some q151 := by decide +kernel
noncomputable def q152 : MFn := ⟨(.seq (.reg [.ev (some 3) none (.a (.box (.t 0))),
 .ev (some 4) none (.a (.box (.t 1))),
 .ev (some 5) none (.a (.box (.t 2))),
 .ev (some 6) none (.a (.al [.i (.ofNat 0), .i (.ofNat 0), .s [], .s [], .i (.ofNat 0), .i (.ofNat 0), .s [], .l0, .l0, .l0, .l0]))])
 (.seq (.reg [.ev (some 8) none (.w (.fad 0 (.t 4))),
 .ev (some 9) none (.r (.ld none (.t 8))),
 .ev (some 10) none (.w (.fad 1 (.t 4))),
 .ev (some 11) none (.r (.ld none (.t 10))),
 .ev (some 12) none (.w (.fad 2 (.t 4))),
 .ev (some 13) none (.r (.ld none (.t 12))),
 .ev (some 14) none (.w (.fad 3 (.t 4))),
 .ev (some 15) none (.r (.ld none (.t 14))),
 .ev (some 16) none (.w (.build [.i (.ofNat 0), .i (.ofNat 0), .s [], .s [], .i (.ofNat 0), .i (.ofNat 0), .s [], .l0, .l0, .l0, .l0] [(0, 1, .t 9), (1, 1, .t 11), (2, 1, .t 13), (3, 1, .t 15)])),
 .ev (some 7) none (.a (.al [.i (.ofNat 0), .i (.ofNat 0), .s [], .s [], .i (.ofNat 0), .i (.ofNat 0), .s [], .l0, .l0, .l0, .l0])),
 .ev none none (.m (.st 11 (.t 7) (.t 16)))])
 (.seq (.seq (.reg [.ev (some 17) none (.r (.ld none (.t 3))),
 .ev (some 18) none (.w (.nilc (.t 17))),
 .ev (some 19) none (.w (.fad 3 (.t 18))),
 .ev (some 20) none (.r (.ld none (.t 19))),
 .ev (some 21) none (.w (.bin .neq (.t 20) (.k (.c (.i (.ofNat 0))))))])
 (.cond (.t 21) (.seq (.reg [.ev (some 22) none (.r (.ld (some 11) (.t 7))),
 .ev none none (.m (.st 11 (.t 6) (.t 22)))])
 .ret) .skip))
 (.seq (.seq (.reg [.ev (some 23) none (.w (.fad 0 (.t 4))),
 .ev (some 24) none (.r (.ld none (.t 23)))])
 (.blk 0 (.seq (.reg [.ev (some 45) none (.w (.bin .eql (.t 24) (.k (.c (.i (.ofNat 19)))))),
 .ev (some 44) none (.w (.mv (.t 45)))])
 (.cond (.t 44) (.reg [.ev (some 46) none (.w (.build [.i (.ofNat 0), .i (.ofNat 0), .s [], .l0] [(0, 1, .k (.c (.i (.ofNat 1))))])),
 .ev (some 47) none (.w (.fad 4 (.t 7))),
 .ev none none (.m (.st 4 (.t 47) (.t 46)))]) (.seq (.reg [.ev (some 49) none (.w (.bin .eql (.t 24) (.k (.c (.i (.ofNat 20)))))),
 .ev (some 48) none (.w (.mv (.t 49)))])
 (.cond (.t 48) (.reg [.ev (some 50) none (.r (.ld none (.t 3))),
 .ev (some 51) none (.r (.ld (some 5) (.t 4))),
 .ev (some 52) none (.w (.mkf 206 [.t 3, .t 5])),
 .ev (some 53) none (.m (.call 80 [.t 50, .t 51, .t 7, .t 52]))]) (.seq (.reg [.ev (some 25) none (.r (.ld none (.t 3))),
 .ev (some 26) none (.m (.call 74 [.t 25])),
 .ev (some 27) none (.w (.fad 4 (.t 7))),
 .ev none none (.m (.st 4 (.t 27) (.t 26)))])
 (.seq (.reg [.ev (some 28) none (.w (.fad 0 (.t 4))),
 .ev (some 29) none (.r (.ld none (.t 28))),
 .ev (some 30) none (.w (.bin .eql (.t 29) (.k (.c (.i (.ofNat 18))))))])
 (.cond (.t 30) (.reg [.ev (some 31) none (.r (.ld none (.t 5))),
 .ev (some 32) none (.r (.ld none (.t 5))),
 .ev (some 33) none (.w (.nilc (.t 32))),
 .ev (some 34) none (.r (.ld none (.t 33))),
 .ev (some 35) none (.w (.fad 2 (.t 4))),
 .ev (some 36) none (.r (.ld none (.t 35))),
 .ev (some 37) none (.w (.fad 4 (.t 7))),
 .ev (some 38) none (.r (.ld (some 4) (.t 37))),
 .ev (some 39) none (.w (.build [.l0, .i (.ofNat 0), .i (.ofNat 0), .s [], .l0] [(1, 4, .t 38)])),
 .ev (some 40) none (.w (.build [.s [], .l0, .i (.ofNat 0), .i (.ofNat 0), .s [], .l0] [(0, 1, .t 36), (1, 5, .t 39)])),
 .ev (some 41) none (.a (.bsl 6 1 [.s [], .l0, .i (.ofNat 0), .i (.ofNat 0), .s [], .l0] [(0, 6, .t 40)])),
 .mk (some 42) none (.app 6 96 (.t 34) (.t 41)) [(31, .ld none (.t 5))] [],
 .ev (some 43) none (.w (.nilc (.t 31))),
 .mk none none (.st 1 (.t 43) (.t 42)) [] []]) .skip)))))))))
 (.seq (.reg [.ev (some 54) none (.r (.ld none (.t 3))),
 .ev (some 55) none (.r (.ld (some 11) (.t 7))),
 .ev (some 56) none (.m (.call 83 [.t 54, .t 55]))])
 (.seq (.reg [.ev (some 57) none (.r (.ld (some 11) (.t 7))),
 .ev none none (.m (.st 11 (.t 6) (.t 57)))])
 .ret)))))), [.c (some 11) 6]⟩
theorem c152 : cFn ty ibs (cDraw ty ibs) [[.ev 0, .ev 1, .ev 2, .ev 3, .ev 4, .ev 5, .ev 6, .ev 7, .ev 8, .ev 9, .ev 10, .ev 11, .ev 12, .ev 13]] f152 = some q152 := by decide +kernel
noncomputable def q153 : MFn := ⟨(.seq (.reg [.ev (some 3) none (.a (.box (.t 1))),
 .ev (some 4) none (.w (.mv (.k (.c (.i (.ofNat 0)))))),
 .ev (some 5) none (.w (.mv (.k (.c (.i (.ofNat 0))))))])
 (.seq (.seq (.reg [.ev (some 9) none (.w (.mv (.t 0))),
 .ev (some 10) none (.w (.lnl (.t 9))),
 .ev (some 11) none (.w (.mv (.k (.c (.i (.ofNat 0))))))])
 (.blk 0 (.loop (.seq (.reg [.ev (some 12) none (.w (.bin .lss (.t 11) (.t 10)))])
 (.seq (.cond (.t 12) .skip (.exit 0))
 (.seq (.blk 1 (.seq (.reg [.ev (some 13) none (.w (.mv (.t 11))),
 .ev (some 14) none (.w (.iad 3 (.t 9) (.t 11))),
 .ev (some 15) none (.r (.ld (some 3) (.t 14))),
 .ev (some 7) none (.a (.al [.s [], .i (.ofNat 0), .l0])),
 .ev (some 6) none (.w (.mv (.t 13))),
 .ev none none (.m (.st 3 (.t 7) (.t 15)))])
 (.seq (.reg [.ev (some 16) none (.w (.fad 2 (.t 7))),
 .ev (some 17) none (.r (.ld none (.t 16))),
 .ev (some 18) none (.w (.mkf 208 [.t 3])),
 .ev (some 19) none (.m (.call 207 [.t 17, .t 18])),
 .ev (some 8) none (.w (.mv (.t 19)))])
 (.seq (.reg [.ev (some 20) none (.w (.mv (.t 8))),
 .ev (some 21) none (.w (.bin .geq (.t 20) (.k (.c (.i (.ofNat 0))))))])
 (.cond (.t 21) (.seq (.reg [.ev (some 22) none (.w (.mv (.t 6))),
 .ev (some 23) none (.w (.mv (.t 8))),
 .ev (some 4) none (.w (.mv (.t 22))),
 .ev (some 5) none (.w (.mv (.t 23)))])
 .ret) .skip)))))
 (.reg [.ev (some 24) none (.w (.bin .add (.t 11) (.k (.c (.i (.ofNat 1)))))),
 .ev (some 11) none (.w (.mv (.t 24)))])))))))
 (.seq (.reg [.ev (some 4) none (.w (.mv (.k (.c (.i (.negSucc 0)))))),
 .ev (some 5) none (.w (.mv (.k (.c (.i (.negSucc 0))))))])
 .ret))), [.t 4, .t 5]⟩
theorem c153 : cFn ty ibs (cDraw ty ibs) [] f153 = some q153 := by decide +kernel
noncomputable def q154 : MFn := ⟨(.seq (.reg [.ev (some 2) none (.a (.box (.t 0))),
 .ev (some 4) none (.a (.al [.i (.ofNat 0), .i (.ofNat 0), .s [], .l0]))])
 (.seq (.seq (.reg [.ev (some 9) none (.w (.fad 0 (.t 2))),
 .ev (some 10) none (.r (.ld none (.t 9))),
 .ev (some 11) none (.w (.bin .eql (.t 10) (.k (.c (.i (.ofNat 2)))))),
 .ev (some 12) none (.w (.mv (.t 11))),
 .ev (some 13) (some (12, true)) (.w (.fad 1 (.t 2))),
 .ev (some 14) (some (12, true)) (.r (.ld none (.t 13))),
 .ev (some 15) (some (12, true)) (.w (.mv (.t 1))),
 .ev (some 16) (some (12, true)) (.w (.lnl (.t 15))),
 .ev (some 17) (some (12, true)) (.w (.bin .sub (.t 16) (.k (.c (.i (.ofNat 1)))))),
 .ev (some 18) (some (12, true)) (.m (.call 137 [.t 14, .k (.c (.i (.ofNat 0))), .t 17])),
 .ev (some 19) none (.w (.pick (.t 12) (.t 18) (.k (.c (.b false)))))])
 (.cond (.t 19) (.seq (.reg [.ev (some 20) none (.w (.mv (.t 1))),
 .ev (some 21) none (.w (.fad 1 (.t 2))),
 .ev (some 22) none (.r (.ld none (.t 21))),
 .ev (some 23) none (.w (.iad 4 (.t 20) (.t 22))),
 .ev (some 24) none (.r (.ld (some 4) (.t 23))),
 .ev (some 25) none (.m (.call 93 [.t 24])),
 .ev none none (.m (.st 4 (.t 4) (.t 25)))])
 .ret) .skip))
 (.seq (.reg [.ev (some 26) none (.a (.bsl 4 0 [] [])),
 .ev (some 5) none (.w (.mv (.t 26)))])
 (.seq (.seq (.reg [.ev (some 27) none (.w (.fad 3 (.t 2))),
 .ev (some 28) none (.r (.ld none (.t 27))),
 .ev (some 29) none (.w (.lnl (.t 28))),
 .ev (some 30) none (.w (.mv (.k (.c (.i (.ofNat 0))))))])
 (.blk 0 (.loop (.seq (.reg [.ev (some 31) none (.w (.bin .lss (.t 30) (.t 29)))])
 (.seq (.cond (.t 31) .skip (.exit 0))
 (.seq (.blk 1 (.seq (.reg [.ev (some 32) none (.w (.iad 4 (.t 28) (.t 30))),
 .ev (some 33) none (.r (.ld (some 4) (.t 32))),
 .ev (some 7) none (.a (.al [.i (.ofNat 0), .i (.ofNat 0), .s [], .l0])),
 .ev none none (.m (.st 4 (.t 7) (.t 33)))])
 (.seq (.reg [.ev (some 34) none (.r (.ld (some 4) (.t 7))),
 .ev (some 35) none (.w (.mv (.t 1))),
 .ev (some 36) none (.m (.call 154 [.t 34, .t 35])),
 .ev (some 8) none (.a (.al [.i (.ofNat 0), .i (.ofNat 0), .s [], .l0])),
 .ev none none (.m (.st 4 (.t 8) (.t 36)))])
 (.reg [.ev (some 37) none (.w (.mv (.t 5))),
 .ev (some 38) none (.r (.ld (some 4) (.t 8))),
 .ev (some 39) none (.a (.bsl 4 1 [.i (.ofNat 0), .i (.ofNat 0), .s [], .l0] [(0, 4, .t 38)])),
 .ev (some 40) none (.m (.app 4 56 (.t 37) (.t 39))),
 .ev (some 5) none (.w (.mv (.t 40)))]))))
 (.reg [.ev (some 41) none (.w (.bin .add (.t 30) (.k (.c (.i (.ofNat 1)))))),
 .ev (some 30) none (.w (.mv (.t 41)))])))))))
 (.seq (.reg [.ev (some 42) none (.w (.mv (.t 5))),
 .ev (some 43) none (.w (.fad 3 (.t 2))),
 .ev none none (.m (.st 1 (.t 43) (.t 42)))])
 (.seq (.reg [.ev (some 44) none (.r (.ld (some 4) (.t 2))),
 .ev none none (.m (.st 4 (.t 4) (.t 44)))])
 .ret)))))), [.c (some 4) 4]⟩
theorem c154 : cFn ty ibs (cDraw ty ibs) [] f154 = some q154 := by decide +kernel
noncomputable def q155 : MFn := ⟨(.seq (.reg [.ev (some 2) none (.w (.mv (.k (.c .l0))))])
 (.seq (.reg [.ev (some 6) none (.a (.bsl 4 0 [] [])),
 .ev (some 3) none (.w (.mv (.t 6)))])
 (.seq (.seq (.reg [.ev (some 7) none (.w (.mv (.t 0))),
 .ev (some 8) none (.w (.lnl (.t 7))),
 .ev (some 9) none (.w (.mv (.k (.c (.i (.ofNat 0))))))])
 (.blk 0 (.loop (.seq (.reg [.ev (some 10) none (.w (.bin .lss (.t 9) (.t 8)))])
 (.seq (.cond (.t 10) .skip (.exit 0))
 (.seq (.blk 1 (.seq (.reg [.ev (some 11) none (.w (.iad 4 (.t 7) (.t 9))),
 .ev (some 12) none (.r (.ld (some 4) (.t 11))),
 .ev (some 5) none (.a (.al [.i (.ofNat 0), .i (.ofNat 0), .s [], .l0])),
 .ev none none (.m (.st 4 (.t 5) (.t 12)))])
 (.reg [.ev (some 13) none (.w (.mv (.t 3))),
 .ev (some 14) none (.r (.ld (some 4) (.t 5))),
 .ev (some 15) none (.m (.call 93 [.t 14])),
 .ev (some 16) none (.a (.bsl 4 1 [.i (.ofNat 0), .i (.ofNat 0), .s [], .l0] [(0, 4, .t 15)])),
 .ev (some 17) none (.m (.app 4 56 (.t 13) (.t 16))),
 .ev (some 3) none (.w (.mv (.t 17)))])))
 (.reg [.ev (some 18) none (.w (.bin .add (.t 9) (.k (.c (.i (.ofNat 1)))))),
 .ev (some 9) none (.w (.mv (.t 18)))])))))))
 (.seq (.reg [.ev (some 19) none (.w (.mv (.t 3))),
 .ev (some 2) none (.w (.mv (.t 19)))])
 .ret)))), [.t 2]⟩
theorem c155 : cFn ty ibs (cDraw ty ibs) [] f155 = some q155 := by decide +kernel
noncomputable def q156 : MFn := ⟨(.seq (.reg [.ev (some 1) none (.a (.box (.t 0))),
 .ev (some 2) none (.w (.mv (.k (.c (.i (.ofNat 0))))))])
 (.seq (.reg [.ev (some 3) none (.w (.mv (.k (.c (.i (.ofNat 1))))))])
 (.seq (.seq (.reg [.ev (some 6) none (.w (.fad 3 (.t 1))),
 .ev (some 7) none (.r (.ld none (.t 6))),
 .ev (some 8) none (.w (.lnl (.t 7))),
 .ev (some 9) none (.w (.mv (.k (.c (.i (.ofNat 0))))))])
 (.blk 0 (.loop (.seq (.reg [.ev (some 10) none (.w (.bin .lss (.t 9) (.t 8)))])
 (.seq (.cond (.t 10) .skip (.exit 0))
 (.seq (.blk 1 (.seq (.reg [.ev (some 11) none (.w (.iad 4 (.t 7) (.t 9))),
 .ev (some 12) none (.r (.ld (some 4) (.t 11))),
 .ev (some 5) none (.a (.al [.i (.ofNat 0), .i (.ofNat 0), .s [], .l0])),
 .ev none none (.m (.st 4 (.t 5) (.t 12)))])
 (.reg [.ev (some 13) none (.w (.mv (.t 3))),
 .ev (some 14) none (.r (.ld (some 4) (.t 5))),
 .ev (some 15) none (.m (.call 156 [.t 14])),
 .ev (some 16) none (.w (.bin .add (.t 13) (.t 15))),
 .ev (some 3) none (.w (.mv (.t 16)))])))
 (.reg [.ev (some 17) none (.w (.bin .add (.t 9) (.k (.c (.i (.ofNat 1)))))),
 .ev (some 9) none (.w (.mv (.t 17)))])))))))
 (.seq (.reg [.ev (some 18) none (.w (.mv (.t 3))),
 .ev (some 2) none (.w (.mv (.t 18)))])
 .ret)))), [.t 2]⟩
theorem c156 : cFn ty ibs (cDraw ty ibs) [] f156 = some q156 := by decide +kernel
noncomputable def q157 : MFn := ⟨(.seq (.reg [.ev (some 2) none (.a (.box (.t 0))),
 .ev (some 3) none (.w (.mv (.k (.c (.b false)))))])
 (.seq (.reg [.ev (some 4) none (.r (.ld none (.t 1))),
 .ev (some 5) none (.w (.nilc (.t 4))),
 .ev (some 6) none (.w (.fad 1 (.t 5))),
 .ev (some 7) none (.r (.ld none (.t 6))),
 .ev (some 8) none (.r (.ld (some 4) (.t 2))),
 .mk (some 9) none (.call 84 [.t 7, .t 8]) [] [],
 .mk (some 10) none (.call 156 [.t 9]) [] [],
 .ev (some 11) none (.w (.bin .gtr (.t 10) (.k (.c (.i (.ofNat 200)))))),
 .ev (some 3) none (.w (.mv (.t 11)))])
 .ret)), [.t 3]⟩
theorem c157 : cFn ty ibs (cDraw ty ibs) [[.ev 0, .ev 1, .ev 2, .ev 3, .ev 4, .ev 5, .ev 6, .ev 7, .ev 8]] f157 = some q157 := by decide +kernel
noncomputable def q158 : MFn := ⟨(.seq (.reg [.ev (some 3) none (.a (.box (.t 1))),
 .ev (some 4) none (.w (.mv (.k (.c (.i (.ofNat 0))))))])
 (.seq (.reg [.ev (some 5) none (.w (.mv (.t 0))),
 .ev (some 6) none (.w (.mkf 210 [.t 3])),
 .ev (some 7) none (.m (.call 209 [.t 5, .t 6])),
 .ev (some 4) none (.w (.mv (.t 7)))])
 .ret)), [.t 4]⟩
theorem c158 : cFn ty ibs (cDraw ty ibs) [] f158 = some q158 := by decide +kernel
noncomputable def q159 : MFn := ⟨(.seq (.reg [.ev (some 1) none (.a (.box (.t 0))),
 .ev (some 2) none (.w (.mv (.k (.c (.b false)))))])
 (.seq (.reg [.ev (some 3) none (.w (.mv (.k (.c (.b false)))))])
 (.seq (.seq (.reg [.ev (some 4) none (.w (.fad 0 (.t 1))),
 .ev (some 5) none (.r (.ld none (.t 4)))])
 (.blk 0 (.seq (.reg [.ev (some 7) none (.w (.bin .eql (.t 5) (.k (.c (.i (.ofNat 1)))))),
 .ev (some 6) none (.w (.mv (.t 7)))])
 (.cond (.t 6) (.reg [.ev (some 8) none (.w (.fad 1 (.t 1))),
 .ev (some 9) none (.r (.ld none (.t 8))),
 .ev (some 10) none (.w (.bin .eql (.t 9) (.k (.c (.i (.ofNat 0)))))),
 .ev (some 11) none (.w (.mv (.t 10))),
 .ev (some 12) (some (11, true)) (.w (.fad 2 (.t 1))),
 .ev (some 13) (some (11, true)) (.r (.ld none (.t 12))),
 .ev (some 14) (some (11, true)) (.w (.bin .eql (.t 13) (.k (.c (.s []))))),
 .ev (some 15) none (.w (.pick (.t 11) (.t 14) (.k (.c (.b false))))),
 .ev (some 16) none (.w (.mv (.t 15))),
 .ev (some 17) (some (16, true)) (.w (.fad 3 (.t 1))),
 .ev (some 18) (some (16, true)) (.r (.ld none (.t 17))),
 .ev (some 19) (some (16, true)) (.w (.lnl (.t 18))),
 .ev (some 20) (some (16, true)) (.w (.bin .eql (.t 19) (.k (.c (.i (.ofNat 0)))))),
 .ev (some 21) none (.w (.pick (.t 16) (.t 20) (.k (.c (.b false))))),
 .ev (some 3) none (.w (.mv (.t 21)))]) (.seq (.reg [.ev (some 23) none (.w (.bin .eql (.t 5) (.k (.c (.i (.ofNat 2)))))),
 .ev (some 22) none (.w (.mv (.t 23)))])
 (.cond (.t 22) (.reg [.ev (some 24) none (.w (.fad 1 (.t 1))),
 .ev (some 25) none (.r (.ld none (.t 24))),
 .ev (some 26) none (.w (.bin .geq (.t 25) (.k (.c (.i (.ofNat 0)))))),
 .ev (some 27) none (.w (.mv (.t 26))),
 .ev (some 28) (some (27, true)) (.w (.fad 2 (.t 1))),
 .ev (some 29) (some (27, true)) (.r (.ld none (.t 28))),
 .ev (some 30) (some (27, true)) (.w (.bin .eql (.t 29) (.k (.c (.s []))))),
 .ev (some 31) none (.w (.pick (.t 27) (.t 30) (.k (.c (.b false))))),
 .ev (some 32) none (.w (.mv (.t 31))),
 .ev (some 33) (some (32, true)) (.w (.fad 3 (.t 1))),
 .ev (some 34) (some (32, true)) (.r (.ld none (.t 33))),
 .ev (some 35) (some (32, true)) (.w (.lnl (.t 34))),
 .ev (some 36) (some (32, true)) (.w (.bin .eql (.t 35) (.k (.c (.i (.ofNat 0)))))),
 .ev (some 37) none (.w (.pick (.t 32) (.t 36) (.k (.c (.b false))))),
 .ev (some 3) none (.w (.mv (.t 37)))]) (.seq (.reg [.ev (some 39) none (.w (.bin .eql (.t 5) (.k (.c (.i (.ofNat 3)))))),
 .ev (some 38) none (.w (.mv (.t 39)))])
 (.cond (.t 38) (.reg [.ev (some 40) none (.w (.fad 1 (.t 1))),
 .ev (some 41) none (.r (.ld none (.t 40))),
 .ev (some 42) none (.w (.bin .eql (.t 41) (.k (.c (.i (.ofNat 0)))))),
 .ev (some 43) none (.w (.mv (.t 42))),
 .ev (some 44) (some (43, true)) (.w (.fad 2 (.t 1))),
 .ev (some 45) (some (43, true)) (.r (.ld none (.t 44))),
 .ev (some 46) (some (43, true)) (.w (.bin .eql (.t 45) (.k (.c (.s []))))),
 .ev (some 47) none (.w (.pick (.t 43) (.t 46) (.k (.c (.b false))))),
 .ev (some 48) none (.w (.mv (.t 47))),
 .ev (some 49) (some (48, true)) (.w (.fad 3 (.t 1))),
 .ev (some 50) (some (48, true)) (.r (.ld none (.t 49))),
 .ev (some 51) (some (48, true)) (.w (.lnl (.t 50))),
 .ev (some 52) (some (48, true)) (.w (.bin .eql (.t 51) (.k (.c (.i (.ofNat 2)))))),
 .ev (some 53) none (.w (.pick (.t 48) (.t 52) (.k (.c (.b false))))),
 .ev (some 3) none (.w (.mv (.t 53)))]) (.seq (.reg [.ev (some 55) none (.w (.bin .eql (.t 5) (.k (.c (.i (.ofNat 4)))))),
 .ev (some 54) none (.w (.mv (.t 55)))])
 (.cond (.t 54) (.reg [.ev (some 56) none (.w (.fad 1 (.t 1))),
 .ev (some 57) none (.r (.ld none (.t 56))),
 .ev (some 58) none (.w (.bin .eql (.t 57) (.k (.c (.i (.ofNat 0)))))),
 .ev (some 59) none (.w (.mv (.t 58))),
 .ev (some 60) (some (59, true)) (.w (.fad 2 (.t 1))),
 .ev (some 61) (some (59, true)) (.r (.ld none (.t 60))),
 .ev (some 62) (some (59, true)) (.w (.bin .neq (.t 61) (.k (.c (.s []))))),
 .ev (some 63) none (.w (.pick (.t 59) (.t 62) (.k (.c (.b false))))),
 .ev (some 3) none (.w (.mv (.t 63)))]) .skip))))))))))
 (.seq (.reg [.ev (some 64) none (.w (.mv (.t 3))),
 .ev (some 65) none (.w (.mv (.t 64))),
 .ev (some 66) (some (65, true)) (.w (.fad 3 (.t 1))),
 .ev (some 67) (some (65, true)) (.r (.ld none (.t 66))),
 .ev (some 68) (some (65, true)) (.m (.call 57 [.t 67, .k (.c (.f 211 []))])),
 .ev (some 69) (some (65, true)) (.w (.un .not (.t 68))),
 .ev (some 70) none (.w (.pick (.t 65) (.t 69) (.k (.c (.b false))))),
 .ev (some 2) none (.w (.mv (.t 70)))])
 .ret)))), [.t 2]⟩
theorem c159 : cFn ty ibs (cDraw ty ibs) [] f159 = some q159 := by decide +kernel
noncomputable def q160 : MFn := ⟨(.seq (.reg [.ev (some 4) none (.w (.mv (.k (.c (.i (.ofNat 0))))))])
 (.seq (.seq (.reg [.ev (some 6) none (.w (.mv (.t 0))),
 .ev (some 7) none (.w (.lnl (.t 6))),
 .ev (some 8) none (.w (.mv (.k (.c (.i (.ofNat 0))))))])
 (.blk 0 (.loop (.seq (.reg [.ev (some 9) none (.w (.bin .lss (.t 8) (.t 7)))])
 (.seq (.cond (.t 9) .skip (.exit 0))
 (.seq (.blk 1 (.seq (.reg [.ev (some 10) none (.w (.mv (.t 8))),
 .ev (some 5) none (.w (.mv (.t 10)))])
 (.seq (.reg [.ev (some 11) none (.w (.mv (.t 1))),
 .ev (some 12) none (.w (.mv (.t 0))),
 .ev (some 13) none (.w (.mv (.t 5))),
 .ev (some 14) none (.w (.iad 11 (.t 12) (.t 13))),
 .ev (some 15) none (.r (.ld (some 11) (.t 14))),
 .ev (some 16) none (.m (.cal (.t 11) [.t 15]))])
 (.cond (.t 16) (.seq (.reg [.ev (some 17) none (.w (.mv (.t 5))),
 .ev (some 4) none (.w (.mv (.t 17)))])
 .ret) .skip))))
 (.reg [.ev (some 18) none (.w (.bin .add (.t 8) (.k (.c (.i (.ofNat 1)))))),
 .ev (some 8) none (.w (.mv (.t 18)))])))))))
 (.seq (.reg [.ev (some 4) none (.w (.mv (.k (.c (.i (.negSucc 0))))))])
 .ret))), [.t 4]⟩
theorem c160 : cFn ty ibs (cDraw ty ibs) [] f160 = some q160 := by decide +kernel
noncomputable def q161 : MFn := ⟨(.seq (.reg [.ev (some 2) none (.w (.mv (.k (.c (.b false)))))])
 (.seq (.reg [.ev (some 3) none (.w (.mv (.t 0))),
 .ev (some 4) none (.w (.bin .geq (.t 3) (.k (.c (.j .u8 (.ofNat 97)))))),
 .ev (some 5) none (.w (.mv (.t 4))),
 .ev (some 6) (some (5, true)) (.w (.mv (.t 0))),
 .ev (some 7) (some (5, true)) (.w (.bin .leq (.t 6) (.k (.c (.j .u8 (.ofNat 122)))))),
 .ev (some 8) none (.w (.pick (.t 5) (.t 7) (.k (.c (.b false))))),
 .ev (some 2) none (.w (.mv (.t 8)))])
 .ret)), [.t 2]⟩
theorem c161 : cFn ty ibs (cDraw ty ibs) [] f161 = some q161 := by decide +kernel
noncomputable def q162 : MFn := ⟨(.seq (.reg [.ev (some 2) none (.w (.mv (.k (.c (.b false)))))])
 (.seq (.reg [.ev (some 3) none (.w (.mv (.t 0))),
 .ev (some 4) none (.w (.bin .geq (.t 3) (.k (.c (.j .u8 (.ofNat 65)))))),
 .ev (some 5) none (.w (.mv (.t 4))),
 .ev (some 6) (some (5, true)) (.w (.mv (.t 0))),
 .ev (some 7) (some (5, true)) (.w (.bin .leq (.t 6) (.k (.c (.j .u8 (.ofNat 90)))))),
 .ev (some 8) none (.w (.pick (.t 5) (.t 7) (.k (.c (.b false))))),
 .ev (some 2) none (.w (.mv (.t 8)))])
 .ret)), [.t 2]⟩
theorem c162 : cFn ty ibs (cDraw ty ibs) [] f162 = some q162 := by decide +kernel
noncomputable def q163 : MFn := ⟨(.seq (.reg [.ev (some 2) none (.w (.mv (.k (.c (.b false)))))])
 (.seq (.reg [.ev (some 3) none (.w (.mv (.t 0))),
 .ev (some 4) none (.w (.bin .geq (.t 3) (.k (.c (.j .u8 (.ofNat 48)))))),
 .ev (some 5) none (.w (.mv (.t 4))),
 .ev (some 6) (some (5, true)) (.w (.mv (.t 0))),
 .ev (some 7) (some (5, true)) (.w (.bin .leq (.t 6) (.k (.c (.j .u8 (.ofNat 57)))))),
 .ev (some 8) none (.w (.pick (.t 5) (.t 7) (.k (.c (.b false))))),
 .ev (some 2) none (.w (.mv (.t 8)))])
 .ret)), [.t 2]⟩
theorem c163 : cFn ty ibs (cDraw ty ibs) [] f163 = some q163 := by decide +kernel
noncomputable def q164 : MFn := ⟨(.seq (.reg [.ev (some 2) none (.w (.mv (.k (.c (.i (.ofNat 0)))))),
 .ev (some 3) none (.w (.mv (.k (.c (.b false)))))])
 (.seq (.seq (.reg [.ev (some 6) none (.w (.mv (.t 0))),
 .ev (some 7) none (.w (.lns (.t 6))),
 .ev (some 8) none (.w (.bin .lss (.t 7) (.k (.c (.i (.ofNat 1)))))),
 .ev (some 9) none (.w (.mv (.t 8))),
 .ev (some 10) (some (9, false)) (.w (.mv (.t 0))),
 .ev (some 11) (some (9, false)) (.w (.lns (.t 10))),
 .ev (some 12) (some (9, false)) (.w (.bin .gtr (.t 11) (.k (.c (.i (.ofNat 10)))))),
 .ev (some 13) none (.w (.pick (.t 9) (.k (.c (.b true))) (.t 12)))])
 (.cond (.t 13) (.seq (.reg [.ev (some 2) none (.w (.mv (.k (.c (.i (.ofNat 0)))))),
 .ev (some 3) none (.w (.mv (.k (.c (.b false)))))])
 .ret) .skip))
 (.seq (.reg [.ev (some 4) none (.w (.mv (.k (.c (.i (.ofNat 0))))))])
 (.seq (.seq (.reg [.ev (some 5) none (.w (.mv (.k (.c (.i (.ofNat 0))))))])
 (.blk 0 (.loop (.seq (.seq (.reg [.ev (some 14) none (.w (.mv (.t 5))),
 .ev (some 15) none (.w (.mv (.t 0))),
 .ev (some 16) none (.w (.lns (.t 15))),
 .ev (some 17) none (.w (.bin .lss (.t 14) (.t 16)))])
 (.cond (.t 17) .skip (.exit 0)))
 (.seq (.blk 1 (.seq (.seq (.reg [.ev (some 20) none (.w (.mv (.t 0))),
 .ev (some 21) none (.w (.mv (.t 5))),
 .ev (some 22) none (.w (.ixs (.t 20) (.t 21))),
 .ev (some 23) none (.w (.bin .lss (.t 22) (.k (.c (.j .u8 (.ofNat 48)))))),
 .ev (some 24) none (.w (.mv (.t 23))),
 .ev (some 25) (some (24, false)) (.w (.mv (.t 0))),
 .ev (some 26) (some (24, false)) (.w (.mv (.t 5))),
 .ev (some 27) (some (24, false)) (.w (.ixs (.t 25) (.t 26))),
 .ev (some 28) (some (24, false)) (.w (.bin .gtr (.t 27) (.k (.c (.j .u8 (.ofNat 57)))))),
 .ev (some 29) none (.w (.pick (.t 24) (.k (.c (.b true))) (.t 28)))])
 (.cond (.t 29) (.seq (.reg [.ev (some 2) none (.w (.mv (.k (.c (.i (.ofNat 0)))))),
 .ev (some 3) none (.w (.mv (.k (.c (.b false)))))])
 .ret) .skip))
 (.reg [.ev (some 30) none (.w (.mv (.t 4))),
 .ev (some 31) none (.w (.bin .mul (.k (.c (.i (.ofNat 10)))) (.t 30))),
 .ev (some 32) none (.w (.mv (.t 0))),
 .ev (some 33) none (.w (.mv (.t 5))),
 .ev (some 34) none (.w (.ixs (.t 32) (.t 33))),
 .ev (some 35) none (.w (.cv .i64 (.t 34))),
 .ev (some 36) none (.w (.bin .add (.t 31) (.t 35))),
 .ev (some 37) none (.w (.bin .sub (.t 36) (.k (.c (.i (.ofNat 48)))))),
 .ev (some 4) none (.w (.mv (.t 37)))])))
 (.reg [.ev (some 18) none (.w (.mv (.t 5))),
 .ev (some 19) none (.w (.bin .add (.t 18) (.k (.c (.i (.ofNat 1)))))),
 .ev (some 5) none (.w (.mv (.t 19)))]))))))
 (.seq (.seq (.reg [.ev (some 38) none (.w (.mv (.t 4))),
 .ev (some 39) none (.m (.call 212 [.t 38])),
 .ev (some 40) none (.w (.un .not (.t 39))),
 .ev (some 41) none (.w (.mv (.t 40))),
 .ev (some 42) (some (41, false)) (.w (.mv (.t 4))),
 .ev (some 43) (some (41, false)) (.m (.call 213 [.t 42])),
 .ev (some 44) (some (41, false)) (.w (.mv (.t 0))),
 .ev (some 45) (some (41, false)) (.w (.bin .neq (.t 43) (.t 44))),
 .ev (some 46) none (.w (.pick (.t 41) (.k (.c (.b true))) (.t 45)))])
 (.cond (.t 46) (.seq (.reg [.ev (some 2) none (.w (.mv (.k (.c (.i (.ofNat 0)))))),
 .ev (some 3) none (.w (.mv (.k (.c (.b false)))))])
 .ret) .skip))
 (.seq (.reg [.ev (some 47) none (.w (.mv (.t 4))),
 .ev (some 2) none (.w (.mv (.t 47))),
 .ev (some 3) none (.w (.mv (.k (.c (.b true)))))])
 .ret)))))), [.t 2, .t 3]⟩
theorem c164 : cFn ty ibs (cDraw ty ibs) [] f164 = some q164 := by decide +kernel
noncomputable def q165 : MFn := ⟨(.seq (.reg [.ev (some 4) none (.w (.mv (.k (.c (.s [])))))])
 (.seq (.seq (.reg [.ev (some 7) none (.w (.mv (.t 1))),
 .ev (some 8) none (.w (.bin .add (.t 7) (.k (.c (.i (.ofNat 1)))))),
 .ev (some 9) none (.w (.mv (.t 0))),
 .ev (some 10) none (.w (.lns (.t 9))),
 .ev (some 11) none (.w (.bin .lss (.t 8) (.t 10))),
 .ev (some 12) none (.w (.mv (.t 11))),
 .ev (some 13) (some (12, true)) (.w (.mv (.t 0))),
 .ev (some 14) (some (12, true)) (.w (.mv (.t 1))),
 .ev (some 15) (some (12, true)) (.w (.mv (.t 1))),
 .ev (some 16) (some (12, true)) (.w (.bin .add (.t 15) (.k (.c (.i (.ofNat 2)))))),
 .ev (some 17) (some (12, true)) (.w (.sls (.t 13) (some (.t 14)) (some (.t 16)))),
 .ev (some 18) (some (12, true)) (.w (.bin .eql (.t 17) (.k (.c (.s [45, 62]))))),
 .ev (some 19) (some (12, true)) (.w (.mv (.t 18))),
 .ev (some 20) (some (19, false)) (.w (.mv (.t 0))),
 .ev (some 21) (some (19, false)) (.w (.mv (.t 1))),
 .ev (some 22) (some (19, false)) (.w (.mv (.t 1))),
 .ev (some 23) (some (19, false)) (.w (.bin .add (.t 22) (.k (.c (.i (.ofNat 2)))))),
 .ev (some 24) (some (19, false)) (.w (.sls (.t 20) (some (.t 21)) (some (.t 23)))),
 .ev (some 25) (some (19, false)) (.w (.bin .eql (.t 24) (.k (.c (.s [61, 61]))))),
 .ev (some 26) (some (12, true)) (.w (.pick (.t 19) (.k (.c (.b true))) (.t 25))),
 .ev (some 27) none (.w (.pick (.t 12) (.t 26) (.k (.c (.b false)))))])
 (.cond (.t 27) (.seq (.reg [.ev (some 28) none (.w (.mv (.t 0))),
 .ev (some 29) none (.w (.mv (.t 1))),
 .ev (some 30) none (.w (.mv (.t 1))),
 .ev (some 31) none (.w (.bin .add (.t 30) (.k (.c (.i (.ofNat 2)))))),
 .ev (some 32) none (.w (.sls (.t 28) (some (.t 29)) (some (.t 31)))),
 .ev (some 4) none (.w (.mv (.t 32)))])
 .ret) .skip))
 (.seq (.reg [.ev (some 5) none (.w (.mv (.k (.c (.s [40, 41, 123, 125, 59, 61, 124, 43, 45, 42, 60, 95])))))])
 (.seq (.seq (.reg [.ev (some 6) none (.w (.mv (.k (.c (.i (.ofNat 0))))))])
 (.blk 0 (.loop (.seq (.seq (.reg [.ev (some 33) none (.w (.mv (.t 6))),
 .ev (some 34) none (.w (.mv (.t 5))),
 .ev (some 35) none (.w (.lns (.t 34))),
 .ev (some 36) none (.w (.bin .lss (.t 33) (.t 35)))])
 (.cond (.t 36) .skip (.exit 0)))
 (.seq (.blk 1 (.seq (.reg [.ev (some 39) none (.w (.mv (.t 5))),
 .ev (some 40) none (.w (.mv (.t 6))),
 .ev (some 41) none (.w (.ixs (.t 39) (.t 40))),
 .ev (some 42) none (.w (.mv (.t 0))),
 .ev (some 43) none (.w (.mv (.t 1))),
 .ev (some 44) none (.w (.ixs (.t 42) (.t 43))),
 .ev (some 45) none (.w (.bin .eql (.t 41) (.t 44)))])
 (.cond (.t 45) (.seq (.reg [.ev (some 46) none (.w (.mv (.t 0))),
 .ev (some 47) none (.w (.mv (.t 1))),
 .ev (some 48) none (.w (.mv (.t 1))),
 .ev (some 49) none (.w (.bin .add (.t 48) (.k (.c (.i (.ofNat 1)))))),
 .ev (some 50) none (.w (.sls (.t 46) (some (.t 47)) (some (.t 49)))),
 .ev (some 4) none (.w (.mv (.t 50)))])
 .ret) .skip)))
 (.reg [.ev (some 37) none (.w (.mv (.t 6))),
 .ev (some 38) none (.w (.bin .add (.t 37) (.k (.c (.i (.ofNat 1)))))),
 .ev (some 6) none (.w (.mv (.t 38)))]))))))
 (.seq (.reg [.ev (some 4) none (.w (.mv (.k (.c (.s [])))))])
 .ret))))), [.t 4]⟩
theorem c165 : cFn ty ibs (cDraw ty ibs) [[.ev 0, .ev 1, .ev 2, .ev 3, .ev 4, .ev 5, .ev 6]] f165 = some q165 := by decide +kernel
end Go.Ev
