/-
The table: functions in the evaluator's form, each checked against the program.
-/
import Derived.Test.YtjidglpldjcmdaaGreatEvTb0
set_option linter.unusedVariables false
set_option maxRecDepth 1000000
namespace Go.Ev
open Go Go.Proofs.Tryz

noncomputable def q251 : MFn := ⟨(.seq (.reg [.ev (some 2) none (.a (.box (.t 0))),
 .ev (some 4) none (.w (.mv (.k (.c .l0))))])
 (.seq (.seq (.reg [.ev (some 6) none (.w (.fad 0 (.t 2))),
 .ev (some 7) none (.r (.ld none (.t 6))),
 .ev (some 8) none (.w (.bin .eql (.t 7) (.k (.c (.i (.ofNat 2))))))])
 (.cond (.t 8) (.reg [.ev (some 9) none (.w (.mv (.t 1))),
 .ev (some 10) none (.w (.fad 1 (.t 2))),
 .ev (some 11) none (.r (.ld none (.t 10))),
 .ev (some 12) none (.m (.call 263 [.t 9, .t 11])),
 .ev (some 1) none (.w (.mv (.t 12)))]) .skip))
 (.seq (.seq (.reg [.ev (some 5) none (.w (.mv (.k (.c (.i (.ofNat 0))))))])
 (.blk 0 (.loop (.seq (.seq (.reg [.ev (some 13) none (.w (.mv (.t 5))),
 .ev (some 14) none (.w (.fad 3 (.t 2))),
 .ev (some 15) none (.r (.ld none (.t 14))),
 .ev (some 16) none (.w (.lnl (.t 15))),
 .ev (some 17) none (.w (.bin .lss (.t 13) (.t 16)))])
 (.cond (.t 17) .skip (.exit 0)))
 (.seq (.blk 1 (.reg [.ev (some 20) none (.w (.fad 3 (.t 2))),
 .ev (some 21) none (.r (.ld none (.t 20))),
 .ev (some 22) none (.w (.mv (.t 5))),
 .ev (some 23) none (.w (.iad 4 (.t 21) (.t 22))),
 .ev (some 24) none (.r (.ld (some 4) (.t 23))),
 .ev (some 25) none (.w (.mv (.t 1))),
 .ev (some 26) none (.m (.call 251 [.t 24, .t 25])),
 .ev (some 1) none (.w (.mv (.t 26)))]))
 (.reg [.ev (some 18) none (.w (.mv (.t 5))),
 .ev (some 19) none (.w (.bin .add (.t 18) (.k (.c (.i (.ofNat 1)))))),
 .ev (some 5) none (.w (.mv (.t 19)))]))))))
 (.seq (.reg [.ev (some 27) none (.w (.mv (.t 1))),
 .ev (some 4) none (.w (.mv (.t 27)))])
 .ret)))), [.t 4]⟩
theorem c251 : cFn ty ibs (cDraw ty ibs) [] f251 = some q251 := by decide +kernel
noncomputable def q252 : MFn := ⟨(.seq (.reg [.ev (some 8) none (.w (.mv (.t 1))),
 .ev (some 9) none (.w (.bin .add (.t 8) (.k (.c (.i (.ofNat 1)))))),
 .ev (some 6) none (.w (.mv (.t 9)))])
 (.blk 0 (.loop (.seq (.seq (.reg [.ev (some 10) none (.w (.mv (.t 6))),
 .ev (some 11) none (.w (.mv (.t 2))),
 .ev (some 12) none (.w (.bin .lss (.t 10) (.t 11)))])
 (.cond (.t 12) .skip (.exit 0)))
 (.seq (.blk 1 (.seq (.reg [.ev (some 15) none (.w (.mv (.t 6))),
 .ev (some 7) none (.w (.mv (.t 15)))])
 (.blk 2 (.loop (.seq (.seq (.reg [.ev (some 16) none (.w (.mv (.t 7))),
 .ev (some 17) none (.w (.mv (.t 1))),
 .ev (some 18) none (.w (.bin .gtr (.t 16) (.t 17))),
 .ev (some 19) none (.w (.mv (.t 18))),
 .ev (some 20) (some (19, true)) (.w (.mv (.t 0))),
 .ev (some 21) (some (19, true)) (.w (.mv (.t 7))),
 .ev (some 22) (some (19, true)) (.w (.iad 1 (.t 20) (.t 21))),
 .ev (some 23) (some (19, true)) (.r (.ld none (.t 22))),
 .ev (some 24) (some (19, true)) (.w (.mv (.t 0))),
 .ev (some 25) (some (19, true)) (.w (.mv (.t 7))),
 .ev (some 26) (some (19, true)) (.w (.bin .sub (.t 25) (.k (.c (.i (.ofNat 1)))))),
 .ev (some 27) (some (19, true)) (.w (.iad 1 (.t 24) (.t 26))),
 .ev (some 28) (some (19, true)) (.r (.ld none (.t 27))),
 .mk (some 29) (some (19, true)) (.call 258 [.t 23, .t 28]) [] [],
 .ev (some 30) none (.w (.pick (.t 19) (.t 29) (.k (.c (.b false)))))])
 (.cond (.t 30) .skip (.exit 2)))
 (.seq (.blk 3 (.reg [.ev (some 33) none (.w (.mv (.t 0))),
 .ev (some 34) none (.w (.mv (.t 7))),
 .ev (some 35) none (.w (.mv (.t 0))),
 .ev (some 36) none (.w (.mv (.t 7))),
 .ev (some 37) none (.w (.bin .sub (.t 36) (.k (.c (.i (.ofNat 1)))))),
 .ev (some 38) none (.w (.mv (.t 0))),
 .ev (some 39) none (.w (.mv (.t 7))),
 .ev (some 40) none (.w (.bin .sub (.t 39) (.k (.c (.i (.ofNat 1)))))),
 .ev (some 41) none (.w (.iad 1 (.t 38) (.t 40))),
 .ev (some 42) none (.r (.ld none (.t 41))),
 .ev (some 43) none (.w (.mv (.t 0))),
 .ev (some 44) none (.w (.mv (.t 7))),
 .ev (some 45) none (.w (.iad 1 (.t 43) (.t 44))),
 .ev (some 46) none (.r (.ld none (.t 45))),
 .ev (some 47) none (.w (.iad 1 (.t 33) (.t 34))),
 .mk none none (.st 1 (.t 47) (.t 42)) [] [],
 .ev (some 48) none (.w (.iad 1 (.t 35) (.t 37))),
 .mk none none (.st 1 (.t 48) (.t 46)) [] []]))
 (.reg [.ev (some 31) none (.w (.mv (.t 7))),
 .ev (some 32) none (.w (.bin .sub (.t 31) (.k (.c (.i (.ofNat 1)))))),
 .ev (some 7) none (.w (.mv (.t 32)))])))))))
 (.reg [.ev (some 13) none (.w (.mv (.t 6))),
 .ev (some 14) none (.w (.bin .add (.t 13) (.k (.c (.i (.ofNat 1)))))),
 .ev (some 6) none (.w (.mv (.t 14)))])))))), []⟩
theorem c252 : cFn ty ibs (cDraw ty ibs) [[.ev 0, .ev 1, .ev 2, .ev 3, .ev 4, .ev 5, .ev 6, .ev 7, .ev 8, .ev 9, .ev 10, .ev 11, .ev 12, .ev 13, .ev 14], [.ev 0, .ev 1, .ev 2, .ev 3, .ev 4, .ev 5, .ev 6, .ev 7, .ev 8, .ev 9, .ev 10, .ev 11, .ev 12, .ev 13, .ev 14, .ev 15, .ev 16, .ev 17]] f252 = some q252 := by decide +kernel
noncomputable def q253 : MFn := ⟨(.seq (.reg [.ev (some 11) none (.w (.mv (.t 1))),
 .ev (some 6) none (.w (.mv (.t 11)))])
 (.seq (.reg [.ev (some 7) none (.w (.mv (.k (.c (.i (.ofNat 0))))))])
 (.seq (.reg [.ev (some 12) none (.w (.mv (.t 2))),
 .ev (some 13) none (.w (.mv (.t 1))),
 .ev (some 14) none (.w (.bin .sub (.t 12) (.t 13))),
 .ev (some 8) none (.w (.mv (.t 14)))])
 (.seq (.seq (.reg [.ev (some 15) none (.w (.mv (.t 8))),
 .ev (some 16) none (.w (.bin .sub (.t 15) (.k (.c (.i (.ofNat 1)))))),
 .ev (some 17) none (.w (.bin .quo (.t 16) (.k (.c (.i (.ofNat 2)))))),
 .ev (some 9) none (.w (.mv (.t 17)))])
 (.blk 0 (.loop (.seq (.seq (.reg [.ev (some 18) none (.w (.mv (.t 9))),
 .ev (some 19) none (.w (.bin .geq (.t 18) (.k (.c (.i (.ofNat 0))))))])
 (.cond (.t 19) .skip (.exit 0)))
 (.seq (.blk 1 (.reg [.ev (some 22) none (.w (.mv (.t 0))),
 .ev (some 23) none (.w (.mv (.t 9))),
 .ev (some 24) none (.w (.mv (.t 8))),
 .ev (some 25) none (.w (.mv (.t 6))),
 .ev (some 26) none (.m (.call 264 [.t 22, .t 23, .t 24, .t 25]))]))
 (.reg [.ev (some 20) none (.w (.mv (.t 9))),
 .ev (some 21) none (.w (.bin .sub (.t 20) (.k (.c (.i (.ofNat 1)))))),
 .ev (some 9) none (.w (.mv (.t 21)))]))))))
 (.seq (.reg [.ev (some 27) none (.w (.mv (.t 8))),
 .ev (some 28) none (.w (.bin .sub (.t 27) (.k (.c (.i (.ofNat 1)))))),
 .ev (some 10) none (.w (.mv (.t 28)))])
 (.blk 2 (.loop (.seq (.seq (.reg [.ev (some 29) none (.w (.mv (.t 10))),
 .ev (some 30) none (.w (.bin .geq (.t 29) (.k (.c (.i (.ofNat 0))))))])
 (.cond (.t 30) .skip (.exit 2)))
 (.seq (.blk 3 (.seq (.reg [.ev (some 33) none (.w (.mv (.t 0))),
 .ev (some 34) none (.w (.mv (.t 6))),
 .ev (some 35) none (.w (.mv (.t 0))),
 .ev (some 36) none (.w (.mv (.t 6))),
 .ev (some 37) none (.w (.mv (.t 10))),
 .ev (some 38) none (.w (.bin .add (.t 36) (.t 37))),
 .ev (some 39) none (.w (.mv (.t 0))),
 .ev (some 40) none (.w (.mv (.t 6))),
 .ev (some 41) none (.w (.mv (.t 10))),
 .ev (some 42) none (.w (.bin .add (.t 40) (.t 41))),
 .ev (some 43) none (.w (.iad 1 (.t 39) (.t 42))),
 .ev (some 44) none (.r (.ld none (.t 43))),
 .ev (some 45) none (.w (.mv (.t 0))),
 .ev (some 46) none (.w (.mv (.t 6))),
 .ev (some 47) none (.w (.iad 1 (.t 45) (.t 46))),
 .ev (some 48) none (.r (.ld none (.t 47))),
 .ev (some 49) none (.w (.iad 1 (.t 33) (.t 34))),
 .mk none none (.st 1 (.t 49) (.t 44)) [] [],
 .ev (some 50) none (.w (.iad 1 (.t 35) (.t 38))),
 .mk none none (.st 1 (.t 50) (.t 48)) [] []])
 (.reg [.ev (some 51) none (.w (.mv (.t 0))),
 .ev (some 52) none (.w (.mv (.t 7))),
 .ev (some 53) none (.w (.mv (.t 10))),
 .ev (some 54) none (.w (.mv (.t 6))),
 .ev (some 55) none (.m (.call 264 [.t 51, .t 52, .t 53, .t 54]))])))
 (.reg [.ev (some 31) none (.w (.mv (.t 10))),
 .ev (some 32) none (.w (.bin .sub (.t 31) (.k (.c (.i (.ofNat 1)))))),
 .ev (some 10) none (.w (.mv (.t 32)))])))))))))), []⟩
theorem c253 : cFn ty ibs (cDraw ty ibs) [[.ev 0, .ev 1, .ev 2, .ev 3, .ev 4, .ev 5, .ev 6, .ev 7, .ev 8, .ev 9, .ev 10, .ev 11, .ev 12, .ev 13, .ev 14, .ev 15, .ev 16, .ev 17, .ev 18, .ev 19]] f253 = some q253 := by decide +kernel
noncomputable def q254 : MFn := ⟨(.seq (.reg [.ev (some 11) none (.w (.mv (.t 2))),
 .ev (some 12) none (.w (.mv (.t 1))),
 .ev (some 13) none (.w (.bin .sub (.t 11) (.t 12))),
 .ev (some 6) none (.w (.mv (.t 13)))])
 (.seq (.reg [.ev (some 14) none (.w (.mv (.t 6))),
 .ev (some 15) none (.w (.bin .geq (.t 14) (.k (.c (.i (.ofNat 8))))))])
 (.cond (.t 15) (.seq (.reg [.ev (some 16) none (.w (.mv (.t 6))),
 .ev (some 17) none (.w (.cv .u64 (.t 16))),
 .ev (some 7) none (.a (.al [.j .u64 (.ofNat 0)])),
 .ev none none (.m (.st 1 (.t 7) (.t 17)))])
 (.seq (.reg [.ev (some 18) none (.w (.mv (.t 6))),
 .ev (some 19) none (.m (.call 265 [.t 18])),
 .ev (some 8) none (.w (.mv (.t 19)))])
 (.seq (.reg [.ev (some 20) none (.w (.mv (.t 1))),
 .ev (some 21) none (.w (.mv (.t 6))),
 .ev (some 22) none (.w (.bin .quo (.t 21) (.k (.c (.i (.ofNat 4)))))),
 .ev (some 23) none (.w (.bin .mul (.t 22) (.k (.c (.i (.ofNat 2)))))),
 .ev (some 24) none (.w (.bin .add (.t 20) (.t 23))),
 .ev (some 25) none (.w (.bin .sub (.t 24) (.k (.c (.i (.ofNat 1)))))),
 .ev (some 9) none (.w (.mv (.t 25)))])
 (.blk 0 (.loop (.seq (.seq (.reg [.ev (some 26) none (.w (.mv (.t 9))),
 .ev (some 27) none (.w (.mv (.t 1))),
 .ev (some 28) none (.w (.mv (.t 6))),
 .ev (some 29) none (.w (.bin .quo (.t 28) (.k (.c (.i (.ofNat 4)))))),
 .ev (some 30) none (.w (.bin .mul (.t 29) (.k (.c (.i (.ofNat 2)))))),
 .ev (some 31) none (.w (.bin .add (.t 27) (.t 30))),
 .ev (some 32) none (.w (.bin .add (.t 31) (.k (.c (.i (.ofNat 1)))))),
 .ev (some 33) none (.w (.bin .leq (.t 26) (.t 32)))])
 (.cond (.t 33) .skip (.exit 0)))
 (.seq (.blk 1 (.seq (.reg [.ev (some 36) none (.m (.call 266 [.t 7])),
 .ev (some 37) none (.w (.mv (.t 8))),
 .ev (some 38) none (.w (.bin .sub (.t 37) (.k (.c (.j .u64 (.ofNat 1)))))),
 .ev (some 39) none (.w (.bin .and (.t 36) (.t 38))),
 .ev (some 40) none (.w (.cv .i64 (.t 39))),
 .ev (some 10) none (.w (.mv (.t 40)))])
 (.seq (.seq (.reg [.ev (some 41) none (.w (.mv (.t 10))),
 .ev (some 42) none (.w (.mv (.t 6))),
 .ev (some 43) none (.w (.bin .geq (.t 41) (.t 42)))])
 (.cond (.t 43) (.reg [.ev (some 44) none (.w (.mv (.t 10))),
 .ev (some 45) none (.w (.mv (.t 6))),
 .ev (some 46) none (.w (.bin .sub (.t 44) (.t 45))),
 .ev (some 10) none (.w (.mv (.t 46)))]) .skip))
 (.reg [.ev (some 47) none (.w (.mv (.t 0))),
 .ev (some 48) none (.w (.mv (.t 9))),
 .ev (some 49) none (.w (.mv (.t 0))),
 .ev (some 50) none (.w (.mv (.t 1))),
 .ev (some 51) none (.w (.mv (.t 10))),
 .ev (some 52) none (.w (.bin .add (.t 50) (.t 51))),
 .ev (some 53) none (.w (.mv (.t 0))),
 .ev (some 54) none (.w (.mv (.t 1))),
 .ev (some 55) none (.w (.mv (.t 10))),
 .ev (some 56) none (.w (.bin .add (.t 54) (.t 55))),
 .ev (some 57) none (.w (.iad 1 (.t 53) (.t 56))),
 .ev (some 58) none (.r (.ld none (.t 57))),
 .ev (some 59) none (.w (.mv (.t 0))),
 .ev (some 60) none (.w (.mv (.t 9))),
 .ev (some 61) none (.w (.iad 1 (.t 59) (.t 60))),
 .ev (some 62) none (.r (.ld none (.t 61))),
 .ev (some 63) none (.w (.iad 1 (.t 47) (.t 48))),
 .mk none none (.st 1 (.t 63) (.t 58)) [] [],
 .ev (some 64) none (.w (.iad 1 (.t 49) (.t 52))),
 .mk none none (.st 1 (.t 64) (.t 62)) [] []]))))
 (.reg [.ev (some 34) none (.w (.mv (.t 9))),
 .ev (some 35) none (.w (.bin .add (.t 34) (.k (.c (.i (.ofNat 1)))))),
 .ev (some 9) none (.w (.mv (.t 35)))])))))))) .skip))), []⟩
theorem c254 : cFn ty ibs (cDraw ty ibs) [[.ev 0, .ev 1, .ev 2, .ev 3, .ev 4, .ev 5, .ev 6, .ev 7, .ev 8, .ev 9, .ev 10, .ev 11, .ev 12, .ev 13, .ev 14, .ev 15, .ev 16, .ev 17, .ev 18, .ev 19]] f254 = some q254 := by decide +kernel
noncomputable def q255 : MFn := ⟨(.seq (.reg [.ev (some 6) none (.w (.mv (.k (.c (.i (.ofNat 0)))))),
 .ev (some 7) none (.w (.mv (.k (.c (.i (.ofNat 0))))))])
 (.seq (.reg [.ev (some 13) none (.w (.mv (.t 2))),
 .ev (some 14) none (.w (.mv (.t 1))),
 .ev (some 15) none (.w (.bin .sub (.t 13) (.t 14))),
 .ev (some 8) none (.w (.mv (.t 15)))])
 (.seq (.reg [.ev (some 9) none (.a (.al [.i (.ofNat 0)]))])
 (.seq (.reg [.ev (some 16) none (.w (.mv (.t 1))),
 .ev (some 17) none (.w (.mv (.t 8))),
 .ev (some 18) none (.w (.bin .quo (.t 17) (.k (.c (.i (.ofNat 4)))))),
 .ev (some 19) none (.w (.bin .mul (.t 18) (.k (.c (.i (.ofNat 1)))))),
 .ev (some 20) none (.w (.bin .add (.t 16) (.t 19))),
 .ev (some 10) none (.w (.mv (.t 20)))])
 (.seq (.reg [.ev (some 21) none (.w (.mv (.t 1))),
 .ev (some 22) none (.w (.mv (.t 8))),
 .ev (some 23) none (.w (.bin .quo (.t 22) (.k (.c (.i (.ofNat 4)))))),
 .ev (some 24) none (.w (.bin .mul (.t 23) (.k (.c (.i (.ofNat 2)))))),
 .ev (some 25) none (.w (.bin .add (.t 21) (.t 24))),
 .ev (some 11) none (.w (.mv (.t 25)))])
 (.seq (.reg [.ev (some 26) none (.w (.mv (.t 1))),
 .ev (some 27) none (.w (.mv (.t 8))),
 .ev (some 28) none (.w (.bin .quo (.t 27) (.k (.c (.i (.ofNat 4)))))),
 .ev (some 29) none (.w (.bin .mul (.t 28) (.k (.c (.i (.ofNat 3)))))),
 .ev (some 30) none (.w (.bin .add (.t 26) (.t 29))),
 .ev (some 12) none (.w (.mv (.t 30)))])
 (.seq (.seq (.reg [.ev (some 31) none (.w (.mv (.t 8))),
 .ev (some 32) none (.w (.bin .geq (.t 31) (.k (.c (.i (.ofNat 8))))))])
 (.cond (.t 32) (.seq (.seq (.reg [.ev (some 33) none (.w (.mv (.t 8))),
 .ev (some 34) none (.w (.bin .geq (.t 33) (.k (.c (.i (.ofNat 50))))))])
 (.cond (.t 34) (.seq (.reg [.ev (some 35) none (.w (.mv (.t 0))),
 .ev (some 36) none (.w (.mv (.t 10))),
 .ev (some 37) none (.m (.call 267 [.t 35, .t 36, .t 9])),
 .ev (some 10) none (.w (.mv (.t 37)))])
 (.seq (.reg [.ev (some 38) none (.w (.mv (.t 0))),
 .ev (some 39) none (.w (.mv (.t 11))),
 .ev (some 40) none (.m (.call 267 [.t 38, .t 39, .t 9])),
 .ev (some 11) none (.w (.mv (.t 40)))])
 (.reg [.ev (some 41) none (.w (.mv (.t 0))),
 .ev (some 42) none (.w (.mv (.t 12))),
 .ev (some 43) none (.m (.call 267 [.t 41, .t 42, .t 9])),
 .ev (some 12) none (.w (.mv (.t 43)))]))) .skip))
 (.reg [.ev (some 44) none (.w (.mv (.t 0))),
 .ev (some 45) none (.w (.mv (.t 10))),
 .ev (some 46) none (.w (.mv (.t 11))),
 .ev (some 47) none (.w (.mv (.t 12))),
 .ev (some 48) none (.m (.call 268 [.t 44, .t 45, .t 46, .t 47, .t 9])),
 .ev (some 11) none (.w (.mv (.t 48)))])) .skip))
 (.seq (.reg [.ev (some 49) none (.r (.ld none (.t 9)))])
 (.blk 0 (.seq (.reg [.ev (some 52) none (.w (.bin .eql (.t 49) (.k (.c (.i (.ofNat 0)))))),
 .ev (some 51) none (.w (.mv (.t 52)))])
 (.cond (.t 51) (.seq (.reg [.ev (some 53) none (.w (.mv (.t 11))),
 .ev (some 6) none (.w (.mv (.t 53))),
 .ev (some 7) none (.w (.mv (.k (.c (.i (.ofNat 1))))))])
 .ret) (.seq (.reg [.ev (some 55) none (.w (.bin .eql (.t 49) (.k (.c (.i (.ofNat 12)))))),
 .ev (some 54) none (.w (.mv (.t 55)))])
 (.cond (.t 54) (.seq (.reg [.ev (some 56) none (.w (.mv (.t 11))),
 .ev (some 6) none (.w (.mv (.t 56))),
 .ev (some 7) none (.w (.mv (.k (.c (.i (.ofNat 2))))))])
 .ret) (.seq (.reg [.ev (some 50) none (.w (.mv (.t 11))),
 .ev (some 6) none (.w (.mv (.t 50))),
 .ev (some 7) none (.w (.mv (.k (.c (.i (.ofNat 0))))))])
 .ret)))))))))))))), [.t 6, .t 7]⟩
theorem c255 : cFn ty ibs (cDraw ty ibs) [] f255 = some q255 := by decide +kernel
noncomputable def q256 : MFn := ⟨(.seq (.reg [.ev (some 8) none (.w (.mv (.t 1))),
 .ev (some 6) none (.w (.mv (.t 8)))])
 (.seq (.reg [.ev (some 9) none (.w (.mv (.t 2))),
 .ev (some 10) none (.w (.bin .sub (.t 9) (.k (.c (.i (.ofNat 1)))))),
 .ev (some 7) none (.w (.mv (.t 10)))])
 (.blk 0 (.loop (.seq (.seq (.reg [.ev (some 11) none (.w (.mv (.t 6))),
 .ev (some 12) none (.w (.mv (.t 7))),
 .ev (some 13) none (.w (.bin .lss (.t 11) (.t 12)))])
 (.cond (.t 13) .skip (.exit 0)))
 (.blk 1 (.seq (.reg [.ev (some 14) none (.w (.mv (.t 0))),
 .ev (some 15) none (.w (.mv (.t 6))),
 .ev (some 16) none (.w (.mv (.t 0))),
 .ev (some 17) none (.w (.mv (.t 7))),
 .ev (some 18) none (.w (.mv (.t 0))),
 .ev (some 19) none (.w (.mv (.t 7))),
 .ev (some 20) none (.w (.iad 1 (.t 18) (.t 19))),
 .ev (some 21) none (.r (.ld none (.t 20))),
 .ev (some 22) none (.w (.mv (.t 0))),
 .ev (some 23) none (.w (.mv (.t 6))),
 .ev (some 24) none (.w (.iad 1 (.t 22) (.t 23))),
 .ev (some 25) none (.r (.ld none (.t 24))),
 .ev (some 26) none (.w (.iad 1 (.t 14) (.t 15))),
 .mk none none (.st 1 (.t 26) (.t 21)) [] [],
 .ev (some 27) none (.w (.iad 1 (.t 16) (.t 17))),
 .mk none none (.st 1 (.t 27) (.t 25)) [] []])
 (.seq (.reg [.ev (some 28) none (.w (.mv (.t 6))),
 .ev (some 29) none (.w (.bin .add (.t 28) (.k (.c (.i (.ofNat 1)))))),
 .ev (some 6) none (.w (.mv (.t 29)))])
 (.reg [.ev (some 30) none (.w (.mv (.t 7))),
 .ev (some 31) none (.w (.bin .sub (.t 30) (.k (.c (.i (.ofNat 1)))))),
 .ev (some 7) none (.w (.mv (.t 31)))]))))))))), []⟩
theorem c256 : cFn ty ibs (cDraw ty ibs) [[.ev 0, .ev 1, .ev 2, .ev 3, .ev 4, .ev 5, .ev 6, .ev 7, .ev 8, .ev 9, .ev 10, .ev 11, .ev 12, .ev 13, .ev 14, .ev 15]] f256 = some q256 := by decide +kernel
noncomputable def q257 : MFn := ⟨(.seq (.reg [.ev (some 6) none (.w (.mv (.k (.c (.b false)))))])
 (.seq (.reg [.ev (some 11) none (.w (.mv (.t 1))),
 .ev (some 12) none (.w (.bin .add (.t 11) (.k (.c (.i (.ofNat 1)))))),
 .ev (some 7) none (.w (.mv (.t 12)))])
 (.seq (.seq (.reg [.ev (some 8) none (.w (.mv (.k (.c (.i (.ofNat 0))))))])
 (.blk 0 (.loop (.seq (.seq (.reg [.ev (some 13) none (.w (.mv (.t 8))),
 .ev (some 14) none (.w (.bin .lss (.t 13) (.k (.c (.i (.ofNat 5))))))])
 (.cond (.t 14) .skip (.exit 0)))
 (.seq (.blk 1 (.seq (.blk 2 (.loop (.seq (.seq (.reg [.ev (some 17) none (.w (.mv (.t 7))),
 .ev (some 18) none (.w (.mv (.t 2))),
 .ev (some 19) none (.w (.bin .lss (.t 17) (.t 18))),
 .ev (some 20) none (.w (.mv (.t 19))),
 .ev (some 21) (some (20, true)) (.w (.mv (.t 0))),
 .ev (some 22) (some (20, true)) (.w (.mv (.t 7))),
 .ev (some 23) (some (20, true)) (.w (.iad 1 (.t 21) (.t 22))),
 .ev (some 24) (some (20, true)) (.r (.ld none (.t 23))),
 .ev (some 25) (some (20, true)) (.w (.mv (.t 0))),
 .ev (some 26) (some (20, true)) (.w (.mv (.t 7))),
 .ev (some 27) (some (20, true)) (.w (.bin .sub (.t 26) (.k (.c (.i (.ofNat 1)))))),
 .ev (some 28) (some (20, true)) (.w (.iad 1 (.t 25) (.t 27))),
 .ev (some 29) (some (20, true)) (.r (.ld none (.t 28))),
 .mk (some 30) (some (20, true)) (.call 258 [.t 24, .t 29]) [] [],
 .ev (some 31) (some (20, true)) (.w (.un .not (.t 30))),
 .ev (some 32) none (.w (.pick (.t 20) (.t 31) (.k (.c (.b false)))))])
 (.cond (.t 32) .skip (.exit 2)))
 (.blk 3 (.reg [.ev (some 33) none (.w (.mv (.t 7))),
 .ev (some 34) none (.w (.bin .add (.t 33) (.k (.c (.i (.ofNat 1)))))),
 .ev (some 7) none (.w (.mv (.t 34)))])))))
 (.seq (.seq (.reg [.ev (some 35) none (.w (.mv (.t 7))),
 .ev (some 36) none (.w (.mv (.t 2))),
 .ev (some 37) none (.w (.bin .eql (.t 35) (.t 36)))])
 (.cond (.t 37) (.seq (.reg [.ev (some 6) none (.w (.mv (.k (.c (.b true)))))])
 .ret) .skip))
 (.seq (.seq (.reg [.ev (some 38) none (.w (.mv (.t 2))),
 .ev (some 39) none (.w (.mv (.t 1))),
 .ev (some 40) none (.w (.bin .sub (.t 38) (.t 39))),
 .ev (some 41) none (.w (.bin .lss (.t 40) (.k (.c (.i (.ofNat 50))))))])
 (.cond (.t 41) (.seq (.reg [.ev (some 6) none (.w (.mv (.k (.c (.b false)))))])
 .ret) .skip))
 (.seq (.reg [.ev (some 42) none (.w (.mv (.t 0))),
 .ev (some 43) none (.w (.mv (.t 7))),
 .ev (some 44) none (.w (.mv (.t 0))),
 .ev (some 45) none (.w (.mv (.t 7))),
 .ev (some 46) none (.w (.bin .sub (.t 45) (.k (.c (.i (.ofNat 1)))))),
 .ev (some 47) none (.w (.mv (.t 0))),
 .ev (some 48) none (.w (.mv (.t 7))),
 .ev (some 49) none (.w (.bin .sub (.t 48) (.k (.c (.i (.ofNat 1)))))),
 .ev (some 50) none (.w (.iad 1 (.t 47) (.t 49))),
 .ev (some 51) none (.r (.ld none (.t 50))),
 .ev (some 52) none (.w (.mv (.t 0))),
 .ev (some 53) none (.w (.mv (.t 7))),
 .ev (some 54) none (.w (.iad 1 (.t 52) (.t 53))),
 .ev (some 55) none (.r (.ld none (.t 54))),
 .ev (some 56) none (.w (.iad 1 (.t 42) (.t 43))),
 .mk none none (.st 1 (.t 56) (.t 51)) [] [],
 .ev (some 57) none (.w (.iad 1 (.t 44) (.t 46))),
 .mk none none (.st 1 (.t 57) (.t 55)) [] []])
 (.seq (.seq (.reg [.ev (some 58) none (.w (.mv (.t 7))),
 .ev (some 59) none (.w (.mv (.t 1))),
 .ev (some 60) none (.w (.bin .sub (.t 58) (.t 59))),
 .ev (some 61) none (.w (.bin .geq (.t 60) (.k (.c (.i (.ofNat 2))))))])
 (.cond (.t 61) (.seq (.reg [.ev (some 62) none (.w (.mv (.t 7))),
 .ev (some 63) none (.w (.bin .sub (.t 62) (.k (.c (.i (.ofNat 1)))))),
 .ev (some 9) none (.w (.mv (.t 63)))])
 (.blk 4 (.loop (.seq (.seq (.reg [.ev (some 64) none (.w (.mv (.t 9))),
 .ev (some 65) none (.w (.bin .geq (.t 64) (.k (.c (.i (.ofNat 1))))))])
 (.cond (.t 65) .skip (.exit 4)))
 (.seq (.blk 5 (.seq (.seq (.reg [.ev (some 68) none (.w (.mv (.t 0))),
 .ev (some 69) none (.w (.mv (.t 9))),
 .ev (some 70) none (.w (.iad 1 (.t 68) (.t 69))),
 .ev (some 71) none (.r (.ld none (.t 70))),
 .ev (some 72) none (.w (.mv (.t 0))),
 .ev (some 73) none (.w (.mv (.t 9))),
 .ev (some 74) none (.w (.bin .sub (.t 73) (.k (.c (.i (.ofNat 1)))))),
 .ev (some 75) none (.w (.iad 1 (.t 72) (.t 74))),
 .ev (some 76) none (.r (.ld none (.t 75))),
 .mk (some 77) none (.call 258 [.t 71, .t 76]) [] [],
 .ev (some 78) none (.w (.un .not (.t 77)))])
 (.cond (.t 78) (.exit 4) .skip))
 (.reg [.ev (some 79) none (.w (.mv (.t 0))),
 .ev (some 80) none (.w (.mv (.t 9))),
 .ev (some 81) none (.w (.mv (.t 0))),
 .ev (some 82) none (.w (.mv (.t 9))),
 .ev (some 83) none (.w (.bin .sub (.t 82) (.k (.c (.i (.ofNat 1)))))),
 .ev (some 84) none (.w (.mv (.t 0))),
 .ev (some 85) none (.w (.mv (.t 9))),
 .ev (some 86) none (.w (.bin .sub (.t 85) (.k (.c (.i (.ofNat 1)))))),
 .ev (some 87) none (.w (.iad 1 (.t 84) (.t 86))),
 .ev (some 88) none (.r (.ld none (.t 87))),
 .ev (some 89) none (.w (.mv (.t 0))),
 .ev (some 90) none (.w (.mv (.t 9))),
 .ev (some 91) none (.w (.iad 1 (.t 89) (.t 90))),
 .ev (some 92) none (.r (.ld none (.t 91))),
 .ev (some 93) none (.w (.iad 1 (.t 79) (.t 80))),
 .mk none none (.st 1 (.t 93) (.t 88)) [] [],
 .ev (some 94) none (.w (.iad 1 (.t 81) (.t 83))),
 .mk none none (.st 1 (.t 94) (.t 92)) [] []])))
 (.reg [.ev (some 66) none (.w (.mv (.t 9))),
 .ev (some 67) none (.w (.bin .sub (.t 66) (.k (.c (.i (.ofNat 1)))))),
 .ev (some 9) none (.w (.mv (.t 67)))])))))) .skip))
 (.seq (.reg [.ev (some 95) none (.w (.mv (.t 2))),
 .ev (some 96) none (.w (.mv (.t 7))),
 .ev (some 97) none (.w (.bin .sub (.t 95) (.t 96))),
 .ev (some 98) none (.w (.bin .geq (.t 97) (.k (.c (.i (.ofNat 2))))))])
 (.cond (.t 98) (.seq (.reg [.ev (some 99) none (.w (.mv (.t 7))),
 .ev (some 100) none (.w (.bin .add (.t 99) (.k (.c (.i (.ofNat 1)))))),
 .ev (some 10) none (.w (.mv (.t 100)))])
 (.blk 6 (.loop (.seq (.seq (.reg [.ev (some 101) none (.w (.mv (.t 10))),
 .ev (some 102) none (.w (.mv (.t 2))),
 .ev (some 103) none (.w (.bin .lss (.t 101) (.t 102)))])
 (.cond (.t 103) .skip (.exit 6)))
 (.seq (.blk 7 (.seq (.seq (.reg [.ev (some 106) none (.w (.mv (.t 0))),
 .ev (some 107) none (.w (.mv (.t 10))),
 .ev (some 108) none (.w (.iad 1 (.t 106) (.t 107))),
 .ev (some 109) none (.r (.ld none (.t 108))),
 .ev (some 110) none (.w (.mv (.t 0))),
 .ev (some 111) none (.w (.mv (.t 10))),
 .ev (some 112) none (.w (.bin .sub (.t 111) (.k (.c (.i (.ofNat 1)))))),
 .ev (some 113) none (.w (.iad 1 (.t 110) (.t 112))),
 .ev (some 114) none (.r (.ld none (.t 113))),
 .mk (some 115) none (.call 258 [.t 109, .t 114]) [] [],
 .ev (some 116) none (.w (.un .not (.t 115)))])
 (.cond (.t 116) (.exit 6) .skip))
 (.reg [.ev (some 117) none (.w (.mv (.t 0))),
 .ev (some 118) none (.w (.mv (.t 10))),
 .ev (some 119) none (.w (.mv (.t 0))),
 .ev (some 120) none (.w (.mv (.t 10))),
 .ev (some 121) none (.w (.bin .sub (.t 120) (.k (.c (.i (.ofNat 1)))))),
 .ev (some 122) none (.w (.mv (.t 0))),
 .ev (some 123) none (.w (.mv (.t 10))),
 .ev (some 124) none (.w (.bin .sub (.t 123) (.k (.c (.i (.ofNat 1)))))),
 .ev (some 125) none (.w (.iad 1 (.t 122) (.t 124))),
 .ev (some 126) none (.r (.ld none (.t 125))),
 .ev (some 127) none (.w (.mv (.t 0))),
 .ev (some 128) none (.w (.mv (.t 10))),
 .ev (some 129) none (.w (.iad 1 (.t 127) (.t 128))),
 .ev (some 130) none (.r (.ld none (.t 129))),
 .ev (some 131) none (.w (.iad 1 (.t 117) (.t 118))),
 .mk none none (.st 1 (.t 131) (.t 126)) [] [],
 .ev (some 132) none (.w (.iad 1 (.t 119) (.t 121))),
 .mk none none (.st 1 (.t 132) (.t 130)) [] []])))
 (.reg [.ev (some 104) none (.w (.mv (.t 10))),
 .ev (some 105) none (.w (.bin .add (.t 104) (.k (.c (.i (.ofNat 1)))))),
 .ev (some 10) none (.w (.mv (.t 105)))])))))) .skip))))))))
 (.reg [.ev (some 15) none (.w (.mv (.t 8))),
 .ev (some 16) none (.w (.bin .add (.t 15) (.k (.c (.i (.ofNat 1)))))),
 .ev (some 8) none (.w (.mv (.t 16)))]))))))
 (.seq (.reg [.ev (some 6) none (.w (.mv (.k (.c (.b false)))))])
 .ret)))), [.t 6]⟩
theorem c257 : cFn ty ibs (cDraw ty ibs) [[.ev 0, .ev 1, .ev 2, .ev 3, .ev 4, .ev 5, .ev 6, .ev 7, .ev 8, .ev 9, .ev 10, .ev 11, .ev 12, .ev 13, .ev 14, .ev 15], [.ev 0, .ev 1, .ev 2, .ev 3, .ev 4, .ev 5, .ev 6, .ev 7, .ev 8, .ev 9, .ev 10, .ev 11, .ev 12, .ev 13, .ev 14, .ev 15, .ev 16, .ev 17], [.ev 0, .ev 1, .ev 2, .ev 3, .ev 4, .ev 5, .ev 6, .ev 7, .ev 8, .ev 9, .ev 10], [.ev 0, .ev 1, .ev 2, .ev 3, .ev 4, .ev 5, .ev 6, .ev 7, .ev 8, .ev 9, .ev 10, .ev 11, .ev 12, .ev 13, .ev 14, .ev 15, .ev 16, .ev 17], [.ev 0, .ev 1, .ev 2, .ev 3, .ev 4, .ev 5, .ev 6, .ev 7, .ev 8, .ev 9, .ev 10], [.ev 0, .ev 1, .ev 2, .ev 3, .ev 4, .ev 5, .ev 6, .ev 7, .ev 8, .ev 9, .ev 10, .ev 11, .ev 12, .ev 13, .ev 14, .ev 15, .ev 16, .ev 17]] f257 = some q257 := by decide +kernel
noncomputable def q258 : MFn := ⟨(.seq (.reg [.ev (some 4) none (.w (.mv (.k (.c (.b false)))))])
 (.seq (.reg [.ev (some 5) none (.w (.mv (.t 0))),
 .ev (some 6) none (.m (.call 269 [.t 5])),
 .ev (some 7) none (.w (.mv (.t 6))),
 .ev (some 8) (some (7, true)) (.w (.mv (.t 1))),
 .ev (some 9) (some (7, true)) (.m (.call 269 [.t 8])),
 .ev (some 10) (some (7, true)) (.w (.un .not (.t 9))),
 .ev (some 11) none (.w (.pick (.t 7) (.t 10) (.k (.c (.b false))))),
 .ev (some 12) none (.w (.mv (.t 11))),
 .ev (some 13) (some (12, false)) (.w (.mv (.t 0))),
 .ev (some 14) (some (12, false)) (.w (.mv (.t 1))),
 .ev (some 15) (some (12, false)) (.w (.bin .lss (.t 13) (.t 14))),
 .ev (some 16) none (.w (.pick (.t 12) (.k (.c (.b true))) (.t 15))),
 .ev (some 4) none (.w (.mv (.t 16)))])
 .ret)), [.t 4]⟩
theorem c258 : cFn ty ibs (cDraw ty ibs) [] f258 = some q258 := by decide +kernel
noncomputable def q259 : MFn := ⟨(.seq (.reg [.ev (some 8) none (.w (.mv (.k (.c (.i (.ofNat 0))))))])
 (.seq (.reg [.ev (some 11) none (.w (.mv (.t 0))),
 .ev (some 12) none (.w (.mv (.t 1))),
 .ev (some 13) none (.w (.mv (.t 0))),
 .ev (some 14) none (.w (.mv (.t 3))),
 .ev (some 15) none (.w (.mv (.t 0))),
 .ev (some 16) none (.w (.mv (.t 3))),
 .ev (some 17) none (.w (.iad 1 (.t 15) (.t 16))),
 .ev (some 18) none (.r (.ld none (.t 17))),
 .ev (some 19) none (.w (.mv (.t 0))),
 .ev (some 20) none (.w (.mv (.t 1))),
 .ev (some 21) none (.w (.iad 1 (.t 19) (.t 20))),
 .ev (some 22) none (.r (.ld none (.t 21))),
 .ev (some 23) none (.w (.iad 1 (.t 11) (.t 12))),
 .mk none none (.st 1 (.t 23) (.t 18)) [] [],
 .ev (some 24) none (.w (.iad 1 (.t 13) (.t 14))),
 .mk none none (.st 1 (.t 24) (.t 22)) [] []])
 (.seq (.reg [.ev (some 25) none (.w (.mv (.t 1))),
 .ev (some 26) none (.w (.bin .add (.t 25) (.k (.c (.i (.ofNat 1)))))),
 .ev (some 27) none (.w (.mv (.t 2))),
 .ev (some 28) none (.w (.bin .sub (.t 27) (.k (.c (.i (.ofNat 1)))))),
 .ev (some 9) none (.w (.mv (.t 26))),
 .ev (some 10) none (.w (.mv (.t 28)))])
 (.seq (.blk 0 (.loop (.blk 1 (.seq (.blk 2 (.loop (.seq (.seq (.reg [.ev (some 29) none (.w (.mv (.t 9))),
 .ev (some 30) none (.w (.mv (.t 10))),
 .ev (some 31) none (.w (.bin .leq (.t 29) (.t 30))),
 .ev (some 32) none (.w (.mv (.t 31))),
 .ev (some 33) (some (32, true)) (.w (.mv (.t 0))),
 .ev (some 34) (some (32, true)) (.w (.mv (.t 1))),
 .ev (some 35) (some (32, true)) (.w (.iad 1 (.t 33) (.t 34))),
 .ev (some 36) (some (32, true)) (.r (.ld none (.t 35))),
 .ev (some 37) (some (32, true)) (.w (.mv (.t 0))),
 .ev (some 38) (some (32, true)) (.w (.mv (.t 9))),
 .ev (some 39) (some (32, true)) (.w (.iad 1 (.t 37) (.t 38))),
 .ev (some 40) (some (32, true)) (.r (.ld none (.t 39))),
 .mk (some 41) (some (32, true)) (.call 258 [.t 36, .t 40]) [] [],
 .ev (some 42) (some (32, true)) (.w (.un .not (.t 41))),
 .ev (some 43) none (.w (.pick (.t 32) (.t 42) (.k (.c (.b false)))))])
 (.cond (.t 43) .skip (.exit 2)))
 (.blk 3 (.reg [.ev (some 44) none (.w (.mv (.t 9))),
 .ev (some 45) none (.w (.bin .add (.t 44) (.k (.c (.i (.ofNat 1)))))),
 .ev (some 9) none (.w (.mv (.t 45)))])))))
 (.seq (.blk 4 (.loop (.seq (.seq (.reg [.ev (some 46) none (.w (.mv (.t 9))),
 .ev (some 47) none (.w (.mv (.t 10))),
 .ev (some 48) none (.w (.bin .leq (.t 46) (.t 47))),
 .ev (some 49) none (.w (.mv (.t 48))),
 .ev (some 50) (some (49, true)) (.w (.mv (.t 0))),
 .ev (some 51) (some (49, true)) (.w (.mv (.t 1))),
 .ev (some 52) (some (49, true)) (.w (.iad 1 (.t 50) (.t 51))),
 .ev (some 53) (some (49, true)) (.r (.ld none (.t 52))),
 .ev (some 54) (some (49, true)) (.w (.mv (.t 0))),
 .ev (some 55) (some (49, true)) (.w (.mv (.t 10))),
 .ev (some 56) (some (49, true)) (.w (.iad 1 (.t 54) (.t 55))),
 .ev (some 57) (some (49, true)) (.r (.ld none (.t 56))),
 .mk (some 58) (some (49, true)) (.call 258 [.t 53, .t 57]) [] [],
 .ev (some 59) none (.w (.pick (.t 49) (.t 58) (.k (.c (.b false)))))])
 (.cond (.t 59) .skip (.exit 4)))
 (.blk 5 (.reg [.ev (some 60) none (.w (.mv (.t 10))),
 .ev (some 61) none (.w (.bin .sub (.t 60) (.k (.c (.i (.ofNat 1)))))),
 .ev (some 10) none (.w (.mv (.t 61)))])))))
 (.seq (.seq (.reg [.ev (some 62) none (.w (.mv (.t 9))),
 .ev (some 63) none (.w (.mv (.t 10))),
 .ev (some 64) none (.w (.bin .gtr (.t 62) (.t 63)))])
 (.cond (.t 64) (.exit 0) .skip))
 (.seq (.reg [.ev (some 65) none (.w (.mv (.t 0))),
 .ev (some 66) none (.w (.mv (.t 9))),
 .ev (some 67) none (.w (.mv (.t 0))),
 .ev (some 68) none (.w (.mv (.t 10))),
 .ev (some 69) none (.w (.mv (.t 0))),
 .ev (some 70) none (.w (.mv (.t 10))),
 .ev (some 71) none (.w (.iad 1 (.t 69) (.t 70))),
 .ev (some 72) none (.r (.ld none (.t 71))),
 .ev (some 73) none (.w (.mv (.t 0))),
 .ev (some 74) none (.w (.mv (.t 9))),
 .ev (some 75) none (.w (.iad 1 (.t 73) (.t 74))),
 .ev (some 76) none (.r (.ld none (.t 75))),
 .ev (some 77) none (.w (.iad 1 (.t 65) (.t 66))),
 .mk none none (.st 1 (.t 77) (.t 72)) [] [],
 .ev (some 78) none (.w (.iad 1 (.t 67) (.t 68))),
 .mk none none (.st 1 (.t 78) (.t 76)) [] []])
 (.seq (.reg [.ev (some 79) none (.w (.mv (.t 9))),
 .ev (some 80) none (.w (.bin .add (.t 79) (.k (.c (.i (.ofNat 1)))))),
 .ev (some 9) none (.w (.mv (.t 80)))])
 (.reg [.ev (some 81) none (.w (.mv (.t 10))),
 .ev (some 82) none (.w (.bin .sub (.t 81) (.k (.c (.i (.ofNat 1)))))),
 .ev (some 10) none (.w (.mv (.t 82)))])))))))))
 (.seq (.reg [.ev (some 83) none (.w (.mv (.t 9))),
 .ev (some 8) none (.w (.mv (.t 83)))])
 .ret))))), [.t 8]⟩
theorem c259 : cFn ty ibs (cDraw ty ibs) [[.ev 0, .ev 1, .ev 2, .ev 3, .ev 4, .ev 5, .ev 6, .ev 7, .ev 8, .ev 9, .ev 10, .ev 11, .ev 12, .ev 13, .ev 14, .ev 15], [.ev 0, .ev 1, .ev 2, .ev 3, .ev 4, .ev 5, .ev 6, .ev 7, .ev 8, .ev 9, .ev 10, .ev 11, .ev 12, .ev 13, .ev 14], [.ev 0, .ev 1, .ev 2, .ev 3, .ev 4, .ev 5, .ev 6, .ev 7, .ev 8, .ev 9, .ev 10, .ev 11, .ev 12, .ev 13], [.ev 0, .ev 1, .ev 2, .ev 3, .ev 4, .ev 5, .ev 6, .ev 7, .ev 8, .ev 9, .ev 10, .ev 11, .ev 12, .ev 13, .ev 14, .ev 15]] f259 = some q259 := by decide +kernel
noncomputable def q260 : MFn := ⟨(.seq (.reg [.ev (some 8) none (.w (.mv (.k (.c (.i (.ofNat 0)))))),
 .ev (some 9) none (.w (.mv (.k (.c (.b false)))))])
 (.seq (.reg [.ev (some 12) none (.w (.mv (.t 0))),
 .ev (some 13) none (.w (.mv (.t 1))),
 .ev (some 14) none (.w (.mv (.t 0))),
 .ev (some 15) none (.w (.mv (.t 3))),
 .ev (some 16) none (.w (.mv (.t 0))),
 .ev (some 17) none (.w (.mv (.t 3))),
 .ev (some 18) none (.w (.iad 1 (.t 16) (.t 17))),
 .ev (some 19) none (.r (.ld none (.t 18))),
 .ev (some 20) none (.w (.mv (.t 0))),
 .ev (some 21) none (.w (.mv (.t 1))),
 .ev (some 22) none (.w (.iad 1 (.t 20) (.t 21))),
 .ev (some 23) none (.r (.ld none (.t 22))),
 .ev (some 24) none (.w (.iad 1 (.t 12) (.t 13))),
 .mk none none (.st 1 (.t 24) (.t 19)) [] [],
 .ev (some 25) none (.w (.iad 1 (.t 14) (.t 15))),
 .mk none none (.st 1 (.t 25) (.t 23)) [] []])
 (.seq (.reg [.ev (some 26) none (.w (.mv (.t 1))),
 .ev (some 27) none (.w (.bin .add (.t 26) (.k (.c (.i (.ofNat 1)))))),
 .ev (some 28) none (.w (.mv (.t 2))),
 .ev (some 29) none (.w (.bin .sub (.t 28) (.k (.c (.i (.ofNat 1)))))),
 .ev (some 10) none (.w (.mv (.t 27))),
 .ev (some 11) none (.w (.mv (.t 29)))])
 (.seq (.blk 0 (.loop (.seq (.seq (.reg [.ev (some 30) none (.w (.mv (.t 10))),
 .ev (some 31) none (.w (.mv (.t 11))),
 .ev (some 32) none (.w (.bin .leq (.t 30) (.t 31))),
 .ev (some 33) none (.w (.mv (.t 32))),
 .ev (some 34) (some (33, true)) (.w (.mv (.t 0))),
 .ev (some 35) (some (33, true)) (.w (.mv (.t 10))),
 .ev (some 36) (some (33, true)) (.w (.iad 1 (.t 34) (.t 35))),
 .ev (some 37) (some (33, true)) (.r (.ld none (.t 36))),
 .ev (some 38) (some (33, true)) (.w (.mv (.t 0))),
 .ev (some 39) (some (33, true)) (.w (.mv (.t 1))),
 .ev (some 40) (some (33, true)) (.w (.iad 1 (.t 38) (.t 39))),
 .ev (some 41) (some (33, true)) (.r (.ld none (.t 40))),
 .mk (some 42) (some (33, true)) (.call 258 [.t 37, .t 41]) [] [],
 .ev (some 43) none (.w (.pick (.t 33) (.t 42) (.k (.c (.b false)))))])
 (.cond (.t 43) .skip (.exit 0)))
 (.blk 1 (.reg [.ev (some 44) none (.w (.mv (.t 10))),
 .ev (some 45) none (.w (.bin .add (.t 44) (.k (.c (.i (.ofNat 1)))))),
 .ev (some 10) none (.w (.mv (.t 45)))])))))
 (.seq (.blk 2 (.loop (.seq (.seq (.reg [.ev (some 46) none (.w (.mv (.t 10))),
 .ev (some 47) none (.w (.mv (.t 11))),
 .ev (some 48) none (.w (.bin .leq (.t 46) (.t 47))),
 .ev (some 49) none (.w (.mv (.t 48))),
 .ev (some 50) (some (49, true)) (.w (.mv (.t 0))),
 .ev (some 51) (some (49, true)) (.w (.mv (.t 11))),
 .ev (some 52) (some (49, true)) (.w (.iad 1 (.t 50) (.t 51))),
 .ev (some 53) (some (49, true)) (.r (.ld none (.t 52))),
 .ev (some 54) (some (49, true)) (.w (.mv (.t 0))),
 .ev (some 55) (some (49, true)) (.w (.mv (.t 1))),
 .ev (some 56) (some (49, true)) (.w (.iad 1 (.t 54) (.t 55))),
 .ev (some 57) (some (49, true)) (.r (.ld none (.t 56))),
 .mk (some 58) (some (49, true)) (.call 258 [.t 53, .t 57]) [] [],
 .ev (some 59) (some (49, true)) (.w (.un .not (.t 58))),
 .ev (some 60) none (.w (.pick (.t 49) (.t 59) (.k (.c (.b false)))))])
 (.cond (.t 60) .skip (.exit 2)))
 (.blk 3 (.reg [.ev (some 61) none (.w (.mv (.t 11))),
 .ev (some 62) none (.w (.bin .sub (.t 61) (.k (.c (.i (.ofNat 1)))))),
 .ev (some 11) none (.w (.mv (.t 62)))])))))
 (.seq (.seq (.reg [.ev (some 63) none (.w (.mv (.t 10))),
 .ev (some 64) none (.w (.mv (.t 11))),
 .ev (some 65) none (.w (.bin .gtr (.t 63) (.t 64)))])
 (.cond (.t 65) (.seq (.reg [.ev (some 66) none (.w (.mv (.t 0))),
 .ev (some 67) none (.w (.mv (.t 11))),
 .ev (some 68) none (.w (.mv (.t 0))),
 .ev (some 69) none (.w (.mv (.t 1))),
 .ev (some 70) none (.w (.mv (.t 0))),
 .ev (some 71) none (.w (.mv (.t 1))),
 .ev (some 72) none (.w (.iad 1 (.t 70) (.t 71))),
 .ev (some 73) none (.r (.ld none (.t 72))),
 .ev (some 74) none (.w (.mv (.t 0))),
 .ev (some 75) none (.w (.mv (.t 11))),
 .ev (some 76) none (.w (.iad 1 (.t 74) (.t 75))),
 .ev (some 77) none (.r (.ld none (.t 76))),
 .ev (some 78) none (.w (.iad 1 (.t 66) (.t 67))),
 .mk none none (.st 1 (.t 78) (.t 73)) [] [],
 .ev (some 79) none (.w (.iad 1 (.t 68) (.t 69))),
 .mk none none (.st 1 (.t 79) (.t 77)) [] []])
 (.seq (.reg [.ev (some 80) none (.w (.mv (.t 11))),
 .ev (some 8) none (.w (.mv (.t 80))),
 .ev (some 9) none (.w (.mv (.k (.c (.b true)))))])
 .ret)) .skip))
 (.seq (.reg [.ev (some 81) none (.w (.mv (.t 0))),
 .ev (some 82) none (.w (.mv (.t 10))),
 .ev (some 83) none (.w (.mv (.t 0))),
 .ev (some 84) none (.w (.mv (.t 11))),
 .ev (some 85) none (.w (.mv (.t 0))),
 .ev (some 86) none (.w (.mv (.t 11))),
 .ev (some 87) none (.w (.iad 1 (.t 85) (.t 86))),
 .ev (some 88) none (.r (.ld none (.t 87))),
 .ev (some 89) none (.w (.mv (.t 0))),
 .ev (some 90) none (.w (.mv (.t 10))),
 .ev (some 91) none (.w (.iad 1 (.t 89) (.t 90))),
 .ev (some 92) none (.r (.ld none (.t 91))),
 .ev (some 93) none (.w (.iad 1 (.t 81) (.t 82))),
 .mk none none (.st 1 (.t 93) (.t 88)) [] [],
 .ev (some 94) none (.w (.iad 1 (.t 83) (.t 84))),
 .mk none none (.st 1 (.t 94) (.t 92)) [] []])
 (.seq (.reg [.ev (some 95) none (.w (.mv (.t 10))),
 .ev (some 96) none (.w (.bin .add (.t 95) (.k (.c (.i (.ofNat 1)))))),
 .ev (some 10) none (.w (.mv (.t 96)))])
 (.seq (.reg [.ev (some 97) none (.w (.mv (.t 11))),
 .ev (some 98) none (.w (.bin .sub (.t 97) (.k (.c (.i (.ofNat 1)))))),
 .ev (some 11) none (.w (.mv (.t 98)))])
 (.seq (.blk 4 (.loop (.blk 5 (.seq (.blk 6 (.loop (.seq (.seq (.reg [.ev (some 99) none (.w (.mv (.t 10))),
 .ev (some 100) none (.w (.mv (.t 11))),
 .ev (some 101) none (.w (.bin .leq (.t 99) (.t 100))),
 .ev (some 102) none (.w (.mv (.t 101))),
 .ev (some 103) (some (102, true)) (.w (.mv (.t 0))),
 .ev (some 104) (some (102, true)) (.w (.mv (.t 10))),
 .ev (some 105) (some (102, true)) (.w (.iad 1 (.t 103) (.t 104))),
 .ev (some 106) (some (102, true)) (.r (.ld none (.t 105))),
 .ev (some 107) (some (102, true)) (.w (.mv (.t 0))),
 .ev (some 108) (some (102, true)) (.w (.mv (.t 1))),
 .ev (some 109) (some (102, true)) (.w (.iad 1 (.t 107) (.t 108))),
 .ev (some 110) (some (102, true)) (.r (.ld none (.t 109))),
 .mk (some 111) (some (102, true)) (.call 258 [.t 106, .t 110]) [] [],
 .ev (some 112) none (.w (.pick (.t 102) (.t 111) (.k (.c (.b false)))))])
 (.cond (.t 112) .skip (.exit 6)))
 (.blk 7 (.reg [.ev (some 113) none (.w (.mv (.t 10))),
 .ev (some 114) none (.w (.bin .add (.t 113) (.k (.c (.i (.ofNat 1)))))),
 .ev (some 10) none (.w (.mv (.t 114)))])))))
 (.seq (.blk 8 (.loop (.seq (.seq (.reg [.ev (some 115) none (.w (.mv (.t 10))),
 .ev (some 116) none (.w (.mv (.t 11))),
 .ev (some 117) none (.w (.bin .leq (.t 115) (.t 116))),
 .ev (some 118) none (.w (.mv (.t 117))),
 .ev (some 119) (some (118, true)) (.w (.mv (.t 0))),
 .ev (some 120) (some (118, true)) (.w (.mv (.t 11))),
 .ev (some 121) (some (118, true)) (.w (.iad 1 (.t 119) (.t 120))),
 .ev (some 122) (some (118, true)) (.r (.ld none (.t 121))),
 .ev (some 123) (some (118, true)) (.w (.mv (.t 0))),
 .ev (some 124) (some (118, true)) (.w (.mv (.t 1))),
 .ev (some 125) (some (118, true)) (.w (.iad 1 (.t 123) (.t 124))),
 .ev (some 126) (some (118, true)) (.r (.ld none (.t 125))),
 .mk (some 127) (some (118, true)) (.call 258 [.t 122, .t 126]) [] [],
 .ev (some 128) (some (118, true)) (.w (.un .not (.t 127))),
 .ev (some 129) none (.w (.pick (.t 118) (.t 128) (.k (.c (.b false)))))])
 (.cond (.t 129) .skip (.exit 8)))
 (.blk 9 (.reg [.ev (some 130) none (.w (.mv (.t 11))),
 .ev (some 131) none (.w (.bin .sub (.t 130) (.k (.c (.i (.ofNat 1)))))),
 .ev (some 11) none (.w (.mv (.t 131)))])))))
 (.seq (.seq (.reg [.ev (some 132) none (.w (.mv (.t 10))),
 .ev (some 133) none (.w (.mv (.t 11))),
 .ev (some 134) none (.w (.bin .gtr (.t 132) (.t 133)))])
 (.cond (.t 134) (.exit 4) .skip))
 (.seq (.reg [.ev (some 135) none (.w (.mv (.t 0))),
 .ev (some 136) none (.w (.mv (.t 10))),
 .ev (some 137) none (.w (.mv (.t 0))),
 .ev (some 138) none (.w (.mv (.t 11))),
 .ev (some 139) none (.w (.mv (.t 0))),
 .ev (some 140) none (.w (.mv (.t 11))),
 .ev (some 141) none (.w (.iad 1 (.t 139) (.t 140))),
 .ev (some 142) none (.r (.ld none (.t 141))),
 .ev (some 143) none (.w (.mv (.t 0))),
 .ev (some 144) none (.w (.mv (.t 10))),
 .ev (some 145) none (.w (.iad 1 (.t 143) (.t 144))),
 .ev (some 146) none (.r (.ld none (.t 145))),
 .ev (some 147) none (.w (.iad 1 (.t 135) (.t 136))),
 .mk none none (.st 1 (.t 147) (.t 142)) [] [],
 .ev (some 148) none (.w (.iad 1 (.t 137) (.t 138))),
 .mk none none (.st 1 (.t 148) (.t 146)) [] []])
 (.seq (.reg [.ev (some 149) none (.w (.mv (.t 10))),
 .ev (some 150) none (.w (.bin .add (.t 149) (.k (.c (.i (.ofNat 1)))))),
 .ev (some 10) none (.w (.mv (.t 150)))])
 (.reg [.ev (some 151) none (.w (.mv (.t 11))),
 .ev (some 152) none (.w (.bin .sub (.t 151) (.k (.c (.i (.ofNat 1)))))),
 .ev (some 11) none (.w (.mv (.t 152)))])))))))))
 (.seq (.reg [.ev (some 153) none (.w (.mv (.t 0))),
 .ev (some 154) none (.w (.mv (.t 11))),
 .ev (some 155) none (.w (.mv (.t 0))),
 .ev (some 156) none (.w (.mv (.t 1))),
 .ev (some 157) none (.w (.mv (.t 0))),
 .ev (some 158) none (.w (.mv (.t 1))),
 .ev (some 159) none (.w (.iad 1 (.t 157) (.t 158))),
 .ev (some 160) none (.r (.ld none (.t 159))),
 .ev (some 161) none (.w (.mv (.t 0))),
 .ev (some 162) none (.w (.mv (.t 11))),
 .ev (some 163) none (.w (.iad 1 (.t 161) (.t 162))),
 .ev (some 164) none (.r (.ld none (.t 163))),
 .ev (some 165) none (.w (.iad 1 (.t 153) (.t 154))),
 .mk none none (.st 1 (.t 165) (.t 160)) [] [],
 .ev (some 166) none (.w (.iad 1 (.t 155) (.t 156))),
 .mk none none (.st 1 (.t 166) (.t 164)) [] []])
 (.seq (.reg [.ev (some 167) none (.w (.mv (.t 11))),
 .ev (some 8) none (.w (.mv (.t 167))),
 .ev (some 9) none (.w (.mv (.k (.c (.b false)))))])
 .ret)))))))))))), [.t 8, .t 9]⟩
theorem c260 : cFn ty ibs (cDraw ty ibs) [[.ev 0, .ev 1, .ev 2, .ev 3, .ev 4, .ev 5, .ev 6, .ev 7, .ev 8, .ev 9, .ev 10, .ev 11, .ev 12, .ev 13, .ev 14, .ev 15], [.ev 0, .ev 1, .ev 2, .ev 3, .ev 4, .ev 5, .ev 6, .ev 7, .ev 8, .ev 9, .ev 10, .ev 11, .ev 12, .ev 13], [.ev 0, .ev 1, .ev 2, .ev 3, .ev 4, .ev 5, .ev 6, .ev 7, .ev 8, .ev 9, .ev 10, .ev 11, .ev 12, .ev 13, .ev 14], [.ev 0, .ev 1, .ev 2, .ev 3, .ev 4, .ev 5, .ev 6, .ev 7, .ev 8, .ev 9, .ev 10, .ev 11, .ev 12, .ev 13, .ev 14, .ev 15], [.ev 0, .ev 1, .ev 2, .ev 3, .ev 4, .ev 5, .ev 6, .ev 7, .ev 8, .ev 9, .ev 10, .ev 11, .ev 12, .ev 13, .ev 14, .ev 15], [.ev 0, .ev 1, .ev 2, .ev 3, .ev 4, .ev 5, .ev 6, .ev 7, .ev 8, .ev 9, .ev 10, .ev 11, .ev 12, .ev 13], [.ev 0, .ev 1, .ev 2, .ev 3, .ev 4, .ev 5, .ev 6, .ev 7, .ev 8, .ev 9, .ev 10, .ev 11, .ev 12, .ev 13, .ev 14], [.ev 0, .ev 1, .ev 2, .ev 3, .ev 4, .ev 5, .ev 6, .ev 7, .ev 8, .ev 9, .ev 10, .ev 11, .ev 12, .ev 13, .ev 14, .ev 15], [.ev 0, .ev 1, .ev 2, .ev 3, .ev 4, .ev 5, .ev 6, .ev 7, .ev 8, .ev 9, .ev 10, .ev 11, .ev 12, .ev 13, .ev 14, .ev 15]] f260 = some q260 := by decide +kernel
noncomputable def q261 : MFn := ⟨(.seq (.reg [.ev (some 2) none (.w (.mv (.k (.c (.i (.ofNat 0))))))])
 (.seq (.seq (.reg [.ev (some 3) none (.w (.mv (.t 0))),
 .ev (some 4) none (.w (.bin .geq (.t 3) (.k (.c (.j .u32 (.ofNat 65536))))))])
 (.cond (.t 4) (.seq (.reg [.ev (some 5) none (.w (.mv (.t 0))),
 .ev (some 6) none (.w (.bin .shr (.t 5) (.k (.c (.j .u64 (.ofNat 16)))))),
 .ev (some 0) none (.w (.mv (.t 6)))])
 (.reg [.ev (some 2) none (.w (.mv (.k (.c (.i (.ofNat 16))))))])) .skip))
 (.seq (.seq (.reg [.ev (some 7) none (.w (.mv (.t 0))),
 .ev (some 8) none (.w (.bin .geq (.t 7) (.k (.c (.j .u32 (.ofNat 256))))))])
 (.cond (.t 8) (.seq (.reg [.ev (some 9) none (.w (.mv (.t 0))),
 .ev (some 10) none (.w (.bin .shr (.t 9) (.k (.c (.j .u64 (.ofNat 8)))))),
 .ev (some 0) none (.w (.mv (.t 10)))])
 (.reg [.ev (some 11) none (.w (.mv (.t 2))),
 .ev (some 12) none (.w (.bin .add (.t 11) (.k (.c (.i (.ofNat 8)))))),
 .ev (some 2) none (.w (.mv (.t 12)))])) .skip))
 (.seq (.reg [.ev (some 13) none (.w (.mv (.t 2))),
 .ev (some 14) none (.w (.mv (.t 0))),
 .ev (some 15) none (.w (.cv .u8 (.t 14))),
 .ev (some 16) none (.w (.ixs (.k (.c (.s [0, 1, 2, 2, 3, 3, 3, 3, 4, 4, 4, 4, 4, 4, 4, 4, 5, 5, 5, 5, 5, 5, 5, 5, 5, 5, 5, 5, 5, 5, 5, 5, 6, 6, 6, 6, 6, 6, 6, 6, 6, 6, 6, 6, 6, 6, 6, 6, 6, 6, 6, 6, 6, 6, 6, 6, 6, 6, 6, 6, 6, 6, 6, 6, 7, 7, 7, 7, 7, 7, 7, 7, 7, 7, 7, 7, 7, 7, 7, 7, 7, 7, 7, 7, 7, 7, 7, 7, 7, 7, 7, 7, 7, 7, 7, 7, 7, 7, 7, 7, 7, 7, 7, 7, 7, 7, 7, 7, 7, 7, 7, 7, 7, 7, 7, 7, 7, 7, 7, 7, 7, 7, 7, 7, 7, 7, 7, 7, 8, 8, 8, 8, 8, 8, 8, 8, 8, 8, 8, 8, 8, 8, 8, 8, 8, 8, 8, 8, 8, 8, 8, 8, 8, 8, 8, 8, 8, 8, 8, 8, 8, 8, 8, 8, 8, 8, 8, 8, 8, 8, 8, 8, 8, 8, 8, 8, 8, 8, 8, 8, 8, 8, 8, 8, 8, 8, 8, 8, 8, 8, 8, 8, 8, 8, 8, 8, 8, 8, 8, 8, 8, 8, 8, 8, 8, 8, 8, 8, 8, 8, 8, 8, 8, 8, 8, 8, 8, 8, 8, 8, 8, 8, 8, 8, 8, 8, 8, 8, 8, 8, 8, 8, 8, 8, 8, 8, 8, 8, 8, 8, 8, 8, 8, 8, 8, 8, 8, 8, 8, 8, 8, 8, 8, 8, 8, 8]))) (.t 15))),
 .ev (some 17) none (.w (.cv .i64 (.t 16))),
 .ev (some 18) none (.w (.bin .add (.t 13) (.t 17))),
 .ev (some 2) none (.w (.mv (.t 18)))])
 .ret)))), [.t 2]⟩
theorem c261 : cFn ty ibs (cDraw ty ibs) [] f261 = some q261 := by decide +kernel
noncomputable def q262 : MFn := ⟨(.seq (.reg [.ev (some 2) none (.w (.mv (.k (.c (.i (.ofNat 0))))))])
 (.seq (.seq (.reg [.ev (some 3) none (.w (.mv (.t 0))),
 .ev (some 4) none (.w (.bin .geq (.t 3) (.k (.c (.j .u64 (.ofNat 4294967296))))))])
 (.cond (.t 4) (.seq (.reg [.ev (some 5) none (.w (.mv (.t 0))),
 .ev (some 6) none (.w (.bin .shr (.t 5) (.k (.c (.j .u64 (.ofNat 32)))))),
 .ev (some 0) none (.w (.mv (.t 6)))])
 (.reg [.ev (some 2) none (.w (.mv (.k (.c (.i (.ofNat 32))))))])) .skip))
 (.seq (.seq (.reg [.ev (some 7) none (.w (.mv (.t 0))),
 .ev (some 8) none (.w (.bin .geq (.t 7) (.k (.c (.j .u64 (.ofNat 65536))))))])
 (.cond (.t 8) (.seq (.reg [.ev (some 9) none (.w (.mv (.t 0))),
 .ev (some 10) none (.w (.bin .shr (.t 9) (.k (.c (.j .u64 (.ofNat 16)))))),
 .ev (some 0) none (.w (.mv (.t 10)))])
 (.reg [.ev (some 11) none (.w (.mv (.t 2))),
 .ev (some 12) none (.w (.bin .add (.t 11) (.k (.c (.i (.ofNat 16)))))),
 .ev (some 2) none (.w (.mv (.t 12)))])) .skip))
 (.seq (.seq (.reg [.ev (some 13) none (.w (.mv (.t 0))),
 .ev (some 14) none (.w (.bin .geq (.t 13) (.k (.c (.j .u64 (.ofNat 256))))))])
 (.cond (.t 14) (.seq (.reg [.ev (some 15) none (.w (.mv (.t 0))),
 .ev (some 16) none (.w (.bin .shr (.t 15) (.k (.c (.j .u64 (.ofNat 8)))))),
 .ev (some 0) none (.w (.mv (.t 16)))])
 (.reg [.ev (some 17) none (.w (.mv (.t 2))),
 .ev (some 18) none (.w (.bin .add (.t 17) (.k (.c (.i (.ofNat 8)))))),
 .ev (some 2) none (.w (.mv (.t 18)))])) .skip))
 (.seq (.reg [.ev (some 19) none (.w (.mv (.t 2))),
 .ev (some 20) none (.w (.mv (.t 0))),
 .ev (some 21) none (.w (.cv .u8 (.t 20))),
 .ev (some 22) none (.w (.ixs (.k (.c (.s [0, 1, 2, 2, 3, 3, 3, 3, 4, 4, 4, 4, 4, 4, 4, 4, 5, 5, 5, 5, 5, 5, 5, 5, 5, 5, 5, 5, 5, 5, 5, 5, 6, 6, 6, 6, 6, 6, 6, 6, 6, 6, 6, 6, 6, 6, 6, 6, 6, 6, 6, 6, 6, 6, 6, 6, 6, 6, 6, 6, 6, 6, 6, 6, 7, 7, 7, 7, 7, 7, 7, 7, 7, 7, 7, 7, 7, 7, 7, 7, 7, 7, 7, 7, 7, 7, 7, 7, 7, 7, 7, 7, 7, 7, 7, 7, 7, 7, 7, 7, 7, 7, 7, 7, 7, 7, 7, 7, 7, 7, 7, 7, 7, 7, 7, 7, 7, 7, 7, 7, 7, 7, 7, 7, 7, 7, 7, 7, 8, 8, 8, 8, 8, 8, 8, 8, 8, 8, 8, 8, 8, 8, 8, 8, 8, 8, 8, 8, 8, 8, 8, 8, 8, 8, 8, 8, 8, 8, 8, 8, 8, 8, 8, 8, 8, 8, 8, 8, 8, 8, 8, 8, 8, 8, 8, 8, 8, 8, 8, 8, 8, 8, 8, 8, 8, 8, 8, 8, 8, 8, 8, 8, 8, 8, 8, 8, 8, 8, 8, 8, 8, 8, 8, 8, 8, 8, 8, 8, 8, 8, 8, 8, 8, 8, 8, 8, 8, 8, 8, 8, 8, 8, 8, 8, 8, 8, 8, 8, 8, 8, 8, 8, 8, 8, 8, 8, 8, 8, 8, 8, 8, 8, 8, 8, 8, 8, 8, 8, 8, 8, 8, 8, 8, 8, 8, 8]))) (.t 21))),
 .ev (some 23) none (.w (.cv .i64 (.t 22))),
 .ev (some 24) none (.w (.bin .add (.t 19) (.t 23))),
 .ev (some 2) none (.w (.mv (.t 24)))])
 .ret))))), [.t 2]⟩
theorem c262 : cFn ty ibs (cDraw ty ibs) [] f262 = some q262 := by decide +kernel
noncomputable def q263 : MFn := ⟨(.seq (.reg [.ev (some 4) none (.w (.mv (.k (.c .l0))))])
 (.seq (.reg [.ev (some 5) none (.w (.mv (.k (.c (.i (.ofNat 0))))))])
 (.seq (.blk 0 (.loop (.seq (.seq (.reg [.ev (some 7) none (.w (.mv (.t 5))),
 .ev (some 8) none (.w (.mv (.t 0))),
 .ev (some 9) none (.w (.lnl (.t 8))),
 .ev (some 10) none (.w (.bin .lss (.t 7) (.t 9))),
 .ev (some 11) none (.w (.mv (.t 10))),
 .ev (some 12) (some (11, true)) (.w (.mv (.t 0))),
 .ev (some 13) (some (11, true)) (.w (.mv (.t 5))),
 .ev (some 14) (some (11, true)) (.w (.iad 1 (.t 12) (.t 13))),
 .ev (some 15) (some (11, true)) (.r (.ld none (.t 14))),
 .ev (some 16) (some (11, true)) (.w (.mv (.t 1))),
 .ev (some 17) (some (11, true)) (.w (.bin .lss (.t 15) (.t 16))),
 .ev (some 18) none (.w (.pick (.t 11) (.t 17) (.k (.c (.b false)))))])
 (.cond (.t 18) .skip (.exit 0)))
 (.blk 1 (.reg [.ev (some 19) none (.w (.mv (.t 5))),
 .ev (some 20) none (.w (.bin .add (.t 19) (.k (.c (.i (.ofNat 1)))))),
 .ev (some 5) none (.w (.mv (.t 20)))])))))
 (.seq (.seq (.reg [.ev (some 21) none (.w (.mv (.t 5))),
 .ev (some 22) none (.w (.mv (.t 0))),
 .ev (some 23) none (.w (.lnl (.t 22))),
 .ev (some 24) none (.w (.bin .lss (.t 21) (.t 23))),
 .ev (some 25) none (.w (.mv (.t 24))),
 .ev (some 26) (some (25, true)) (.w (.mv (.t 0))),
 .ev (some 27) (some (25, true)) (.w (.mv (.t 5))),
 .ev (some 28) (some (25, true)) (.w (.iad 1 (.t 26) (.t 27))),
 .ev (some 29) (some (25, true)) (.r (.ld none (.t 28))),
 .ev (some 30) (some (25, true)) (.w (.mv (.t 1))),
 .ev (some 31) (some (25, true)) (.w (.bin .eql (.t 29) (.t 30))),
 .ev (some 32) none (.w (.pick (.t 25) (.t 31) (.k (.c (.b false)))))])
 (.cond (.t 32) (.seq (.reg [.ev (some 33) none (.w (.mv (.t 0))),
 .ev (some 4) none (.w (.mv (.t 33)))])
 .ret) .skip))
 (.seq (.reg [.ev (some 34) none (.a (.bsl 1 0 [] [])),
 .ev (some 35) none (.w (.mv (.t 0))),
 .ev (some 36) none (.w (.mv (.t 5))),
 .ev (some 37) none (.w (.sll 1 (.t 35) none (some (.t 36)) none)),
 .ev (some 38) none (.m (.app 1 8 (.t 34) (.t 37))),
 .ev (some 6) none (.w (.mv (.t 38)))])
 (.seq (.reg [.ev (some 39) none (.w (.mv (.t 6))),
 .ev (some 40) none (.w (.mv (.t 1))),
 .ev (some 41) none (.a (.bsl 1 1 [.i (.ofNat 0)] [(0, 1, .t 40)])),
 .ev (some 42) none (.m (.app 1 8 (.t 39) (.t 41))),
 .ev (some 6) none (.w (.mv (.t 42)))])
 (.seq (.reg [.ev (some 43) none (.w (.mv (.t 6))),
 .ev (some 44) none (.w (.mv (.t 0))),
 .ev (some 45) none (.w (.mv (.t 5))),
 .ev (some 46) none (.w (.sll 1 (.t 44) (some (.t 45)) none none)),
 .ev (some 47) none (.m (.app 1 8 (.t 43) (.t 46))),
 .ev (some 4) none (.w (.mv (.t 47)))])
 .ret))))))), [.t 4]⟩
theorem c263 : cFn ty ibs (cDraw ty ibs) [] f263 = some q263 := by decide +kernel
noncomputable def q264 : MFn := ⟨(.seq (.reg [.ev (some 10) none (.w (.mv (.t 1))),
 .ev (some 8) none (.w (.mv (.t 10)))])
 (.blk 0 (.loop (.blk 1 (.seq (.reg [.ev (some 11) none (.w (.mv (.t 8))),
 .ev (some 12) none (.w (.bin .mul (.k (.c (.i (.ofNat 2)))) (.t 11))),
 .ev (some 13) none (.w (.bin .add (.t 12) (.k (.c (.i (.ofNat 1)))))),
 .ev (some 9) none (.w (.mv (.t 13)))])
 (.seq (.seq (.reg [.ev (some 14) none (.w (.mv (.t 9))),
 .ev (some 15) none (.w (.mv (.t 2))),
 .ev (some 16) none (.w (.bin .geq (.t 14) (.t 15)))])
 (.cond (.t 16) (.exit 0) .skip))
 (.seq (.seq (.reg [.ev (some 17) none (.w (.mv (.t 9))),
 .ev (some 18) none (.w (.bin .add (.t 17) (.k (.c (.i (.ofNat 1)))))),
 .ev (some 19) none (.w (.mv (.t 2))),
 .ev (some 20) none (.w (.bin .lss (.t 18) (.t 19))),
 .ev (some 21) none (.w (.mv (.t 20))),
 .ev (some 22) (some (21, true)) (.w (.mv (.t 0))),
 .ev (some 23) (some (21, true)) (.w (.mv (.t 3))),
 .ev (some 24) (some (21, true)) (.w (.mv (.t 9))),
 .ev (some 25) (some (21, true)) (.w (.bin .add (.t 23) (.t 24))),
 .ev (some 26) (some (21, true)) (.w (.iad 1 (.t 22) (.t 25))),
 .ev (some 27) (some (21, true)) (.r (.ld none (.t 26))),
 .ev (some 28) (some (21, true)) (.w (.mv (.t 0))),
 .ev (some 29) (some (21, true)) (.w (.mv (.t 3))),
 .ev (some 30) (some (21, true)) (.w (.mv (.t 9))),
 .ev (some 31) (some (21, true)) (.w (.bin .add (.t 29) (.t 30))),
 .ev (some 32) (some (21, true)) (.w (.bin .add (.t 31) (.k (.c (.i (.ofNat 1)))))),
 .ev (some 33) (some (21, true)) (.w (.iad 1 (.t 28) (.t 32))),
 .ev (some 34) (some (21, true)) (.r (.ld none (.t 33))),
 .mk (some 35) (some (21, true)) (.call 258 [.t 27, .t 34]) [] [],
 .ev (some 36) none (.w (.pick (.t 21) (.t 35) (.k (.c (.b false)))))])
 (.cond (.t 36) (.reg [.ev (some 37) none (.w (.mv (.t 9))),
 .ev (some 38) none (.w (.bin .add (.t 37) (.k (.c (.i (.ofNat 1)))))),
 .ev (some 9) none (.w (.mv (.t 38)))]) .skip))
 (.seq (.seq (.reg [.ev (some 39) none (.w (.mv (.t 0))),
 .ev (some 40) none (.w (.mv (.t 3))),
 .ev (some 41) none (.w (.mv (.t 8))),
 .ev (some 42) none (.w (.bin .add (.t 40) (.t 41))),
 .ev (some 43) none (.w (.iad 1 (.t 39) (.t 42))),
 .ev (some 44) none (.r (.ld none (.t 43))),
 .ev (some 45) none (.w (.mv (.t 0))),
 .ev (some 46) none (.w (.mv (.t 3))),
 .ev (some 47) none (.w (.mv (.t 9))),
 .ev (some 48) none (.w (.bin .add (.t 46) (.t 47))),
 .ev (some 49) none (.w (.iad 1 (.t 45) (.t 48))),
 .ev (some 50) none (.r (.ld none (.t 49))),
 .mk (some 51) none (.call 258 [.t 44, .t 50]) [] [],
 .ev (some 52) none (.w (.un .not (.t 51)))])
 (.cond (.t 52) .ret .skip))
 (.seq (.reg [.ev (some 53) none (.w (.mv (.t 0))),
 .ev (some 54) none (.w (.mv (.t 3))),
 .ev (some 55) none (.w (.mv (.t 8))),
 .ev (some 56) none (.w (.bin .add (.t 54) (.t 55))),
 .ev (some 57) none (.w (.mv (.t 0))),
 .ev (some 58) none (.w (.mv (.t 3))),
 .ev (some 59) none (.w (.mv (.t 9))),
 .ev (some 60) none (.w (.bin .add (.t 58) (.t 59))),
 .ev (some 61) none (.w (.mv (.t 0))),
 .ev (some 62) none (.w (.mv (.t 3))),
 .ev (some 63) none (.w (.mv (.t 9))),
 .ev (some 64) none (.w (.bin .add (.t 62) (.t 63))),
 .ev (some 65) none (.w (.iad 1 (.t 61) (.t 64))),
 .ev (some 66) none (.r (.ld none (.t 65))),
 .ev (some 67) none (.w (.mv (.t 0))),
 .ev (some 68) none (.w (.mv (.t 3))),
 .ev (some 69) none (.w (.mv (.t 8))),
 .ev (some 70) none (.w (.bin .add (.t 68) (.t 69))),
 .ev (some 71) none (.w (.iad 1 (.t 67) (.t 70))),
 .ev (some 72) none (.r (.ld none (.t 71))),
 .ev (some 73) none (.w (.iad 1 (.t 53) (.t 56))),
 .mk none none (.st 1 (.t 73) (.t 66)) [] [],
 .ev (some 74) none (.w (.iad 1 (.t 57) (.t 60))),
 .mk none none (.st 1 (.t 74) (.t 72)) [] []])
 (.reg [.ev (some 75) none (.w (.mv (.t 9))),
 .ev (some 8) none (.w (.mv (.t 75)))])))))))))), []⟩
theorem c264 : cFn ty ibs (cDraw ty ibs) [[.ev 0, .ev 1, .ev 2, .ev 3, .ev 4, .ev 5, .ev 6, .ev 7, .ev 8, .ev 9, .ev 10, .ev 11, .ev 12, .ev 13, .ev 14, .ev 15, .ev 16, .ev 17, .ev 18, .ev 19], [.ev 0, .ev 1, .ev 2, .ev 3, .ev 4, .ev 5, .ev 6, .ev 7, .ev 8, .ev 9, .ev 10, .ev 11, .ev 12, .ev 13], [.ev 0, .ev 1, .ev 2, .ev 3, .ev 4, .ev 5, .ev 6, .ev 7, .ev 8, .ev 9, .ev 10, .ev 11, .ev 12, .ev 13, .ev 14, .ev 15, .ev 16, .ev 17, .ev 18, .ev 19, .ev 20, .ev 21, .ev 22, .ev 23]] f264 = some q264 := by decide +kernel
noncomputable def q265 : MFn := ⟨(.seq (.reg [.ev (some 2) none (.w (.mv (.k (.c (.j .u64 (.ofNat 0))))))])
 (.seq (.reg [.ev (some 3) none (.w (.mv (.t 0))),
 .ev (some 4) none (.w (.cv .u64 (.t 3))),
 .ev (some 5) none (.m (.call 250 [.t 4])),
 .ev (some 6) none (.w (.bin .shl (.k (.c (.j .u64 (.ofNat 1)))) (.t 5))),
 .ev (some 2) none (.w (.mv (.t 6)))])
 .ret)), [.t 2]⟩
theorem c265 : cFn ty ibs (cDraw ty ibs) [] f265 = some q265 := by decide +kernel
noncomputable def q266 : MFn := ⟨(.seq (.reg [.ev (some 2) none (.w (.mv (.k (.c (.j .u64 (.ofNat 0))))))])
 (.seq (.reg [.ev (some 3) none (.w (.mv (.t 0))),
 .ev (some 4) none (.w (.nilc (.t 3))),
 .ev (some 5) none (.r (.ld none (.t 4))),
 .ev (some 6) none (.w (.mv (.t 0))),
 .ev (some 7) none (.w (.nilc (.t 6))),
 .ev (some 8) none (.r (.ld none (.t 7))),
 .ev (some 9) none (.w (.bin .shl (.t 8) (.k (.c (.j .u64 (.ofNat 13)))))),
 .ev (some 10) none (.w (.bin .xor (.t 5) (.t 9))),
 .ev (some 11) none (.w (.nilc (.t 3))),
 .mk none none (.st 1 (.t 11) (.t 10)) [] []])
 (.seq (.reg [.ev (some 12) none (.w (.mv (.t 0))),
 .ev (some 13) none (.w (.nilc (.t 12))),
 .ev (some 14) none (.r (.ld none (.t 13))),
 .ev (some 15) none (.w (.mv (.t 0))),
 .ev (some 16) none (.w (.nilc (.t 15))),
 .ev (some 17) none (.r (.ld none (.t 16))),
 .ev (some 18) none (.w (.bin .shr (.t 17) (.k (.c (.j .u64 (.ofNat 7)))))),
 .ev (some 19) none (.w (.bin .xor (.t 14) (.t 18))),
 .ev (some 20) none (.w (.nilc (.t 12))),
 .mk none none (.st 1 (.t 20) (.t 19)) [] []])
 (.seq (.reg [.ev (some 21) none (.w (.mv (.t 0))),
 .ev (some 22) none (.w (.nilc (.t 21))),
 .ev (some 23) none (.r (.ld none (.t 22))),
 .ev (some 24) none (.w (.mv (.t 0))),
 .ev (some 25) none (.w (.nilc (.t 24))),
 .ev (some 26) none (.r (.ld none (.t 25))),
 .ev (some 27) none (.w (.bin .shl (.t 26) (.k (.c (.j .u64 (.ofNat 17)))))),
 .ev (some 28) none (.w (.bin .xor (.t 23) (.t 27))),
 .ev (some 29) none (.w (.nilc (.t 21))),
 .mk none none (.st 1 (.t 29) (.t 28)) [] []])
 (.seq (.reg [.ev (some 30) none (.w (.mv (.t 0))),
 .ev (some 31) none (.w (.nilc (.t 30))),
 .ev (some 32) none (.r (.ld none (.t 31))),
 .ev (some 2) none (.w (.mv (.t 32)))])
 .ret))))), [.t 2]⟩
theorem c266 : cFn ty ibs (cDraw ty ibs) [[.ev 0, .ev 1, .ev 2, .ev 3, .ev 4, .ev 5, .ev 6, .ev 7, .ev 8, .ev 9], [.ev 0, .ev 1, .ev 2, .ev 3, .ev 4, .ev 5, .ev 6, .ev 7, .ev 8, .ev 9], [.ev 0, .ev 1, .ev 2, .ev 3, .ev 4, .ev 5, .ev 6, .ev 7, .ev 8, .ev 9]] f266 = some q266 := by decide +kernel
noncomputable def q267 : MFn := ⟨(.seq (.reg [.ev (some 6) none (.w (.mv (.k (.c (.i (.ofNat 0))))))])
 (.seq (.reg [.ev (some 7) none (.w (.mv (.t 0))),
 .ev (some 8) none (.w (.mv (.t 1))),
 .ev (some 9) none (.w (.bin .sub (.t 8) (.k (.c (.i (.ofNat 1)))))),
 .ev (some 10) none (.w (.mv (.t 1))),
 .ev (some 11) none (.w (.mv (.t 1))),
 .ev (some 12) none (.w (.bin .add (.t 11) (.k (.c (.i (.ofNat 1)))))),
 .ev (some 13) none (.w (.mv (.t 2))),
 .ev (some 14) none (.m (.call 268 [.t 7, .t 9, .t 10, .t 12, .t 13])),
 .ev (some 6) none (.w (.mv (.t 14)))])
 .ret)), [.t 6]⟩
theorem c267 : cFn ty ibs (cDraw ty ibs) [] f267 = some q267 := by decide +kernel
noncomputable def q268 : MFn := ⟨(.seq (.reg [.ev (some 10) none (.w (.mv (.k (.c (.i (.ofNat 0))))))])
 (.seq (.reg [.ev (some 12) none (.w (.mv (.t 0))),
 .ev (some 13) none (.w (.mv (.t 1))),
 .ev (some 14) none (.w (.mv (.t 2))),
 .ev (some 15) none (.w (.mv (.t 4))),
 .ev (some 16) none (.m (.call 270 [.t 12, .t 13, .t 14, .t 15])),
 .ev (some 11) none (.w (.mv (.t 16))),
 .ev (some 17) none (.w (.ext 0 (.t 11))),
 .ev (some 18) none (.w (.ext 1 (.t 11))),
 .ev (some 1) none (.w (.mv (.t 17))),
 .ev (some 2) none (.w (.mv (.t 18)))])
 (.seq (.reg [.ev (some 20) none (.w (.mv (.t 0))),
 .ev (some 21) none (.w (.mv (.t 2))),
 .ev (some 22) none (.w (.mv (.t 3))),
 .ev (some 23) none (.w (.mv (.t 4))),
 .ev (some 24) none (.m (.call 270 [.t 20, .t 21, .t 22, .t 23])),
 .ev (some 19) none (.w (.mv (.t 24))),
 .ev (some 25) none (.w (.ext 0 (.t 19))),
 .ev (some 26) none (.w (.ext 1 (.t 19))),
 .ev (some 2) none (.w (.mv (.t 25))),
 .ev (some 3) none (.w (.mv (.t 26)))])
 (.seq (.reg [.ev (some 28) none (.w (.mv (.t 0))),
 .ev (some 29) none (.w (.mv (.t 1))),
 .ev (some 30) none (.w (.mv (.t 2))),
 .ev (some 31) none (.w (.mv (.t 4))),
 .ev (some 32) none (.m (.call 270 [.t 28, .t 29, .t 30, .t 31])),
 .ev (some 27) none (.w (.mv (.t 32))),
 .ev (some 33) none (.w (.ext 0 (.t 27))),
 .ev (some 34) none (.w (.ext 1 (.t 27))),
 .ev (some 1) none (.w (.mv (.t 33))),
 .ev (some 2) none (.w (.mv (.t 34)))])
 (.seq (.reg [.ev (some 35) none (.w (.mv (.t 2))),
 .ev (some 10) none (.w (.mv (.t 35)))])
 .ret))))), [.t 10]⟩
theorem c268 : cFn ty ibs (cDraw ty ibs) [] f268 = some q268 := by decide +kernel
noncomputable def q269 : MFn := ⟨(.seq (.reg [.ev (some 2) none (.w (.mv (.k (.c (.b false)))))])
 (.seq (.reg [.ev (some 3) none (.w (.mv (.t 0))),
 .ev (some 4) none (.w (.mv (.t 0))),
 .ev (some 5) none (.w (.bin .neq (.t 3) (.t 4))),
 .ev (some 2) none (.w (.mv (.t 5)))])
 .ret)), [.t 2]⟩
theorem c269 : cFn ty ibs (cDraw ty ibs) [] f269 = some q269 := by decide +kernel
noncomputable def q270 : MFn := ⟨(.seq (.reg [.ev (some 8) none (.w (.mv (.k (.c (.i (.ofNat 0)))))),
 .ev (some 9) none (.w (.mv (.k (.c (.i (.ofNat 0))))))])
 (.seq (.seq (.reg [.ev (some 10) none (.w (.mv (.t 0))),
 .ev (some 11) none (.w (.mv (.t 2))),
 .ev (some 12) none (.w (.iad 1 (.t 10) (.t 11))),
 .ev (some 13) none (.r (.ld none (.t 12))),
 .ev (some 14) none (.w (.mv (.t 0))),
 .ev (some 15) none (.w (.mv (.t 1))),
 .ev (some 16) none (.w (.iad 1 (.t 14) (.t 15))),
 .ev (some 17) none (.r (.ld none (.t 16))),
 .mk (some 18) none (.call 258 [.t 13, .t 17]) [] []])
 (.cond (.t 18) (.seq (.reg [.ev (some 19) none (.w (.mv (.t 3))),
 .ev (some 20) none (.w (.nilc (.t 19))),
 .ev (some 21) none (.r (.ld none (.t 20))),
 .ev (some 22) none (.w (.bin .add (.t 21) (.k (.c (.i (.ofNat 1)))))),
 .ev (some 23) none (.w (.nilc (.t 19))),
 .ev none none (.m (.st 1 (.t 23) (.t 22)))])
 (.seq (.reg [.ev (some 24) none (.w (.mv (.t 2))),
 .ev (some 25) none (.w (.mv (.t 1))),
 .ev (some 8) none (.w (.mv (.t 24))),
 .ev (some 9) none (.w (.mv (.t 25)))])
 .ret)) .skip))
 (.seq (.reg [.ev (some 26) none (.w (.mv (.t 1))),
 .ev (some 27) none (.w (.mv (.t 2))),
 .ev (some 8) none (.w (.mv (.t 26))),
 .ev (some 9) none (.w (.mv (.t 27)))])
 .ret))), [.t 8, .t 9]⟩
theorem c270 : cFn ty ibs (cDraw ty ibs) [[.ev 0, .ev 1, .ev 2, .ev 3, .ev 4, .ev 5, .ev 6, .ev 7, .ev 8]] f270 = some q270 := by decide +kernel
end Go.Ev
