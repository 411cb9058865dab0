/- Parts of the proof of FnBytes. -/
import Derived.Test.YtdmkhipimcjipaaGreatZ11
import Derived.Below
import Derived.Test.YtdmkhipimcjipaaGreatZ09
set_option linter.unusedVariables false
set_option linter.unusedSimpArgs false
section
set_option linter.unusedVariables false
set_option maxRecDepth 1000000
namespace Go.Ev
open Go Go.Proofs.Tryz
def h35 : List (List HS) := [[.ev 0, .ev 1, .ev 2, .ev 3, .ev 4, .ev 5, .ev 6, .ev 7, .ev 8, .ev 9, .ev 10, .ev 11, .ev 12, .ev 13, .ev 14], [.ev 0, .ev 1, .ev 2, .ev 3, .ev 4, .ev 5, .ev 6, .ev 7, .ev 8, .ev 9, .ev 10, .ev 11, .ev 12, .ev 13, .ev 14, .ev 15, .ev 16, .ev 17]]
def h38 : List (List HS) := [[.ev 0, .ev 1, .ev 2, .ev 3, .ev 4, .ev 5, .ev 6, .ev 7, .ev 8, .ev 9, .ev 10, .ev 11, .ev 12, .ev 13]]
def h46 : List (List HS) := [[.ev 0, .ev 1, .ev 2, .ev 3, .ev 4, .ev 5, .ev 6, .ev 7], [.ev 0, .ev 1, .ev 2, .ev 3, .ev 4, .ev 5, .ev 6]]
def h48 : List (List HS) := [[.ev 0, .ev 1, .ev 2, .ev 3, .ev 4, .ev 5, .ev 6], [.ev 0, .ev 1, .ev 2, .ev 3, .ev 4, .ev 5, .ev 6], [.ev 0, .ev 1, .ev 2, .ev 3, .ev 4, .ev 5, .ev 6, .ev 7]]
def h49 : List (List HS) := [[.ev 0, .ev 1, .ev 2, .ev 3, .ev 4, .ev 5, .ev 6, .ev 7]]
def h51 : List (List HS) := [[.ev 0, .ev 1, .ev 2, .ev 3, .ev 4, .ev 5, .ev 6, .ev 7, .ev 8, .ev 9, .ev 10, .ev 11, .ev 12, .ev 13, .ev 14, .ev 15, .ev 16, .ev 17, .ev 18], [.ev 0, .ev 1, .ev 2, .ev 3, .ev 4, .ev 5, .ev 6, .ev 7, .ev 8, .ev 9], [.ev 0, .ev 1, .ev 2, .ev 3, .ev 4, .ev 5, .ev 6, .ev 7, .ev 8, .ev 9, .ev 10, .ev 11, .ev 12, .ev 13, .ev 14, .ev 15, .ev 16, .ev 17, .ev 18]]
def h52 : List (List HS) := [[.ev 0, .ev 1, .ev 2, .ev 3, .ev 4, .ev 5, .ev 6, .ev 7, .ev 8, .ev 9, .ev 10, .ev 11, .ev 12], [.ev 0, .ev 1, .ev 2, .ev 3, .ev 4, .ev 5, .ev 6, .ev 7, .ev 8, .ev 9, .ev 10, .ev 11, .ev 12], [.ev 0, .ev 1, .ev 2, .ev 3, .ev 4, .ev 5, .ev 6, .ev 7, .ev 8, .ev 9, .ev 10, .ev 11, .ev 12]]
def h55 : List (List HS) := [[.ev 0, .ev 1, .ev 2, .ev 3, .ev 4, .ev 5, .ev 6, .ev 7, .ev 8, .ev 9, .ev 10, .ev 11], [.ev 0, .ev 1, .ev 2, .ev 3, .ev 4, .ev 5, .ev 6, .ev 7], [.ev 0, .ev 1, .ev 2, .ev 3, .ev 4, .ev 5, .ev 6, .ev 7]]
def h57 : List (List HS) := [[.ev 0, .ev 1, .ev 2, .ev 3, .ev 4, .ev 5, .ev 6, .ev 7, .ev 8, .ev 9, .ev 10]]
def h59 : List (List HS) := [[.ev 0, .ev 1, .ev 2, .ev 3, .ev 4, .ev 5, .ev 6, .ev 7, .ev 8, .ev 9, .ev 10, .ev 11, .ev 12, .ev 13, .ev 14, .ev 15, .ev 16, .ev 17, .ev 18, .ev 19, .ev 20, .ev 21, .ev 22, .ev 23, .ev 24, .ev 25]]
def h63 : List (List HS) := [[.ev 0, .ev 1, .ev 2, .ev 3, .ev 4, .ev 5, .ev 6, .ev 7, .ev 8, .ev 9, .ev 10, .ev 11, .ev 12, .ev 13]]
def h65 : List (List HS) := [[.ev 0, .ev 1, .ev 2, .ev 3, .ev 4, .ev 5, .ev 6, .ev 7, .ev 8, .ev 9, .ev 10, .ev 12, .ev 13, .ev 14, .ev 17, .ev 11, .ev 15, .ev 16, .ev 18], [.ev 0, .ev 1, .ev 2, .ev 3, .ev 4, .ev 5, .ev 6, .ev 7, .ev 8, .ev 9, .ev 10, .ev 11, .ev 12], [.ev 0, .ev 1, .ev 2, .ev 3, .ev 4, .ev 5, .ev 6, .ev 7, .ev 8, .ev 9, .ev 10, .ev 11, .ev 12]]
def h66 : List (List HS) := [[.ev 0, .ev 1, .ev 2, .ev 3, .ev 4, .ev 5, .ev 6, .ev 7, .ev 8, .ev 9], [.ev 0, .ev 1, .ev 2, .ev 3, .ev 4, .ev 5, .ev 6, .ev 7, .ev 8, .ev 9, .ev 10, .ev 11, .ev 13, .ev 12, .ev 14], [.ev 0, .ev 1, .ev 2, .ev 3, .ev 4, .ev 5, .ev 6, .ev 7, .ev 8, .ev 9, .ev 11, .ev 10, .ev 12], [.ev 0, .ev 1, .ev 2, .ev 3, .ev 4, .ev 5, .ev 6, .ev 7, .ev 8, .ev 9, .ev 10, .ev 11, .ev 13, .ev 12, .ev 14], [.ev 0, .ev 1, .ev 2, .ev 3, .ev 4, .ev 5, .ev 7, .ev 8, .ev 9, .ev 10, .ev 6, .ev 11, .ev 12, .ev 13], [.ev 0, .ev 1, .ev 2, .ev 3, .ev 4, .ev 5, .ev 6, .ev 7, .ev 8, .ev 9, .ev 10]]
def h74 : List (List HS) := [[.ev 0, .ev 1, .ev 2, .ev 3, .ev 4, .ev 5, .ev 6, .ev 7]]
def h76 : List (List HS) := [[.ev 0, .ev 1, .ev 2, .ev 3, .ev 4, .ev 5, .ev 6, .ev 7, .ev 8, .ev 9, .ev 10]]
def h79 : List (List HS) := [[.ev 0, .ev 1, .ev 2, .ev 3, .ev 4, .ev 5, .ev 6, .ev 7, .ev 8, .ev 9]]
def h90 : List (List HS) := [[.ev 0, .ev 1, .ev 2, .ev 3, .ev 4, .ev 5, .ev 6, .ev 7, .ev 8, .ev 9, .ev 12, .ev 10, .ev 11, .ev 13], [.ev 0, .ev 1, .ev 2, .ev 3, .ev 4, .ev 5, .ev 6, .ev 7], [.ev 0, .ev 1, .ev 2, .ev 3, .ev 4, .ev 5, .ev 6, .ev 7], [.ev 0, .ev 1, .ev 2, .ev 3, .ev 4, .ev 5, .ev 6, .ev 8, .e2 7 9]]
def h93 : List (List HS) := [[.ev 0, .ev 1, .ev 2, .ev 3, .ev 4, .ev 5, .ev 6, .ev 7, .ev 8, .ev 9, .ev 10, .ev 11, .ev 12]]
def h94 : List (List HS) := [[.ev 0, .ev 1, .ev 2, .ev 3, .ev 4, .ev 5, .ev 6, .ev 7, .ev 8]]
def h96 : List (List HS) := [[.ev 0, .ev 1, .ev 2, .ev 3, .ev 4, .ev 5, .ev 6, .ev 7, .ev 8, .ev 9, .ev 10, .ev 11, .ev 12, .ev 13], [.ev 0, .ev 1, .ev 2, .ev 3, .ev 4, .ev 5, .ev 6, .ev 7, .ev 8, .ev 9, .ev 10, .ev 11, .ev 12, .ev 13, .ev 14, .ev 15, .ev 16, .ev 17]]
def h97 : List (List HS) := [[.ev 0, .ev 1, .ev 2, .ev 4, .ev 5, .ev 3, .ev 6, .ev 7, .ev 8, .ev 9]]
def h98 : List (List HS) := [[.ev 0, .ev 1, .ev 2, .ev 3, .ev 4, .ev 5, .ev 6, .ev 11, .ev 7, .ev 8, .ev 9, .ev 10, .ev 12, .ev 13], [.ev 0, .ev 1, .ev 2, .ev 3, .ev 4, .ev 5, .ev 6, .ev 8, .ev 7, .ev 9]]
def h105 : List (List HS) := [[.ev 0, .ev 1, .ev 2, .ev 3, .ev 4, .ev 5, .ev 6]]
def h110 : List (List HS) := [[.ev 0, .ev 1, .ev 2, .ev 3, .ev 4, .ev 5, .ev 6, .ev 7]]
def h116 : List (List HS) := [[.ev 0, .ev 1, .ev 2, .ev 3, .ev 4, .ev 5, .ev 6, .ev 7, .ev 8, .ev 9, .ev 10, .ev 11, .ev 12, .ev 13, .ev 14, .ev 15, .ev 16, .ev 17]]
def h120 : List (List HS) := [[.ev 0, .ev 1, .ev 2, .ev 3, .ev 4, .ev 5, .ev 6, .ev 7, .ev 8, .ev 9, .ev 10, .ev 11, .ev 12]]
def h123 : List (List HS) := [[.ev 0, .ev 2, .ev 1, .ev 3, .ev 4, .ev 5, .ev 6]]
def h124 : List (List HS) := [[.ev 0, .ev 1, .ev 2, .ev 3, .ev 4, .ev 5, .ev 6, .ev 7, .ev 8, .ev 9, .ev 10, .ev 11]]
def h125 : List (List HS) := [[.ev 0, .ev 1, .ev 2, .ev 3, .ev 4, .ev 6, .ev 7, .ev 8, .ev 9, .ev 5, .ev 10, .ev 11], [.ev 0, .ev 1, .ev 2, .ev 3, .ev 4, .ev 5, .ev 6, .ev 7, .ev 8, .ev 11, .ev 9, .ev 10, .ev 12]]
def h126 : List (List HS) := [[.ev 0, .ev 1, .ev 2, .ev 3, .ev 5, .ev 6, .ev 7, .ev 4, .ev 8, .ev 9, .ev 10, .ev 11, .ev 12]]
def h127 : List (List HS) := [[.ev 0, .ev 1, .ev 2, .ev 3, .ev 4], [.ev 0, .ev 1, .ev 2, .ev 3, .ev 5, .ev 6, .ev 7, .ev 8, .ev 4, .ev 9, .ev 10]]
def h128 : List (List HS) := [[.ev 0, .ev 1, .ev 2, .ev 3, .ev 4, .ev 5, .ev 6, .ev 7, .ev 8, .ev 9, .ev 10, .ev 11], [.ev 0, .ev 1, .ev 2, .ev 3, .ev 4, .ev 5, .ev 6, .ev 7, .ev 8, .ev 9, .ev 10, .ev 11, .ev 12, .ev 13, .ev 14, .ev 15, .ev 16, .ev 17, .ev 18, .ev 19, .ev 20], [.ev 0, .ev 1, .ev 2, .ev 3, .ev 4, .ev 5, .ev 6, .ev 7, .ev 8, .ev 9, .ev 10, .ev 11, .ev 13, .ev 14, .ev 12, .ev 15, .ev 16, .ev 18, .ev 19, .ev 20, .e2 17 21], [.ev 0, .ev 1, .ev 2, .ev 3, .ev 4, .ev 5, .ev 6, .ev 7, .ev 8, .ev 9, .ev 10, .ev 11, .ev 13, .ev 14, .ev 15, .ev 16, .ev 12, .ev 17, .ev 18, .ev 19, .ev 20]]
def h129 : List (List HS) := [[.ev 0, .ev 1, .ev 4, .ev 2, .ev 3, .ev 5], [.ev 0, .ev 1, .ev 2, .ev 3, .ev 4]]
def h132 : List (List HS) := [[.ev 0, .ev 1, .ev 2, .ev 3, .ev 4, .ev 5, .ev 6, .ev 7, .ev 8, .ev 9, .ev 10, .ev 11]]
def h135 : List (List HS) := [[.ev 0, .ev 1, .ev 2, .ev 3], [.ev 0, .ev 1, .ev 2, .ev 3, .ev 4, .ev 5, .ev 6, .ev 7]]
def h139 : List (List HS) := [[.ev 0, .ev 1, .ev 2, .ev 3, .ev 4, .ev 5, .ev 6, .ev 7]]
def h144 : List (List HS) := [[.ev 0, .ev 1, .ev 2, .ev 3, .ev 4, .ev 5, .ev 6, .ev 7, .ev 8, .ev 9, .ev 10, .ev 11, .ev 12, .ev 13, .ev 14, .ev 15, .ev 16]]
def h145 : List (List HS) := [[.ev 0, .ev 1, .ev 2, .ev 3, .ev 4, .ev 5, .ev 6, .ev 7, .ev 8, .ev 9, .ev 10, .ev 11, .ev 12, .ev 13, .ev 14, .ev 15], [.ev 0, .ev 1, .ev 2, .ev 3, .ev 4, .ev 5, .ev 6, .ev 7, .ev 8, .ev 9, .ev 10, .ev 11, .ev 12, .ev 13, .ev 14, .ev 15, .ev 16, .ev 17, .ev 18], [.ev 0, .ev 1, .ev 2, .ev 3, .ev 4, .ev 5, .ev 6], [.ev 0, .ev 1, .ev 3, .ev 2, .ev 4, .ev 5]]
def h146 : List (List HS) := [[.ev 0, .ev 1, .ev 2, .ev 3, .ev 4, .ev 5, .ev 6, .ev 7], [.ev 0, .ev 1, .ev 2, .ev 3, .ev 4, .ev 5, .ev 6, .ev 8, .e2 7 9]]
def h151 : List (List HS) := [[.ev 0, .ev 1, .ev 2, .ev 3, .ev 4, .ev 5, .ev 6, .ev 7, .ev 8, .ev 9, .ev 10, .ev 11, .ev 12, .ev 13, .ev 14, .ev 15, .ev 16, .ev 17, .ev 18]]
def h152 : List (List HS) := [[.ev 0, .ev 1, .ev 2, .ev 3, .ev 4, .ev 5, .ev 6, .ev 7, .ev 8, .ev 9, .ev 10]]
def h153 : List (List HS) := [[.ev 0, .ev 1, .ev 2, .ev 3, .ev 4, .ev 5, .ev 8, .ev 6, .ev 7, .ev 9]]
def h154 : List (List HS) := [[.ev 0, .ev 1, .ev 3, .ev 4, .ev 5, .ev 6, .ev 7, .ev 2, .ev 8, .ev 9, .ev 10, .ev 11, .ev 12], [.ev 0, .ev 1, .ev 2, .ev 3, .ev 4, .ev 5, .ev 6, .ev 7, .ev 9, .ev 8, .ev 10, .ev 11]]
def h155 : List (List HS) := [[.ev 0, .ev 1, .ev 2, .ev 3, .ev 4, .ev 5, .ev 6, .ev 7]]
def h159 : List (List HS) := [[.ev 0, .ev 1, .ev 2, .ev 3, .ev 4, .ev 5, .ev 6, .ev 7, .ev 8, .ev 9, .ev 10, .ev 11, .ev 12, .ev 13, .ev 14, .ev 15, .ev 16, .ev 17, .ev 18, .ev 19, .ev 20, .ev 21, .ev 22]]
def h160 : List (List HS) := [[.ev 0, .ev 1, .ev 2, .ev 3, .ev 4, .ev 5, .ev 6, .ev 7], [.ev 0, .ev 1, .ev 2, .ev 3, .ev 4, .ev 5, .ev 6, .ev 7, .ev 8, .ev 9, .ev 10, .ev 11, .ev 12, .ev 15, .ev 13, .ev 14, .ev 16], [.ev 0, .ev 1, .ev 2, .ev 3, .ev 4, .ev 6, .ev 7, .ev 8, .ev 9, .ev 10, .ev 5, .ev 11, .ev 12, .ev 13, .ev 14, .ev 15], [.ev 0, .ev 1, .ev 2, .ev 3, .ev 4, .ev 5, .ev 6, .ev 7, .ev 8, .ev 9, .ev 10, .ev 11, .ev 12]]
def h161 : List (List HS) := [[.ev 0, .ev 1, .ev 2, .ev 3, .ev 4, .ev 5, .ev 6, .ev 7], [.ev 0, .ev 1, .ev 2, .ev 3, .ev 4, .ev 5, .ev 6, .ev 7, .ev 8, .ev 9, .ev 10, .ev 11, .ev 12, .ev 13, .ev 14, .ev 15, .ev 16]]
def h168 : List (List HS) := [[.ev 0, .ev 1, .ev 2, .ev 3, .ev 4, .ev 5, .ev 6, .ev 7, .ev 8]]
noncomputable def tbl : T MFn := (.nd (.nd (.nd (.nd (.nd (.nd (.nd (.nd .lf (Q h127 f127) .lf) (Q h63 f63) .lf) none (.nd (.nd .lf (Q h159 f159) .lf) (Q (hN 0) f95) .lf)) none (.nd (.nd (.nd .lf (Q (hN 0) f143) .lf) (Q h79 f79) .lf) none (.nd .lf (Q (hN 0) f111) .lf))) none (.nd (.nd (.nd (.nd .lf (Q h135 f135) .lf) (Q (hN 0) f71) .lf) (Q (hN 0) f39) (.nd (.nd .lf (Q (hN 0) f167) .lf) (Q (hN 0) f103) .lf)) none (.nd (.nd (.nd .lf (Q h151 f151) .lf) (Q (hN 0) f87) .lf) (Q h55 f55) (.nd .lf (Q (hN 0) f119) .lf)))) none (.nd (.nd (.nd (.nd (.nd .lf (Q (hN 0) f131) .lf) (Q (hN 0) f67) .lf) (Q h35 f35) (.nd (.nd .lf (Q (hN 0) f163) .lf) (Q (hN 0) f99) .lf)) none (.nd (.nd (.nd .lf (Q (hN 0) f147) .lf) (Q (hN 0) f83) .lf) (Q h51 f51) (.nd .lf (Q (hN 0) f115) .lf))) none (.nd (.nd (.nd (.nd .lf (Q h139 f139) .lf) (Q (hN 0) f75) .lf) (Q (hN 0) f43) (.nd .lf (Q (hN 0) f107) .lf)) none (.nd (.nd (.nd .lf (Q h155 f155) .lf) (Q (hN 0) f91) .lf) (Q h59 f59) (.nd .lf (Q h123 f123) .lf))))) none (.nd (.nd (.nd (.nd (.nd (.nd .lf (Q h129 f129) .lf) (Q h65 f65) .lf) none (.nd (.nd .lf (Q h161 f161) .lf) (Q h97 f97) .lf)) none (.nd (.nd (.nd .lf (Q h145 f145) .lf) (Q (hN 0) f81) .lf) (Q h49 f49) (.nd .lf (Q (hN 0) f113) .lf))) none (.nd (.nd (.nd (.nd .lf (Q (hN 0) f137) .lf) (Q (hN 0) f73) .lf) none (.nd (.nd .lf (Q (hN 0) f169) .lf) (Q h105 f105) .lf)) none (.nd (.nd (.nd .lf (Q h153 f153) .lf) (Q (hN 0) f89) .lf) (Q h57 f57) (.nd .lf (Q (hN 0) f121) .lf)))) none (.nd (.nd (.nd (.nd (.nd .lf (Q (hN 0) f133) .lf) (Q (hN 0) f69) .lf) none (.nd (.nd .lf (Q (hN 0) f165) .lf) (Q (hN 0) f101) .lf)) none (.nd (.nd (.nd .lf (Q (hN 0) f149) .lf) (Q (hN 0) f85) .lf) (Q (hN 0) f53) (.nd .lf (Q (hN 0) f117) .lf))) none (.nd (.nd (.nd (.nd .lf (Q (hN 0) f141) .lf) (Q (hN 0) f77) .lf) (Q (hN 0) f45) (.nd .lf (Q (hN 0) f109) .lf)) none (.nd (.nd (.nd .lf (Q (hN 0) f157) .lf) (Q h93 f93) .lf) none (.nd .lf (Q h125 f125) .lf)))))) none (.nd (.nd (.nd (.nd (.nd (.nd (.nd .lf (Q h128 f128) .lf) (Q (hN 0) f64) .lf) none (.nd (.nd .lf (Q h160 f160) .lf) (Q h96 f96) .lf)) none (.nd (.nd (.nd .lf (Q h144 f144) .lf) (Q (hN 0) f80) .lf) (Q h48 f48) (.nd .lf (Q (hN 0) f112) .lf))) none (.nd (.nd (.nd (.nd .lf (Q (hN 0) f136) .lf) (Q (hN 0) f72) .lf) (Q (hN 0) f40) (.nd (.nd .lf (Q h168 f168) .lf) (Q (hN 0) f104) .lf)) none (.nd (.nd (.nd .lf (Q h152 f152) .lf) (Q (hN 0) f88) .lf) (Q (hN 0) f56) (.nd .lf (Q h120 f120) .lf)))) none (.nd (.nd (.nd (.nd (.nd .lf (Q h132 f132) .lf) (Q (hN 0) f68) .lf) none (.nd (.nd .lf (Q (hN 0) f164) .lf) (Q (hN 0) f100) .lf)) none (.nd (.nd (.nd .lf (Q (hN 0) f148) .lf) (Q (hN 0) f84) .lf) (Q h52 f52) (.nd .lf (Q h116 f116) .lf))) none (.nd (.nd (.nd (.nd .lf (Q (hN 0) f140) .lf) (Q h76 f76) .lf) (Q (hN 0) f44) (.nd .lf (Q (hN 0) f108) .lf)) none (.nd (.nd (.nd .lf (Q (hN 0) f156) .lf) (Q (hN 0) f92) .lf) none (.nd .lf (Q h124 f124) .lf))))) none (.nd (.nd (.nd (.nd (.nd (.nd .lf (Q (hN 0) f130) .lf) (Q h66 f66) .lf) none (.nd (.nd .lf (Q (hN 0) f162) .lf) (Q h98 f98) .lf)) none (.nd (.nd (.nd .lf (Q h146 f146) .lf) (Q (hN 0) f82) .lf) (Q (hN 0) f50) (.nd .lf (Q (hN 0) f114) .lf))) none (.nd (.nd (.nd (.nd .lf (Q (hN 0) f138) .lf) (Q h74 f74) .lf) (Q (hN 0) f42) (.nd .lf (Q (hN 0) f106) .lf)) (Q (hN 0) f26) (.nd (.nd (.nd .lf (Q h154 f154) .lf) (Q h90 f90) .lf) (Q (hN 0) f58) (.nd .lf (Q (hN 0) f122) .lf)))) none (.nd (.nd (.nd (.nd (.nd .lf (Q (hN 0) f134) .lf) (Q (hN 0) f70) .lf) (Q h38 f38) (.nd (.nd .lf (Q (hN 0) f166) .lf) (Q (hN 0) f102) .lf)) (Q (hN 0) f22) (.nd (.nd (.nd .lf (Q (hN 0) f150) .lf) (Q (hN 0) f86) .lf) (Q (hN 0) f54) (.nd .lf (Q (hN 0) f118) .lf))) none (.nd (.nd (.nd (.nd .lf (Q (hN 0) f142) .lf) (Q (hN 0) f78) .lf) (Q h46 f46) (.nd .lf (Q h110 f110) .lf)) none (.nd (.nd (.nd .lf (Q (hN 0) f158) .lf) (Q h94 f94) .lf) (Q (hN 0) f62) (.nd .lf (Q h126 f126) .lf)))))))
theorem tblOk : TblOk prog ty ibs (cDraw ty ibs) tbl := (nd_ok (nd_ok (nd_ok (nd_ok (nd_ok (nd_ok (nd_ok (nd_ok lf_ok (q_ok func127) lf_ok) (q_ok func63) lf_ok) no_ok (nd_ok (nd_ok lf_ok (q_ok func159) lf_ok) (q_ok func95) lf_ok)) no_ok (nd_ok (nd_ok (nd_ok lf_ok (q_ok func143) lf_ok) (q_ok func79) lf_ok) no_ok (nd_ok lf_ok (q_ok func111) lf_ok))) no_ok (nd_ok (nd_ok (nd_ok (nd_ok lf_ok (q_ok func135) lf_ok) (q_ok func71) lf_ok) (q_ok func39) (nd_ok (nd_ok lf_ok (q_ok func167) lf_ok) (q_ok func103) lf_ok)) no_ok (nd_ok (nd_ok (nd_ok lf_ok (q_ok func151) lf_ok) (q_ok func87) lf_ok) (q_ok func55) (nd_ok lf_ok (q_ok func119) lf_ok)))) no_ok (nd_ok (nd_ok (nd_ok (nd_ok (nd_ok lf_ok (q_ok func131) lf_ok) (q_ok func67) lf_ok) (q_ok func35) (nd_ok (nd_ok lf_ok (q_ok func163) lf_ok) (q_ok func99) lf_ok)) no_ok (nd_ok (nd_ok (nd_ok lf_ok (q_ok func147) lf_ok) (q_ok func83) lf_ok) (q_ok func51) (nd_ok lf_ok (q_ok func115) lf_ok))) no_ok (nd_ok (nd_ok (nd_ok (nd_ok lf_ok (q_ok func139) lf_ok) (q_ok func75) lf_ok) (q_ok func43) (nd_ok lf_ok (q_ok func107) lf_ok)) no_ok (nd_ok (nd_ok (nd_ok lf_ok (q_ok func155) lf_ok) (q_ok func91) lf_ok) (q_ok func59) (nd_ok lf_ok (q_ok func123) lf_ok))))) no_ok (nd_ok (nd_ok (nd_ok (nd_ok (nd_ok (nd_ok lf_ok (q_ok func129) lf_ok) (q_ok func65) lf_ok) no_ok (nd_ok (nd_ok lf_ok (q_ok func161) lf_ok) (q_ok func97) lf_ok)) no_ok (nd_ok (nd_ok (nd_ok lf_ok (q_ok func145) lf_ok) (q_ok func81) lf_ok) (q_ok func49) (nd_ok lf_ok (q_ok func113) lf_ok))) no_ok (nd_ok (nd_ok (nd_ok (nd_ok lf_ok (q_ok func137) lf_ok) (q_ok func73) lf_ok) no_ok (nd_ok (nd_ok lf_ok (q_ok func169) lf_ok) (q_ok func105) lf_ok)) no_ok (nd_ok (nd_ok (nd_ok lf_ok (q_ok func153) lf_ok) (q_ok func89) lf_ok) (q_ok func57) (nd_ok lf_ok (q_ok func121) lf_ok)))) no_ok (nd_ok (nd_ok (nd_ok (nd_ok (nd_ok lf_ok (q_ok func133) lf_ok) (q_ok func69) lf_ok) no_ok (nd_ok (nd_ok lf_ok (q_ok func165) lf_ok) (q_ok func101) lf_ok)) no_ok (nd_ok (nd_ok (nd_ok lf_ok (q_ok func149) lf_ok) (q_ok func85) lf_ok) (q_ok func53) (nd_ok lf_ok (q_ok func117) lf_ok))) no_ok (nd_ok (nd_ok (nd_ok (nd_ok lf_ok (q_ok func141) lf_ok) (q_ok func77) lf_ok) (q_ok func45) (nd_ok lf_ok (q_ok func109) lf_ok)) no_ok (nd_ok (nd_ok (nd_ok lf_ok (q_ok func157) lf_ok) (q_ok func93) lf_ok) no_ok (nd_ok lf_ok (q_ok func125) lf_ok)))))) no_ok (nd_ok (nd_ok (nd_ok (nd_ok (nd_ok (nd_ok (nd_ok lf_ok (q_ok func128) lf_ok) (q_ok func64) lf_ok) no_ok (nd_ok (nd_ok lf_ok (q_ok func160) lf_ok) (q_ok func96) lf_ok)) no_ok (nd_ok (nd_ok (nd_ok lf_ok (q_ok func144) lf_ok) (q_ok func80) lf_ok) (q_ok func48) (nd_ok lf_ok (q_ok func112) lf_ok))) no_ok (nd_ok (nd_ok (nd_ok (nd_ok lf_ok (q_ok func136) lf_ok) (q_ok func72) lf_ok) (q_ok func40) (nd_ok (nd_ok lf_ok (q_ok func168) lf_ok) (q_ok func104) lf_ok)) no_ok (nd_ok (nd_ok (nd_ok lf_ok (q_ok func152) lf_ok) (q_ok func88) lf_ok) (q_ok func56) (nd_ok lf_ok (q_ok func120) lf_ok)))) no_ok (nd_ok (nd_ok (nd_ok (nd_ok (nd_ok lf_ok (q_ok func132) lf_ok) (q_ok func68) lf_ok) no_ok (nd_ok (nd_ok lf_ok (q_ok func164) lf_ok) (q_ok func100) lf_ok)) no_ok (nd_ok (nd_ok (nd_ok lf_ok (q_ok func148) lf_ok) (q_ok func84) lf_ok) (q_ok func52) (nd_ok lf_ok (q_ok func116) lf_ok))) no_ok (nd_ok (nd_ok (nd_ok (nd_ok lf_ok (q_ok func140) lf_ok) (q_ok func76) lf_ok) (q_ok func44) (nd_ok lf_ok (q_ok func108) lf_ok)) no_ok (nd_ok (nd_ok (nd_ok lf_ok (q_ok func156) lf_ok) (q_ok func92) lf_ok) no_ok (nd_ok lf_ok (q_ok func124) lf_ok))))) no_ok (nd_ok (nd_ok (nd_ok (nd_ok (nd_ok (nd_ok lf_ok (q_ok func130) lf_ok) (q_ok func66) lf_ok) no_ok (nd_ok (nd_ok lf_ok (q_ok func162) lf_ok) (q_ok func98) lf_ok)) no_ok (nd_ok (nd_ok (nd_ok lf_ok (q_ok func146) lf_ok) (q_ok func82) lf_ok) (q_ok func50) (nd_ok lf_ok (q_ok func114) lf_ok))) no_ok (nd_ok (nd_ok (nd_ok (nd_ok lf_ok (q_ok func138) lf_ok) (q_ok func74) lf_ok) (q_ok func42) (nd_ok lf_ok (q_ok func106) lf_ok)) (q_ok func26) (nd_ok (nd_ok (nd_ok lf_ok (q_ok func154) lf_ok) (q_ok func90) lf_ok) (q_ok func58) (nd_ok lf_ok (q_ok func122) lf_ok)))) no_ok (nd_ok (nd_ok (nd_ok (nd_ok (nd_ok lf_ok (q_ok func134) lf_ok) (q_ok func70) lf_ok) (q_ok func38) (nd_ok (nd_ok lf_ok (q_ok func166) lf_ok) (q_ok func102) lf_ok)) (q_ok func22) (nd_ok (nd_ok (nd_ok lf_ok (q_ok func150) lf_ok) (q_ok func86) lf_ok) (q_ok func54) (nd_ok lf_ok (q_ok func118) lf_ok))) no_ok (nd_ok (nd_ok (nd_ok (nd_ok lf_ok (q_ok func142) lf_ok) (q_ok func78) lf_ok) (q_ok func46) (nd_ok lf_ok (q_ok func110) lf_ok)) no_ok (nd_ok (nd_ok (nd_ok lf_ok (q_ok func158) lf_ok) (q_ok func94) lf_ok) (q_ok func62) (nd_ok lf_ok (q_ok func126) lf_ok)))))))
end Go.Ev
end
section
set_option linter.unusedVariables false
set_option linter.unusedSimpArgs false
namespace Go.Ev
open Go Go.RowKit
def noExt : Nat → List V → St → Option (V × St) := fun _ _ _ => none
theorem noExt_ok (P : Program) : CallOk P noExt := fun g vs s v s' h => by cases h
def rho0 : Rho := fun _ => none
theorem Rel.zero (w : World) : Rel rho0 St.zero w := by
  have h0 : ∀ x b, St.zero.h.get x = some b → False := fun x b h => by
    rw [show St.zero.h.get x = Option.none from T.get_lf x] at h
    cases h
  refine ⟨?_, ?_, ?_, ?_, ?_, ?_, ?_⟩
  · intro x y h
    cases h
  · intro x cb sh z h
    cases h
  · intro x cb sh z b h
    cases h
  · intro x y cb sh sh' z z' bx b' hne h
    cases h
  · intro x b f h
    exact (h0 x b h).elim
  · intro x b h
    exact (h0 x b h).elim
  · intro x b h
    exact (h0 x b h).elim
theorem ER.upd {ρ : Rho} {e : E} {a : Act} (h : ER ρ e a) {t : Nat} {v : V} (hv : VR ρ v (a.tmps.getD t undef)) : ER ρ (T.upd (some v) e t) a := by
  intro x u hu
  rw [T.get_upd] at hu
  split at hu
  · rename_i hx
    simp only [Option.some.injEq] at hu
    subst hu hx; exact hv
  · exact h x u hu
theorem ER.lf {ρ : Rho} {a : Act} : ER ρ T.lf a := fun t v h => by rw [T.get_lf] at h; cases h
theorem table_ok {P : Program} {ty : TypeId → Option TyI} {ibs : FuncId → Bool} (hty : TyOk P ty) (hib : IbsOk P ibs) (hm : P.follows .mixedOrders = true) {tbl : T MFn} (ht : TblOk P ty ibs (cDraw ty ibs) tbl) (N d : Nat) : CallOk P (fn tbl N noExt d) :=
  fn_sound hty hib ht N (fun call nt hc => draw_ok hm hty hib hc) (noExt_ok P) d
theorem Go.below {s s' : St} {ρ ρ' : Rho} {w w' : World} (h : Go s ρ w s' ρ' w') {B : Nat} (hB : B ≤ w.heap.size) (hρ : ∀ x cb sh z, ρ x = some (cb, sh, z) → B ≤ cb) : Below B w w' :=
  ⟨h.os, h.tape, h.output, h.size, fun k hk => h.block k (Nat.lt_of_lt_of_le hk hB) fun x sh z e => absurd (hρ _ _ _ _ e) (by omega)⟩
end Go.Ev
end
section
set_option linter.unusedVariables false
set_option linter.unusedSimpArgs false
namespace Go.Ev
open Go Go.RowKit
def flS : S → Bool
  | .p .. => false
  | .l .. => false
  | .f .. => false
  | _ => true
def fl0 : V → Bool
  | .o => true
  | .c s => flS s
  | .a l => l.all flS
  | .t _ => false
def flV : V → Bool
  | .t l => l.all fl0
  | .o => true
  | .c s => flS s
  | .a l => l.all flS
theorem SR.flat {ρ ρ' : Rho} {s : S} {v : Value} (hf : flS s = true) (h : SR ρ s v) : SR ρ' s v := by
  cases s <;> first | exact h | cases hf
theorem LR.flat {α β : Type} {R R' : α → β → Prop} {f : α → Bool} (hR : ∀ a b, f a = true → R a b → R' a b) : ∀ {l : List α} {m : List β}, l.all f = true → LR R l m → LR R' l m
  | [], [], _, _ => trivial
  | a :: l, b :: m, hf, h => by
    simp only [List.all_cons, Bool.and_eq_true] at hf
    exact ⟨hR _ _ hf.1 h.1, LR.flat hR hf.2 h.2⟩
  | [], _ :: _, _, h => h.elim
  | _ :: _, [], _, h => h.elim
theorem VR0.flat {ρ ρ' : Rho} {v : V} {c : Value} (hf : fl0 v = true) (h : VR0 ρ v c) : VR0 ρ' v c := by
  cases v with
  | o => trivial
  | c s => exact SR.flat hf h
  | a l => obtain ⟨arr, h1, h2⟩ := h; exact ⟨arr, h1, LR.flat (fun _ _ => SR.flat) hf h2⟩
  | t l => exact h.elim
theorem VR.flat {ρ ρ' : Rho} {v : V} {c : Value} (hf : flV v = true) (h : VR ρ v c) : VR ρ' v c := by
  cases v with
  | o => trivial
  | c s => exact SR.flat hf h
  | a l => obtain ⟨arr, h1, h2⟩ := h; exact ⟨arr, h1, LR.flat (fun _ _ => SR.flat) hf h2⟩
  | t l => obtain ⟨arr, h1, h2⟩ := h; exact ⟨arr, h1, LR.flat (fun _ _ => VR0.flat) hf h2⟩
theorem Rel.below {ρ : Rho} {s : St} {w w' : World} (h : Rel ρ s w) (b : Below w.heap.size w w') : Rel ρ s w' := by
  have hlt : ∀ x cb sh z, ρ x = some (cb, sh, z) → cb < w.heap.size := fun x cb sh z e => by
    obtain ⟨cs, el, h1, _⟩ := h.blk x cb sh z e
    exact (Array.getElem?_eq_some_iff.1 h1).1
  refine ⟨h.dom, fun x cb sh z e => ?_, fun x cb sh z bk e e' => ?_, h.inj, h.fam, h.nfl, h.lt⟩
  · rw [b.block cb (hlt x cb sh z e)]; exact h.blk x cb sh z e
  · obtain ⟨h1, h2⟩ := h.con x cb sh z bk e e'
    refine ⟨h1, fun i sv hi => ?_⟩
    obtain ⟨cv, h3, h4⟩ := h2 i sv hi
    refine ⟨cv, ?_, h4⟩
    rw [← h3]
    unfold World.cell?
    rw [b.block cb (hlt x cb sh z e)]
structure Or where
  g : Nat
  vs : List V
  v : V
noncomputable def vsEq (l : List V) : List V → Bool :=
  List.rec (motive := fun _ => List V → Bool) (fun m => List.rec true (fun _ _ _ => false) m)
    (fun x _ ih m => List.rec false (fun y t _ => Bool.rec false (ih t) (vEq x y)) m) l
theorem vsEq_sound : ∀ {l m : List V}, vsEq l m = true → l = m
  | [], [], _ => rfl
  | [], _ :: _, h => by have : false = true := h; cases this
  | _ :: _, [], h => by have : false = true := h; cases this
  | x :: l, y :: m, h => by
    have h' : (Bool.rec false (vsEq l m) (vEq x y) : Bool) = true := h
    cases hv : vEq x y with
    | false => rw [hv] at h'; cases h'
    | true => rw [hv] at h'; rw [vEq_eq hv, vsEq_sound h']
end Go.Ev
end
section
set_option linter.unusedVariables false
set_option linter.unusedSimpArgs false
set_option maxRecDepth 20000
namespace Go.Ev
open Go
def Ent (P : Program) (g : Nat) (vs : List V) (u : St) (v : V) (u' : St) : Prop :=
  ∀ (ρ : Rho) (w : World) (cargs : List Value), LR (VR ρ) vs cargs → Rel ρ u w →
    (callFunc g cargs.toArray).run P w = .ok (.enter g cargs.toArray) w ∧
    Calls P g cargs.toArray w fun e w' => ∃ cv ρ', e = .returned cv ∧ VR ρ' v cv ∧ Rel ρ' u' w' ∧ Go u ρ w u' ρ' w'
def EntK (P : Program) (g : Nat) (vs : List V) (u : St) (v : V) : Prop :=
  ∀ (ρ : Rho) (w : World) (cargs : List Value), LR (VR ρ) vs cargs → Rel ρ u w →
    (callFunc g cargs.toArray).run P w = .ok (.enter g cargs.toArray) w ∧
    Calls P g cargs.toArray w fun e w' => ∃ cv, e = .returned cv ∧ VR ρ v cv ∧ Rel ρ u w' ∧ Go u ρ w u ρ w'
theorem ent_of {P : Program} {call : Nat → List V → St → Option (V × St)} (hc : CallOk P call) {g : Nat} {vs : List V} {u u' : St} {v : V} (h : call g vs u = some (v, u')) : Ent P g vs u v u' :=
  fun ρ w cargs hl hr => hc g vs u v u' h ρ w cargs hl hr
theorem PR.back {ρ ρ' : Rho} (h : ρ.le ρ') {x o : Nat} {v v' : Value} (h0 : PR ρ x o v) (h1 : PR ρ' x o v') : PR ρ x o v' := by
  obtain ⟨cb, sh, z, e0, rfl⟩ := h0
  obtain ⟨cb', sh', z', e1, rfl⟩ := h1
  have := h _ _ e0
  rw [e1] at this
  simp only [Option.some.injEq, Prod.mk.injEq] at this
  obtain ⟨rfl, rfl, rfl⟩ := this
  exact ⟨_, _, _, e0, rfl⟩
theorem LR.back {ρ ρ' : Rho} (h : ρ.le ρ') : ∀ {l : List (Nat × Nat)} {m m' : List Value}, LR (fun (c : Nat × Nat) v => PR ρ c.1 c.2 v) l m → LR (fun (c : Nat × Nat) v => PR ρ' c.1 c.2 v) l m' → LR (fun (c : Nat × Nat) v => PR ρ c.1 c.2 v) l m'
  | [], [], [], _, _ => trivial
  | _ :: _, _ :: _, _ :: _, h0, h1 => ⟨PR.back h h0.1 h1.1, LR.back h h0.2 h1.2⟩
  | [], _ :: _, _, h0, _ => h0.elim
  | _ :: _, [], _, h0, _ => h0.elim
  | [], [], _ :: _, _, h1 => h1.elim
  | _ :: _, _ :: _, [], _, h1 => h1.elim
theorem SR.back {ρ ρ' : Rho} (h : ρ.le ρ') {s : S} {v v' : Value} (h0 : SR ρ s v) (h1 : SR ρ' s v') : SR ρ s v' := by
  cases s with
  | p x o => exact PR.back h h0 h1
  | l x o n e full =>
    obtain ⟨cb, sh, z, a, cap, e0, _⟩ := h0
    obtain ⟨cb', sh', z', a', cap', e1, r⟩ := h1
    have := h _ _ e0
    rw [e1] at this
    simp only [Option.some.injEq, Prod.mk.injEq] at this
    obtain ⟨rfl, rfl, rfl⟩ := this
    exact ⟨_, _, _, a', cap', e0, r⟩
  | f g cs =>
    obtain ⟨arr, _, k0⟩ := h0
    obtain ⟨arr', rfl, k1⟩ := h1
    exact ⟨arr', rfl, LR.back h k0 k1⟩
  | _ => exact h1
theorem Rel.keep {ρ ρ' : Rho} {u u' : St} {w w' : World} (h : Rel ρ u w) (h' : Rel ρ' u' w') (g : Go u ρ w u' ρ' w') (hk : ∀ x b, u.h.get x = some b → u'.h.get x = some b) : Rel ρ u w' ∧ Go u ρ w u ρ w' := by
  refine ⟨⟨h.dom, fun x cb sh z e => h'.blk x cb sh z (g.le _ _ e), fun x cb sh z b e e' => by
      obtain ⟨k1, k2⟩ := h'.con x cb sh z b (g.le _ _ e) (hk _ _ e')
      obtain ⟨_, k3⟩ := h.con x cb sh z b e e'
      refine ⟨k1, fun i sv hi => ?_⟩
      obtain ⟨cv, k4, k5⟩ := k2 i sv hi
      obtain ⟨cv0, _, k6⟩ := k3 i sv hi
      exact ⟨cv, k4, SR.back g.le k6 k5⟩,
    fun x y cb sh sh' z z' bx b' hne e1 e2 e3 e4 => h'.inj x y cb sh sh' z z' bx b' hne (g.le _ _ e1) (g.le _ _ e2) (hk _ _ e3) (hk _ _ e4), h.fam, h.nfl, h.lt⟩, ?_⟩
  exact ⟨Rho.le_refl _, g.os, g.tape, g.output, g.size, g.block, fun x cb sh z e => .inl ⟨x, sh, z, e⟩, Nat.le_refl _, fun _ _ e => .inl e⟩
def Wk (v v' : V) : Prop := ∀ ρ ρ' cv, VR ρ v cv → VR ρ' v' cv
theorem ent_keep {P : Program} {g : Nat} {vs : List V} {u u' : St} {v v' : V} (h : Ent P g vs u v u') (hw : Wk v v') (hk : ∀ x b, x < u.nb → u.h.get x = some b → u'.h.get x = some b) : EntK P g vs u v' := by
  intro ρ w cargs hl hr
  obtain ⟨h1, h2⟩ := h ρ w cargs hl hr
  refine ⟨h1, h2.mono ?_⟩
  rintro e w' ⟨cv, ρ', rfl, k1, k2, k3⟩
  obtain ⟨k4, k5⟩ := hr.keep k2 k3 fun x b e => hk x b (hr.lt x b e) e
  exact ⟨cv, rfl, hw _ _ _ k1, k4, k5⟩
noncomputable def isUn (x : S) : Bool := S.rec (motive := fun _ => Bool) true (fun _ => false) (fun _ => false) (fun _ _ => false) (fun _ => false) false (fun _ _ => false) false (fun _ _ _ _ _ => false) (fun _ _ => false) false x
noncomputable def sEqU (x y : S) : Bool := Bool.rec (motive := fun _ => Bool) (sEq x y) (isUn y) (isUn x)
noncomputable def lEqU (l : List S) : List S → Bool :=
  List.rec (motive := fun _ => List S → Bool) (fun m => List.rec true (fun _ _ _ => false) m)
    (fun x _ ih m => List.rec false (fun y t _ => Bool.rec false (ih t) (sEqU x y)) m) l
theorem sEqU_eq {x y : S} (h : sEqU x y = true) : x = y := by
  have h' : Bool.rec (motive := fun _ => Bool) (sEq x y) (isUn y) (isUn x) = true := h
  cases hx : isUn x with
  | false => rw [hx] at h'; exact sEq_eq h'
  | true =>
    rw [hx] at h'
    have h2 : isUn y = true := h'
    have un : ∀ z, isUn z = true → z = .un := fun z hz => by cases z <;> first | rfl | cases hz
    rw [un x hx, un y h2]
theorem lEqU_eq : ∀ {l m : List S}, lEqU l m = true → l = m
  | [], [], _ => rfl
  | [], _ :: _, h => by cases h
  | _ :: _, [], h => by cases h
  | x :: l, y :: m, h => by
    have h' : (Bool.rec false (lEqU l m) (sEqU x y) : Bool) = true := h
    cases hv : sEqU x y with
    | false => rw [hv] at h'; cases h'
    | true => rw [hv] at h'; rw [sEqU_eq hv, lEqU_eq h']
noncomputable def eqKB (a b : Option KB) : Bool :=
  Option.rec (motive := fun _ => Bool) (Option.rec (motive := fun _ => Bool) true (fun _ => false) b)
    (fun x => Option.rec (motive := fun _ => Bool) false (fun y => lEqU x.r y.r && Nat.beq x.n y.n && Nat.beq x.fam y.fam && Nat.beq x.d y.d) b) a
theorem eqKB_sound {a b : Option KB} (h : eqKB a b = true) : a.map KB.bk = b.map KB.bk := by
  cases a with
  | none => cases b with
    | none => rfl
    | some y => cases h
  | some x => cases b with
    | none => cases h
    | some y =>
      have h' : (lEqU x.r y.r && Nat.beq x.n y.n && Nat.beq x.fam y.fam && Nat.beq x.d y.d) = true := h
      obtain ⟨h1, h4⟩ := (Bool.and_eq_true _ _).mp h'
      obtain ⟨h1, h3⟩ := (Bool.and_eq_true _ _).mp h1
      obtain ⟨h1, h2⟩ := (Bool.and_eq_true _ _).mp h1
      have e1 := lEqU_eq h1
      have e3 : x.fam = y.fam := Nat.eq_of_beq_eq_true h3
      have e4 : x.d = y.d := Nat.eq_of_beq_eq_true h4
      simp only [Option.map_some, KB.bk, e1, e3, e4]
noncomputable def sameK (s s' : KS) (n : Nat) : Bool := Nat.rec (motive := fun _ => Bool) true (fun x ih => Bool.rec (motive := fun _ => Bool) false ih (eqKB (getK s x) (getK s' x))) n
theorem sameK_sound {s s' : KS} : ∀ {n : Nat}, sameK s s' n = true → ∀ x, x < n → eqKB (getK s x) (getK s' x) = true
  | 0, _, x, hx => absurd hx (Nat.not_lt_zero _)
  | n + 1, h, x, hx => by
    have h' : Bool.rec (motive := fun _ => Bool) false (sameK s s' n) (eqKB (getK s n) (getK s' n)) = true := h
    cases he : eqKB (getK s n) (getK s' n) with
    | false => rw [he] at h'; cases h'
    | true =>
      rw [he] at h'
      by_cases hxn : x = n
      · subst hxn; exact he
      · exact sameK_sound h' x (by omega)
theorem same_of {s s' : KS} {u u' : St} (r : RS s u) (r' : RS s' u') {n : Nat} (h : sameK s s' n = true) (x : Nat) (hx : x < n) : u.h.get x = u'.h.get x := by
  rw [r.h, r'.h]; exact eqKB_sound (sameK_sound h x hx)
def isP (v : V) (k : List S → Bool) : Bool := match v with | .t [.a p, .c (.i (.negSucc 0))] => k p | _ => false
theorem isP_some {v : V} {k : List S → Bool} (h : isP v k = true) : ∃ p, v = .t [.a p, .c (.i (-1))] ∧ k p = true := by
  unfold isP at h
  split at h
  · exact ⟨_, rfl, h⟩
  · cases h
noncomputable def isI (n : Nat) (v : V) : Bool := match v with | .t [.a l, .c (.i (.ofNat 0))] => Nat.beq (llen l) n | _ => false
def isCT (v : V) (k : S → Bool) : Bool := match v with | .t [.c b, .c (.b true)] => k b | _ => false
theorem isCT_some {v : V} {k : S → Bool} (h : isCT v k = true) : ∃ b, v = .t [.c b, .c (.b true)] ∧ k b = true := by
  unfold isCT at h
  split at h
  · exact ⟨_, rfl, h⟩
  · cases h
def unT (n : Nat) : V := .t [.a (List.replicate n .un), .c (.i 0)]
theorem isI_wk {n : Nat} {v : V} (h : isI n v = true) : Wk v (unT n) := by
  unfold isI at h
  split at h
  · rename_i l
    have hl : l.length = n := by rw [← llen_eq]; exact Nat.eq_of_beq_eq_true h
    intro ρ ρ' cv hv
    obtain ⟨arr, rfl, k⟩ := hv
    refine ⟨arr, rfl, ?_⟩
    cases ha : arr.toList with
    | nil => rw [ha] at k; exact k.elim
    | cons a t =>
      rw [ha] at k
      cases t with
      | nil => exact k.2.elim
      | cons b t =>
        cases t with
        | cons c t => exact k.2.2.elim
        | nil =>
          obtain ⟨⟨ar, rfl, k1⟩, k2, _⟩ := k
          refine ⟨⟨ar, rfl, ?_⟩, k2, trivial⟩
          have hlen : ar.toList.length = n := by rw [← k1.length]; exact hl
          refine LR.of_get (by rw [List.length_replicate, hlen]) fun i x y hx hy => ?_
          have e : x = .un := by
            rw [List.getElem?_replicate] at hx
            split at hx
            · simp only [Option.some.injEq] at hx; exact hx.symm
            · cases hx
          subst e
          exact LR.one k1 y (List.mem_of_getElem? hy)
  · cases h
structure WF (u : St) : Prop where
  fam : ∀ x b f, u.h.get x = some b → b.fam = f + 1 → ∃ ms, u.fm.get f = some ms ∧ (x, b.d, b.c.length) ∈ ms
  nfl : ∀ x b, u.h.get x = some b → b.fam ≤ u.nf
  lt : ∀ x b, u.h.get x = some b → x < u.nb
theorem Rel.wf {ρ : Rho} {u : St} {w : World} (h : Rel ρ u w) : WF u := ⟨h.fam, h.nfl, h.lt⟩
def Eqv (u u' : St) : Prop := u.nb = u'.nb ∧ ∀ x, x < u'.nb → u.h.get x = u'.h.get x
theorem Eqv.rel {u u' : St} (h : Eqv u u') (hf : WF u') {ρ : Rho} {w : World} (hr : Rel ρ u w) : Rel ρ u' w :=
  ⟨fun x y e => h.1 ▸ hr.dom x y e, hr.blk, fun x cb sh z b e e' => hr.con x cb sh z b e (by rw [h.2 x (hf.lt x b e')]; exact e'),
   fun x y cb sh sh' z z' bx b' hne e1 e2 e3 e4 => hr.inj x y cb sh sh' z z' bx b' hne e1 e2 (by rw [h.2 x (hf.lt _ _ e3)]; exact e3) (by rw [h.2 y (hf.lt _ _ e4)]; exact e4), hf.fam, hf.nfl, hf.lt⟩
theorem Eqv.symm {u u' : St} (h : Eqv u u') : Eqv u' u := ⟨h.1.symm, fun x hx => (h.2 x (h.1 ▸ hx)).symm⟩
noncomputable def extK (g₀ : Nat) (vs₀ : List V) (s₀ : KS) (v₀ : V) : CallK := fun g vs s k =>
  bif Nat.beq g g₀ && vsEq vs vs₀ && Nat.beq s.nb s₀.nb && sameK s s₀ s₀.nb then k v₀ s else false
open Classical in
noncomputable def extE (g₀ : Nat) (vs₀ : List V) (u₀ : St) (v₀ : V) : Nat → List V → St → Option (V × St) := fun g vs u =>
  if g = g₀ ∧ vs = vs₀ ∧ Eqv u u₀ then some (v₀, u) else none
theorem ext_rel {g₀ : Nat} {vs₀ : List V} {s₀ : KS} {u₀ : St} {v₀ : V} (r₀ : RS s₀ u₀) : CallRel (extK g₀ vs₀ s₀ v₀) (extE g₀ vs₀ u₀ v₀) := by
  intro g vs s k u r h
  unfold extK at h
  cases hb : (Nat.beq g g₀ && vsEq vs vs₀ && Nat.beq s.nb s₀.nb && sameK s s₀ s₀.nb) with
  | false => rw [hb] at h; cases h
  | true =>
    rw [hb] at h
    obtain ⟨h1, h4⟩ := (Bool.and_eq_true _ _).mp hb
    obtain ⟨h1, h3⟩ := (Bool.and_eq_true _ _).mp h1
    obtain ⟨h1, h2⟩ := (Bool.and_eq_true _ _).mp h1
    refine ⟨v₀, s, u, ?_, r, h⟩
    unfold extE
    rw [if_pos]
    refine ⟨Nat.eq_of_beq_eq_true h1, vsEq_sound h2, ?_, fun x hx => ?_⟩
    · rw [r.nb, r₀.nb]; exact Nat.eq_of_beq_eq_true h3
    · exact same_of r r₀ h4 x (by rw [← r₀.nb]; exact hx)
theorem ext_ok {P : Program} {g₀ : Nat} {vs₀ : List V} {u₀ : St} {v₀ : V} (h : EntK P g₀ vs₀ u₀ v₀) (hf : WF u₀) : CallOk P (extE g₀ vs₀ u₀ v₀) := by
  intro g vs u v u' hc ρ w cargs hl hr
  unfold extE at hc
  split at hc
  · rename_i hh
    obtain ⟨rfl, rfl, he⟩ := hh
    simp only [Option.some.injEq, Prod.mk.injEq] at hc
    obtain ⟨rfl, rfl⟩ := hc
    obtain ⟨h1, h2⟩ := h ρ w cargs hl (he.rel hf hr)
    refine ⟨h1, h2.mono ?_⟩
    rintro e w' ⟨cv, rfl, k1, k2, k3⟩
    exact ⟨cv, ρ, rfl, k1, he.symm.rel hr.wf k2, k3.states he.1 he.1⟩
  · cases hc
abbrev OpL := Int × Int × Int
abbrev FunL := Int × List OpL
def opsS : List OpL → List S
  | [] => []
  | o :: l => .i o.1 :: .i o.2.1 :: .i o.2.2 :: opsS l
noncomputable def opsIs (cells : Nat → Nat → Nat → Option (List S)) (ops : List OpL) : S → Bool
  | .l b o n sz _ => Nat.beq sz 3 && Nat.beq n (llen ops) && (match cells b o (Nat.mul n 3) with | some l => lEq l (opsS ops) | none => false)
  | _ => false
noncomputable def funsS (cells : Nat → Nat → Nat → Option (List S)) : List FunL → List S → Bool
  | [], [] => true
  | f :: fs, .i n :: x :: l => ieq n f.1 && opsIs cells f.2 x && funsS cells fs l
  | _, _ => false
noncomputable def funsIs (cells : Nat → Nat → Nat → Option (List S)) (fs : List FunL) : S → Bool
  | .l b o n sz _ => Nat.beq sz 2 && Nat.beq n (llen fs) && (match cells b o (Nat.mul n 2) with | some l => funsS cells fs l | none => false)
  | _ => false
theorem opsIs_mono {c c' : Nat → Nat → Nat → Option (List S)} (h : ∀ x o n l, c x o n = some l → c' x o n = some l) {ops : List OpL} {x : S} (hx : opsIs c ops x = true) : opsIs c' ops x = true := by
  cases x with
  | l b o n sz fl =>
    have hx' : (Nat.beq sz 3 && Nat.beq n (llen ops) && (match c b o (Nat.mul n 3) with | some l => lEq l (opsS ops) | none => false)) = true := hx
    obtain ⟨h1, h2⟩ := (Bool.and_eq_true _ _).mp hx'
    show (Nat.beq sz 3 && Nat.beq n (llen ops) && (match c' b o (Nat.mul n 3) with | some l => lEq l (opsS ops) | none => false)) = true
    split at h2
    · rename_i l hl
      rw [h _ _ _ _ hl, h1]; exact h2
    · cases h2
  | _ => cases hx
theorem funsS_mono {c c' : Nat → Nat → Nat → Option (List S)} (h : ∀ x o n l, c x o n = some l → c' x o n = some l) : ∀ {fs : List FunL} {l : List S}, funsS c fs l = true → funsS c' fs l = true
  | [], [], _ => rfl
  | f :: fs, .i n :: x :: l, hx => by
    have hx' : (ieq n f.1 && opsIs c f.2 x && funsS c fs l) = true := hx
    obtain ⟨h1, h3⟩ := (Bool.and_eq_true _ _).mp hx'
    obtain ⟨h1, h2⟩ := (Bool.and_eq_true _ _).mp h1
    show (ieq n f.1 && opsIs c' f.2 x && funsS c' fs l) = true
    rw [h1, opsIs_mono h h2, funsS_mono h h3]; rfl
  | [], _ :: _, hx => by simp [funsS] at hx
  | _ :: _, [], hx => by simp [funsS] at hx
  | _ :: _, [_], hx => by simp [funsS] at hx
  | f :: fs, x :: y :: l, hx => by
    cases x with
    | i n =>
      have hx' : (ieq n f.1 && opsIs c f.2 y && funsS c fs l) = true := hx
      obtain ⟨h1, h3⟩ := (Bool.and_eq_true _ _).mp hx'
      obtain ⟨h1, h2⟩ := (Bool.and_eq_true _ _).mp h1
      show (ieq n f.1 && opsIs c' f.2 y && funsS c' fs l) = true
      rw [h1, opsIs_mono h h2, funsS_mono h h3]; rfl
    | _ => simp [funsS] at hx
theorem funsIs_mono {c c' : Nat → Nat → Nat → Option (List S)} (h : ∀ x o n l, c x o n = some l → c' x o n = some l) {fs : List FunL} {x : S} (hx : funsIs c fs x = true) : funsIs c' fs x = true := by
  cases x with
  | l b o n sz fl =>
    have hx' : (Nat.beq sz 2 && Nat.beq n (llen fs) && (match c b o (Nat.mul n 2) with | some l => funsS c fs l | none => false)) = true := hx
    obtain ⟨h1, h2⟩ := (Bool.and_eq_true _ _).mp hx'
    show (Nat.beq sz 2 && Nat.beq n (llen fs) && (match c' b o (Nat.mul n 2) with | some l => funsS c' fs l | none => false)) = true
    split at h2
    · rename_i l hl
      rw [h _ _ _ _ hl, h1]; exact funsS_mono h h2
    · cases h2
  | _ => cases hx
end Go.Ev
end
section
set_option linter.unusedVariables false
set_option linter.unusedSimpArgs false
set_option maxRecDepth 20000
namespace Go.Ev
open Go Go.RowKit
theorem EntK.drop {P : Program} {g : Nat} {vs : List V} {u : St} {p : List S} {v : V} (h : EntK P g vs (alloc u p) v) : EntK P g vs u v := by
  intro ρ w cargs hl hr
  obtain ⟨h1, h2⟩ := h ρ w cargs hl (hr.known p)
  refine ⟨h1, h2.mono ?_⟩
  rintro e w' ⟨cv, rfl, k1, k2, k3⟩
  have hg : ∀ x b, u.h.get x = some b → (alloc u p).h.get x = some b := fun x b e => by
    rw [get_alloc, if_neg (by have := hr.lt x b e; omega)]; exact e
  obtain ⟨k4, k5⟩ := hr.keep k2 (show Go u ρ w (alloc u p) ρ w' from ⟨k3.le, k3.os, k3.tape, k3.output, k3.size, k3.block, k3.new, Nat.le_succ _, fun x y e => .inl e⟩) hg
  exact ⟨cv, rfl, k1, k4, k5⟩
theorem Rel.later {ρ : Rho} {u : St} {w w' : World} (h : Rel ρ u w) (hb : Below w.heap.size w w') : Rel ρ u w' := by
  have hlt : ∀ x cb sh z, ρ x = some (cb, sh, z) → cb < w.heap.size := fun x cb sh z e => by
    obtain ⟨cs, el, e1, _⟩ := h.blk x cb sh z e
    rcases Nat.lt_or_ge cb w.heap.size with h | h
    · exact h
    · rw [Array.getElem?_eq_none h] at e1; cases e1
  refine ⟨h.dom, fun x cb sh z e => ?_, fun x cb sh z b e e' => ?_, h.inj, h.fam, h.nfl, h.lt⟩
  · rw [hb.block cb (hlt _ _ _ _ e)]; exact h.blk x cb sh z e
  · obtain ⟨k1, k2⟩ := h.con x cb sh z b e e'
    refine ⟨k1, fun i sv hi => ?_⟩
    rw [hb.cell (p := ⟨cb, sh + i, Option.none⟩) (hlt _ _ _ _ e)]
    exact k2 i sv hi
structure Kn (w0 : World) (ρ : Rho) (u : St) (w : World) : Prop where
  rel : Rel ρ u w
  low : ∀ x cb sh z, ρ x = some (cb, sh, z) → w0.heap.size ≤ cb
  below : Below w0.heap.size w0 w
def Far (ρ : Rho) (w : World) (c : Nat) : Prop := c < w.heap.size ∧ ∀ x sh z, ρ x ≠ some (c, sh, z)
structure Left (ρ : Rho) (w : World) (ρ' : Rho) (w' : World) : Prop where
  le : ρ.le ρ'
  size : w.heap.size ≤ w'.heap.size
  keep : ∀ c, Far ρ w c → Far ρ' w' c ∧ w'.heap[c]? = w.heap[c]?
theorem Kn.zero (w : World) : Kn w rho0 St.zero w := ⟨Rel.zero w, (fun x cb sh z e => by cases e), Below.refl _ _⟩
theorem Kn.later {w0 : World} {ρ : Rho} {u : St} {w w' : World} (h : Kn w0 ρ u w) (hb : Below w.heap.size w w') : Kn w0 ρ u w' :=
  ⟨h.rel.later hb, h.low, h.below.trans (hb.mono h.below.size)⟩
theorem Far.later {ρ : Rho} {w w' : World} {c : Nat} (h : Far ρ w c) (hb : Below w.heap.size w w') : Far ρ w' c := ⟨Nat.lt_of_lt_of_le h.1 hb.size, h.2⟩
theorem Kn.far {w0 : World} {ρ : Rho} {u : St} {w w' : World} (h : Kn w0 ρ u w) {c : Nat} (hc : w.heap.size ≤ c) (h' : c < w'.heap.size) : Far ρ w' c := by
  refine ⟨h', fun x sh z e => ?_⟩
  obtain ⟨cs, el, e1, _⟩ := h.rel.blk x c sh z e
  rw [Array.getElem?_eq_none hc] at e1; cases e1
theorem Left.of {u u' : St} {ρ ρ' : Rho} {w w' : World} (g : Go u ρ w u' ρ' w') : Left ρ w ρ' w' :=
  ⟨g.le, g.size, fun c hc => ⟨⟨Nat.lt_of_lt_of_le hc.1 g.size, fun x sh z e => by
    rcases g.new x c sh z e with ⟨x0, sh0, z0, e0⟩ | h
    · exact hc.2 _ _ _ e0
    · exact absurd hc.1 (by omega)⟩, g.block c hc.1 hc.2⟩⟩
theorem Kn.next {w0 : World} {ρ ρ' : Rho} {u u' : St} {w w' : World} (h : Kn w0 ρ u w) (r : Rel ρ' u' w') (g : Go u ρ w u' ρ' w') : Kn w0 ρ' u' w' :=
  ⟨r, fun x cb sh z e => by
    rcases g.new x cb sh z e with ⟨x0, sh0, z0, e0⟩ | hh
    · exact h.low _ _ _ _ e0
    · exact Nat.le_trans h.below.size hh,
   h.below.trans (g.below h.below.size h.low)⟩
theorem Kn.ent {P : Program} {g : Nat} {vs : List V} {u u' : St} {v : V} (E : Ent P g vs u v u') {w0 : World} {ρ : Rho} {w : World} (h : Kn w0 ρ u w) {cargs : List Value} (hl : LR (VR ρ) vs cargs) :
    Calls P g cargs.toArray w fun e w' => ∃ cv ρ', e = .returned cv ∧ VR ρ' v cv ∧ Kn w0 ρ' u' w' ∧ Left ρ w ρ' w' :=
  (E ρ w cargs hl h.rel).2.mono fun e w' ⟨cv, ρ', he, k1, k2, k3⟩ => ⟨cv, ρ', he, k1, h.next k2 k3, Left.of k3⟩
end Go.Ev
end
section
set_option maxRecDepth 100000
namespace Go.Ev
def src0 : List Nat := [100, 97, 116, 97, 32, 76, 105, 115, 116, 32, 97, 32, 61, 32, 78, 105, 108, 32, 124, 32, 67, 111, 110, 115, 32, 97, 32, 40, 76, 105, 115, 116, 32, 97, 41, 59, 10, 114, 101, 99, 32, 109, 97, 112, 32, 102, 32, 61, 32, 102, 117, 110, 32, 108, 32, 45, 62, 32, 99, 97, 115, 101, 32, 108, 32, 111, 102, 32, 123, 32, 78, 105, 108, 32, 45, 62, 32, 78, 105, 108, 59, 32, 67, 111, 110, 115, 32, 120, 32, 116, 32, 45, 62, 32, 67, 111, 110, 115, 32, 40, 102, 32, 120, 41, 32, 40, 109, 97, 112, 32, 102, 32, 116, 41, 32, 125, 32, 105, 110, 10, 114, 101, 99, 32, 115, 117, 109, 32, 108, 32, 61, 32, 99, 97, 115, 101, 32, 108, 32, 111, 102, 32, 123, 32, 78, 105, 108, 32, 45, 62, 32, 48, 59, 32, 67, 111, 110, 115, 32, 120, 32, 116, 32, 45, 62, 32, 120, 32, 43, 32, 115, 117, 109, 32, 116, 32, 125, 32, 105, 110, 10, 115, 117, 109, 32, 40, 109, 97, 112, 32, 40, 102, 117, 110, 32, 120, 32, 45, 62, 32, 120, 32, 42, 32, 120, 41, 32, 40, 67, 111, 110, 115, 32, 49, 32, 40, 67, 111, 110, 115, 32, 50, 32, 40, 67, 111, 110, 115, 32, 51, 32, 78, 105, 108, 41, 41, 41, 41, 10]
def funs0 : List FunL := [(0, [(5, 1, 0), (5, 3, 0), (2, 2, 0), (2, 1, 0), (5, 4, 0), (6, 0, 0), (1, 1, 0), (1, 2, 0), (1, 3, 0), (8, 0, 0), (8, 1, 2), (8, 1, 2), (8, 1, 2), (6, 0, 0), (6, 0, 0), (20, 0, 0), (20, 0, 0), (7, 0, 0)]), (0, [(2, 0, 0), (4, 0, 0), (5, 2, 2), (7, 0, 0)]), (2, [(2, 0, 0), (2, 1, 0), (10, 0, 5), (8, 0, 0), (19, 20, 0), (2, 1, 0), (10, 1, 19), (3, 0, 0), (2, 1, 0), (9, 0, 0), (6, 0, 0), (3, 1, 0), (3, 0, 0), (6, 0, 0), (2, 1, 0), (9, 1, 0), (6, 0, 0), (8, 1, 2), (19, 20, 0), (21, 0, 0), (20, 0, 0), (7, 0, 0)]), (0, [(2, 0, 0), (2, 1, 0), (10, 0, 5), (1, 0, 0), (19, 16, 0), (2, 1, 0), (10, 1, 15), (2, 1, 0), (9, 0, 0), (4, 0, 0), (2, 1, 0), (9, 1, 0), (6, 0, 0), (12, 0, 0), (19, 16, 0), (21, 0, 0), (20, 0, 0), (7, 0, 0)]), (0, [(2, 0, 0), (2, 0, 0), (14, 0, 0), (7, 0, 0)])]
def src1 : List Nat := [100, 97, 116, 97, 32, 80, 97, 105, 114, 32, 97, 32, 98, 32, 61, 32, 80, 97, 105, 114, 32, 97, 32, 98, 59, 10, 100, 97, 116, 97, 32, 66, 111, 111, 108, 32, 61, 32, 84, 114, 117, 101, 32, 124, 32, 70, 97, 108, 115, 101, 59, 10, 108, 101, 116, 32, 105, 100, 32, 61, 32, 102, 117, 110, 32, 120, 32, 45, 62, 32, 120, 32, 105, 110, 10, 108, 101, 116, 32, 112, 32, 61, 32, 80, 97, 105, 114, 32, 40, 105, 100, 32, 51, 41, 32, 40, 105, 100, 32, 84, 114, 117, 101, 41, 32, 105, 110, 10, 99, 97, 115, 101, 32, 112, 32, 111, 102, 32, 123, 32, 80, 97, 105, 114, 32, 110, 32, 84, 114, 117, 101, 32, 45, 62, 32, 112, 117, 116, 32, 40, 110, 32, 43, 32, 49, 41, 59, 32, 80, 97, 105, 114, 32, 95, 32, 70, 97, 108, 115, 101, 32, 45, 62, 32, 48, 32, 125, 10]
def funs1 : List FunL := [(0, [(5, 1, 0), (2, 1, 0), (1, 3, 0), (6, 0, 0), (2, 1, 0), (8, 1, 0), (6, 0, 0), (8, 0, 2), (2, 2, 0), (2, 3, 0), (10, 0, 27), (2, 3, 0), (9, 1, 0), (10, 1, 20), (2, 3, 0), (9, 0, 0), (1, 1, 0), (12, 0, 0), (17, 0, 0), (19, 26, 0), (2, 3, 0), (9, 1, 0), (10, 2, 25), (1, 0, 0), (19, 26, 0), (21, 0, 0), (19, 28, 0), (21, 0, 0), (20, 0, 0), (20, 0, 0), (20, 0, 0), (7, 0, 0)]), (0, [(2, 0, 0), (7, 0, 0)])]
def src2 : List Nat := [114, 101, 99, 32, 102, 97, 99, 116, 32, 110, 32, 61, 32, 105, 102, 32, 110, 32, 116, 104, 101, 110, 32, 110, 32, 42, 32, 102, 97, 99, 116, 32, 40, 110, 32, 45, 32, 49, 41, 32, 101, 108, 115, 101, 32, 49, 32, 105, 110, 10, 108, 101, 116, 32, 120, 32, 61, 32, 112, 117, 116, 32, 40, 102, 97, 99, 116, 32, 53, 41, 32, 105, 110, 10, 102, 97, 99, 116, 32, 50, 48, 10]
def funs2 : List FunL := [(0, [(5, 1, 0), (2, 1, 0), (1, 5, 0), (6, 0, 0), (17, 0, 0), (2, 1, 0), (1, 20, 0), (6, 0, 0), (20, 0, 0), (20, 0, 0), (7, 0, 0)]), (0, [(2, 0, 0), (18, 10, 0), (2, 0, 0), (4, 0, 0), (2, 0, 0), (1, 1, 0), (13, 0, 0), (6, 0, 0), (14, 0, 0), (19, 11, 0), (1, 1, 0), (7, 0, 0)])]
def src3 : List Nat := [100, 97, 116, 97, 32, 84, 114, 101, 101, 32, 61, 32, 76, 101, 97, 102, 32, 124, 32, 78, 111, 100, 101, 32, 84, 114, 101, 101, 32, 73, 110, 116, 32, 84, 114, 101, 101, 59, 10, 114, 101, 99, 32, 105, 110, 115, 32, 120, 32, 61, 32, 102, 117, 110, 32, 116, 32, 45, 62, 32, 99, 97, 115, 101, 32, 116, 32, 111, 102, 32, 123, 32, 76, 101, 97, 102, 32, 45, 62, 32, 78, 111, 100, 101, 32, 76, 101, 97, 102, 32, 120, 32, 76, 101, 97, 102, 59, 32, 78, 111, 100, 101, 32, 108, 32, 121, 32, 114, 32, 45, 62, 32, 105, 102, 32, 120, 32, 60, 32, 121, 32, 116, 104, 101, 110, 32, 78, 111, 100, 101, 32, 40, 105, 110, 115, 32, 120, 32, 108, 41, 32, 121, 32, 114, 32, 101, 108, 115, 101, 32, 78, 111, 100, 101, 32, 108, 32, 121, 32, 40, 105, 110, 115, 32, 120, 32, 114, 41, 32, 125, 32, 105, 110, 10, 114, 101, 99, 32, 119, 97, 108, 107, 32, 116, 32, 61, 32, 99, 97, 115, 101, 32, 116, 32, 111, 102, 32, 123, 32, 76, 101, 97, 102, 32, 45, 62, 32, 48, 59, 32, 78, 111, 100, 101, 32, 108, 32, 121, 32, 114, 32, 45, 62, 32, 108, 101, 116, 32, 97, 32, 61, 32, 119, 97, 108, 107, 32, 108, 32, 105, 110, 32, 108, 101, 116, 32, 98, 32, 61, 32, 112, 117, 116, 32, 121, 32, 105, 110, 32, 97, 32, 43, 32, 119, 97, 108, 107, 32, 114, 32, 43, 32, 49, 32, 125, 32, 105, 110, 10, 119, 97, 108, 107, 32, 40, 105, 110, 115, 32, 51, 32, 40, 105, 110, 115, 32, 57, 32, 40, 105, 110, 115, 32, 49, 32, 40, 105, 110, 115, 32, 53, 32, 76, 101, 97, 102, 41, 41, 41, 41, 10]
def funs3 : List FunL := [(0, [(5, 1, 0), (5, 3, 0), (2, 2, 0), (2, 1, 0), (1, 3, 0), (6, 0, 0), (2, 1, 0), (1, 9, 0), (6, 0, 0), (2, 1, 0), (1, 1, 0), (6, 0, 0), (2, 1, 0), (1, 5, 0), (6, 0, 0), (8, 0, 0), (6, 0, 0), (6, 0, 0), (6, 0, 0), (6, 0, 0), (6, 0, 0), (20, 0, 0), (20, 0, 0), (7, 0, 0)]), (0, [(2, 0, 0), (4, 0, 0), (5, 2, 2), (7, 0, 0)]), (2, [(2, 0, 0), (2, 1, 0), (10, 0, 8), (8, 0, 0), (3, 0, 0), (8, 0, 0), (8, 1, 3), (19, 40, 0), (2, 1, 0), (10, 1, 39), (3, 0, 0), (2, 1, 0), (9, 1, 0), (15, 0, 0), (18, 27, 0), (3, 1, 0), (3, 0, 0), (6, 0, 0), (2, 1, 0), (9, 0, 0), (6, 0, 0), (2, 1, 0), (9, 1, 0), (2, 1, 0), (9, 2, 0), (8, 1, 3), (19, 38, 0), (2, 1, 0), (9, 0, 0), (2, 1, 0), (9, 1, 0), (3, 1, 0), (3, 0, 0), (6, 0, 0), (2, 1, 0), (9, 2, 0), (6, 0, 0), (8, 1, 3), (19, 40, 0), (21, 0, 0), (20, 0, 0), (7, 0, 0)]), (0, [(2, 0, 0), (2, 1, 0), (10, 0, 5), (1, 0, 0), (19, 26, 0), (2, 1, 0), (10, 1, 25), (4, 0, 0), (2, 1, 0), (9, 0, 0), (6, 0, 0), (2, 1, 0), (9, 1, 0), (17, 0, 0), (2, 2, 0), (4, 0, 0), (2, 1, 0), (9, 2, 0), (6, 0, 0), (12, 0, 0), (1, 1, 0), (12, 0, 0), (20, 0, 0), (20, 0, 0), (19, 26, 0), (21, 0, 0), (20, 0, 0), (7, 0, 0)])]
def src4 : List Nat := [100, 97, 116, 97, 32, 79, 112, 116, 32, 97, 32, 61, 32, 78, 111, 110, 101, 32, 124, 32, 83, 111, 109, 101, 32, 97, 59, 10, 100, 97, 116, 97, 32, 76, 105, 115, 116, 32, 97, 32, 61, 32, 78, 105, 108, 32, 124, 32, 67, 111, 110, 115, 32, 97, 32, 40, 76, 105, 115, 116, 32, 97, 41, 59, 10, 114, 101, 99, 32, 102, 105, 110, 100, 32, 107, 32, 61, 32, 102, 117, 110, 32, 108, 32, 45, 62, 32, 99, 97, 115, 101, 32, 108, 32, 111, 102, 32, 123, 32, 78, 105, 108, 32, 45, 62, 32, 78, 111, 110, 101, 59, 32, 67, 111, 110, 115, 32, 40, 83, 111, 109, 101, 32, 120, 41, 32, 116, 32, 45, 62, 32, 105, 102, 32, 120, 32, 61, 61, 32, 107, 32, 116, 104, 101, 110, 32, 83, 111, 109, 101, 32, 120, 32, 101, 108, 115, 101, 32, 102, 105, 110, 100, 32, 107, 32, 116, 59, 32, 67, 111, 110, 115, 32, 78, 111, 110, 101, 32, 116, 32, 45, 62, 32, 102, 105, 110, 100, 32, 107, 32, 116, 32, 125, 32, 105, 110, 10, 99, 97, 115, 101, 32, 102, 105, 110, 100, 32, 50, 32, 40, 67, 111, 110, 115, 32, 78, 111, 110, 101, 32, 40, 67, 111, 110, 115, 32, 40, 83, 111, 109, 101, 32, 50, 41, 32, 78, 105, 108, 41, 41, 32, 111, 102, 32, 123, 32, 78, 111, 110, 101, 32, 45, 62, 32, 48, 59, 32, 83, 111, 109, 101, 32, 50, 32, 45, 62, 32, 50, 50, 59, 32, 83, 111, 109, 101, 32, 110, 32, 45, 62, 32, 110, 32, 125, 10]
def funs4 : List FunL := [(0, [(5, 1, 0), (2, 1, 0), (1, 2, 0), (6, 0, 0), (8, 0, 0), (1, 2, 0), (8, 1, 1), (8, 2, 0), (8, 3, 2), (8, 3, 2), (6, 0, 0), (2, 2, 0), (10, 0, 15), (1, 0, 0), (19, 26, 0), (2, 2, 0), (10, 1, 25), (2, 2, 0), (9, 0, 0), (11, 2, 22), (1, 22, 0), (19, 24, 0), (2, 2, 0), (9, 0, 0), (19, 26, 0), (21, 0, 0), (20, 0, 0), (20, 0, 0), (7, 0, 0)]), (0, [(2, 0, 0), (4, 0, 0), (5, 2, 2), (7, 0, 0)]), (2, [(2, 0, 0), (2, 1, 0), (10, 2, 5), (8, 0, 0), (19, 41, 0), (2, 1, 0), (10, 3, 40), (2, 1, 0), (9, 0, 0), (10, 1, 28), (2, 1, 0), (9, 0, 0), (9, 0, 0), (3, 0, 0), (16, 0, 0), (18, 21, 0), (2, 1, 0), (9, 0, 0), (9, 0, 0), (8, 1, 1), (19, 27, 0), (3, 1, 0), (3, 0, 0), (6, 0, 0), (2, 1, 0), (9, 1, 0), (6, 0, 0), (19, 39, 0), (2, 1, 0), (9, 0, 0), (10, 0, 38), (3, 1, 0), (3, 0, 0), (6, 0, 0), (2, 1, 0), (9, 1, 0), (6, 0, 0), (19, 39, 0), (21, 0, 0), (19, 41, 0), (21, 0, 0), (20, 0, 0), (7, 0, 0)])]
def src5 : List Nat := [114, 101, 99, 32, 108, 111, 111, 112, 32, 110, 32, 61, 32, 105, 102, 32, 110, 32, 116, 104, 101, 110, 32, 108, 111, 111, 112, 32, 40, 110, 32, 45, 32, 49, 41, 32, 101, 108, 115, 101, 32, 55, 32, 105, 110, 32, 108, 111, 111, 112, 32, 54, 48, 10]
def funs5 : List FunL := [(0, [(5, 1, 0), (2, 1, 0), (1, 60, 0), (6, 0, 0), (20, 0, 0), (7, 0, 0)]), (0, [(2, 0, 0), (18, 8, 0), (4, 0, 0), (2, 0, 0), (1, 1, 0), (13, 0, 0), (6, 0, 0), (19, 9, 0), (1, 7, 0), (7, 0, 0)])]
def src6 : List Nat := [100, 97, 116, 97, 32, 78, 97, 116, 32, 61, 32, 90, 32, 124, 32, 83, 32, 78, 97, 116, 59, 10, 114, 101, 99, 32, 97, 100, 100, 32, 97, 32, 61, 32, 102, 117, 110, 32, 98, 32, 45, 62, 32, 99, 97, 115, 101, 32, 97, 32, 111, 102, 32, 123, 32, 90, 32, 45, 62, 32, 98, 59, 32, 83, 32, 110, 32, 45, 62, 32, 83, 32, 40, 97, 100, 100, 32, 110, 32, 98, 41, 32, 125, 32, 105, 110, 10, 108, 101, 116, 32, 116, 119, 111, 32, 61, 32, 83, 32, 40, 83, 32, 90, 41, 32, 105, 110, 10, 108, 101, 116, 32, 99, 111, 109, 112, 32, 61, 32, 102, 117, 110, 32, 102, 32, 45, 62, 32, 102, 117, 110, 32, 103, 32, 45, 62, 32, 102, 117, 110, 32, 120, 32, 45, 62, 32, 102, 32, 40, 103, 32, 120, 41, 32, 105, 110, 10, 99, 111, 109, 112, 32, 40, 97, 100, 100, 32, 116, 119, 111, 41, 32, 40, 97, 100, 100, 32, 116, 119, 111, 41, 32, 40, 83, 32, 90, 41, 10]
def funs6 : List FunL := [(0, [(5, 1, 0), (8, 0, 0), (8, 1, 1), (8, 1, 1), (5, 3, 0), (2, 3, 0), (2, 1, 0), (2, 2, 0), (6, 0, 0), (6, 0, 0), (2, 1, 0), (2, 2, 0), (6, 0, 0), (6, 0, 0), (8, 0, 0), (8, 1, 1), (6, 0, 0), (20, 0, 0), (20, 0, 0), (20, 0, 0), (7, 0, 0)]), (0, [(2, 0, 0), (4, 0, 0), (5, 2, 2), (7, 0, 0)]), (2, [(3, 0, 0), (2, 1, 0), (10, 0, 5), (2, 0, 0), (19, 16, 0), (2, 1, 0), (10, 1, 15), (3, 1, 0), (2, 1, 0), (9, 0, 0), (6, 0, 0), (2, 0, 0), (6, 0, 0), (8, 1, 1), (19, 16, 0), (21, 0, 0), (20, 0, 0), (7, 0, 0)]), (0, [(2, 0, 0), (5, 4, 1), (7, 0, 0)]), (1, [(3, 0, 0), (2, 0, 0), (5, 5, 2), (7, 0, 0)]), (2, [(3, 0, 0), (3, 1, 0), (2, 0, 0), (6, 0, 0), (6, 0, 0), (7, 0, 0)])]
end Go.Ev
end
