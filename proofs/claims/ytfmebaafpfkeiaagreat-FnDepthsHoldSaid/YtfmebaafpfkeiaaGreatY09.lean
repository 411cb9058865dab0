/- Parts of the proof of FnDepthsHold, FnEnds, FnMeant, FnMovedWhenever, FnSizes. -/
import Derived.Test.YtfmebaafpfkeiaaGreatY08
import Derived.Below
import Derived.Test.YtfmebaafpfkeiaaGreatY06
set_option linter.unusedVariables false
set_option linter.unusedSimpArgs false
set_option maxRecDepth 1000000
set_option maxHeartbeats 16000000
section
namespace Go.Ev
open Go Go.Proofs.Tryz
def h13:List (List HS):=[[.ev 0,.ev 1,.ev 2,.ev 3,.ev 4,.ev 5,.ev 6]]
def h18:List (List HS):=[[.ev 0,.ev 1,.ev 2,.ev 3,.ev 4,.ev 5,.ev 6,.ev 7,.ev 8,.ev 9],[.ev 0,.ev 2,.ev 3,.ev 4,.ev 5,.ev 1,.ev 6,.ev 7]]
def h26:List (List HS):=[[.ev 0,.ev 1,.ev 2,.ev 3,.ev 4,.ev 5,.ev 6,.ev 7,.ev 8,.ev 9,.ev 10,.ev 11,.ev 12,.ev 13]]
def h35:List (List HS):=[[.ev 0,.ev 1,.ev 2,.ev 3,.ev 4,.ev 5,.ev 6,.ev 7],[.ev 0,.ev 1,.ev 2,.ev 3,.ev 4,.ev 5,.ev 6]]
def h36:List (List HS):=[[.ev 0,.ev 1,.ev 2,.ev 3,.ev 4,.ev 5,.ev 6],[.ev 0,.ev 1,.ev 2,.ev 3,.ev 4,.ev 5,.ev 6],[.ev 0,.ev 1,.ev 2,.ev 3,.ev 4,.ev 5,.ev 6,.ev 7]]
def h38:List (List HS):=[[.ev 0,.ev 1,.ev 2,.ev 3,.ev 4,.ev 5,.ev 6,.ev 7]]
def h39:List (List HS):=[[.ev 0,.ev 1,.ev 2,.ev 3,.ev 4,.ev 5,.ev 6,.ev 7,.ev 8,.ev 9,.ev 10,.ev 11,.ev 12,.ev 13]]
def h45:List (List HS):=[[.ev 0,.ev 1,.ev 2,.ev 3,.ev 4,.ev 5,.ev 6,.ev 7,.ev 8,.ev 9,.ev 10]]
def h51:List (List HS):=[[.ev 0,.ev 1,.ev 2,.ev 3,.ev 4,.ev 5,.ev 6,.ev 7,.ev 8]]
def h61:List (List HS):=[[.ev 0,.ev 1,.ev 2,.ev 3,.ev 4,.ev 5,.ev 6,.ev 7,.ev 8,.ev 9],[.ev 0,.ev 1,.ev 2,.ev 3,.ev 4,.ev 5,.ev 6,.ev 7,.ev 8],[.ev 0,.ev 1,.ev 2,.ev 3,.ev 4,.ev 5,.ev 6,.ev 7,.ev 8,.ev 9,.ev 10],[.ev 0,.ev 1,.ev 2,.ev 3,.ev 4,.ev 5,.ev 6,.ev 7,.ev 8,.ev 9,.ev 10,.ev 11,.ev 12]]
def h63:List (List HS):=[[.ev 0,.ev 1,.ev 2,.ev 3,.ev 4,.ev 5,.ev 6,.ev 7,.ev 8,.ev 9,.ev 10,.ev 11,.ev 12,.ev 13,.ev 14],[.ev 0,.ev 1,.ev 2,.ev 3,.ev 4,.ev 5,.ev 6,.ev 7]]
def h87:List (List HS):=[[.ev 0,.ev 1,.ev 2,.ev 3,.ev 4,.ev 5,.ev 6,.ev 7,.ev 8,.ev 9,.ev 10,.ev 11],[.ev 0,.ev 1,.ev 2,.ev 3,.ev 4,.ev 5,.ev 6,.ev 7],[.ev 0,.ev 1,.ev 2,.ev 3,.ev 4,.ev 5,.ev 6,.ev 7]]
def h89:List (List HS):=[[.ev 0,.ev 1,.ev 2,.ev 3,.ev 4,.ev 5,.ev 6,.ev 7,.ev 8,.ev 9,.ev 10]]
def h91:List (List HS):=[[.ev 0,.ev 1,.ev 2,.ev 3,.ev 4,.ev 5,.ev 6,.ev 7,.ev 8,.ev 9,.ev 10,.ev 11,.ev 12,.ev 13,.ev 14,.ev 15,.ev 16,.ev 17,.ev 18,.ev 19,.ev 20,.ev 21,.ev 22,.ev 23,.ev 24,.ev 25]]
def h93:List (List HS):=[[.ev 0,.ev 1,.ev 2,.ev 3,.ev 4,.ev 5,.ev 6,.ev 7,.ev 8,.ev 9,.ev 10,.ev 11,.ev 12,.ev 13]]
def h95:List (List HS):=[[.ev 0,.ev 1,.ev 2,.ev 3,.ev 4,.ev 5,.ev 6,.ev 7,.ev 8,.ev 9,.ev 10,.ev 12,.ev 13,.ev 14,.ev 17,.ev 11,.ev 15,.ev 16,.ev 18],[.ev 0,.ev 1,.ev 2,.ev 3,.ev 4,.ev 5,.ev 6,.ev 7,.ev 8,.ev 9,.ev 10,.ev 11,.ev 12],[.ev 0,.ev 1,.ev 2,.ev 3,.ev 4,.ev 5,.ev 6,.ev 7,.ev 8,.ev 9,.ev 10,.ev 11,.ev 12]]
def h97:List (List HS):=[[.ev 0,.ev 1,.ev 2,.ev 3,.ev 4,.ev 5,.ev 6,.ev 7,.ev 8,.ev 9],[.ev 0,.ev 1,.ev 2,.ev 3,.ev 4,.ev 5,.ev 6,.ev 7,.ev 8,.ev 9,.ev 10,.ev 11,.ev 13,.ev 12,.ev 14],[.ev 0,.ev 1,.ev 2,.ev 3,.ev 4,.ev 5,.ev 6,.ev 7,.ev 8,.ev 9,.ev 11,.ev 10,.ev 12],[.ev 0,.ev 1,.ev 2,.ev 3,.ev 4,.ev 5,.ev 6,.ev 7,.ev 8,.ev 9,.ev 10,.ev 11,.ev 13,.ev 12,.ev 14],[.ev 0,.ev 1,.ev 2,.ev 3,.ev 4,.ev 5,.ev 7,.ev 8,.ev 9,.ev 10,.ev 6,.ev 11,.ev 12,.ev 13],[.ev 0,.ev 1,.ev 2,.ev 3,.ev 4,.ev 5,.ev 6,.ev 7,.ev 8,.ev 9,.ev 10]]
def SC:List (List HS):=[[.ev 0,.ev 1,.ev 2,.ev 3,.ev 4,.ev 5,.ev 6,.ev 7,.ev 8,.ev 9,.ev 10,.ev 11,.ev 12],[.ev 0,.ev 1,.ev 2,.ev 3,.ev 4,.ev 5,.ev 6,.ev 7,.ev 8,.ev 9,.ev 10,.ev 11,.ev 12,.ev 13,.ev 14,.ev 15,.ev 16]]
def SD:List (List HS):=[[.ev 0,.ev 1,.ev 2,.ev 3,.ev 4,.ev 5,.ev 6,.ev 7,.ev 8,.ev 9,.ev 10]]
def SG:List (List HS):=[[.ev 0,.ev 1,.ev 2,.ev 3,.ev 4,.ev 5,.ev 6,.ev 7,.ev 8,.ev 9,.ev 10,.ev 11,.ev 12,.ev 13,.ev 14],[.ev 0,.ev 1,.ev 2,.ev 3,.ev 4,.ev 5,.ev 6,.ev 7,.ev 8,.ev 9,.ev 10,.ev 11,.ev 12,.ev 13,.ev 14,.ev 15,.ev 16,.ev 17]]
def SH:List (List HS):=[[.ev 0,.ev 1,.ev 2,.ev 3,.ev 4,.ev 5,.ev 6,.ev 7,.ev 8,.ev 9,.ev 10,.ev 11,.ev 12],[.ev 0,.ev 1,.ev 3,.ev 4,.ev 2,.ev 5,.ev 6,.ev 7,.ev 8],[.ev 0,.ev 1,.ev 2,.ev 3,.ev 4,.ev 5,.ev 6,.ev 7]]
def SI:List (List HS):=[[.ev 0,.ev 1,.ev 2,.ev 3,.ev 4,.ev 5,.ev 6,.ev 7,.ev 8,.ev 9,.ev 10,.ev 11,.ev 12,.ev 13,.ev 14,.ev 15,.ev 16,.ev 17]]
def SJ:List (List HS):=[[.ev 0,.ev 1,.ev 2,.ev 3,.ev 4,.ev 5,.ev 6,.ev 7,.ev 8,.ev 9,.ev 10,.ev 11,.ev 12,.ev 13,.ev 14,.ev 15,.ev 16,.ev 17]]
def SK:List (List HS):=[[.ev 0,.ev 1,.ev 2,.ev 3,.ev 4,.ev 5,.ev 6,.ev 7,.ev 8,.ev 9,.ev 10,.ev 11],[.ev 0,.ev 1,.ev 2,.ev 3,.ev 4,.ev 5,.ev 6,.ev 7,.ev 8,.ev 9,.ev 10,.ev 11,.ev 12,.ev 13,.ev 14,.ev 15,.ev 16,.ev 17,.ev 18,.ev 19,.ev 20]]
def SL:List (List HS):=[[.ev 0,.ev 1,.ev 2,.ev 3,.ev 4,.ev 5,.ev 6],[.ev 0,.ev 1,.ev 2,.ev 3,.ev 4,.ev 5,.ev 6]]
def SN:List (List HS):=[[.ev 0,.ev 1,.ev 2,.ev 3,.ev 4,.ev 5,.ev 6,.ev 7]]
def SO:List (List HS):=[[.ev 0,.ev 1,.ev 2,.ev 3,.ev 4,.ev 5,.ev 6,.ev 7,.ev 8,.ev 9,.ev 10]]
def SP:List (List HS):=[[.ev 0,.ev 1,.ev 2,.ev 3,.ev 4,.ev 5,.ev 6,.ev 7]]
def SQ:List (List HS):=[[.ev 0,.ev 1,.ev 2,.ev 3,.ev 4,.ev 5,.ev 6,.ev 7,.ev 8,.ev 9,.ev 10]]
def SS:List (List HS):=[[.ev 0,.ev 1,.ev 2,.ev 3,.ev 4,.ev 5,.ev 6,.ev 7,.ev 8,.ev 9]]
def ST:List (List HS):=[[.ev 0,.ev 1,.ev 2,.ev 3,.ev 4,.ev 5,.ev 6,.ev 7,.ev 8,.ev 9,.ev 12,.ev 10,.ev 11,.ev 13],[.ev 0,.ev 1,.ev 2,.ev 3,.ev 4,.ev 5,.ev 6,.ev 7],[.ev 0,.ev 1,.ev 2,.ev 3,.ev 4,.ev 5,.ev 6,.ev 7],[.ev 0,.ev 1,.ev 2,.ev 3,.ev 4,.ev 5,.ev 6,.ev 8,.e2 7 9]]
def SU:List (List HS):=[[.ev 0,.ev 1,.ev 2,.ev 3,.ev 4,.ev 5,.ev 6,.ev 7,.ev 8,.ev 9,.ev 10,.ev 11,.ev 12]]
def SV:List (List HS):=[[.ev 0,.ev 1,.ev 2,.ev 3,.ev 4,.ev 5,.ev 6,.ev 7,.ev 8]]
def SW:List (List HS):=[[.ev 0,.ev 1,.ev 2,.ev 3,.ev 4,.ev 5,.ev 6,.ev 7,.ev 8,.ev 9,.ev 10,.ev 11,.ev 12,.ev 13],[.ev 0,.ev 1,.ev 2,.ev 3,.ev 4,.ev 5,.ev 6,.ev 7,.ev 8,.ev 9,.ev 10,.ev 11,.ev 12,.ev 13,.ev 14,.ev 15,.ev 16,.ev 17]]
def SX:List (List HS):=[[.ev 0,.ev 1,.ev 2,.ev 4,.ev 5,.ev 3,.ev 6,.ev 7,.ev 8,.ev 9]]
def SY:List (List HS):=[[.ev 0,.ev 1,.ev 2,.ev 3,.ev 4,.ev 5,.ev 6,.ev 11,.ev 7,.ev 8,.ev 9,.ev 10,.ev 12,.ev 13],[.ev 0,.ev 1,.ev 2,.ev 3,.ev 4,.ev 5,.ev 6,.ev 8,.ev 7,.ev 9]]
def SZ:List (List HS):=[[.ev 0,.ev 1,.ev 2,.ev 3,.ev 4,.ev 5,.ev 6,.ev 7,.ev 8,.ev 9,.ev 10,.ev 11,.ev 12,.ev 13,.ev 14,.ev 15,.ev 16,.ev 17,.ev 18],[.ev 0,.ev 1,.ev 2,.ev 3,.ev 4,.ev 5,.ev 6,.ev 7,.ev 8,.ev 9],[.ev 0,.ev 1,.ev 2,.ev 3,.ev 4,.ev 5,.ev 6,.ev 7,.ev 8,.ev 9,.ev 10,.ev 11,.ev 12,.ev 13,.ev 14,.ev 15,.ev 16,.ev 17,.ev 18]]
def S7:List (List HS):=[[.ev 0,.ev 1,.ev 2,.ev 3,.ev 4,.ev 5,.ev 6,.ev 7,.ev 8,.ev 9,.ev 10,.ev 11,.ev 12],[.ev 0,.ev 1,.ev 2,.ev 3,.ev 4,.ev 5,.ev 6,.ev 7,.ev 8,.ev 9,.ev 10,.ev 11,.ev 12],[.ev 0,.ev 1,.ev 2,.ev 3,.ev 4,.ev 5,.ev 6,.ev 7,.ev 8,.ev 9,.ev 10,.ev 11,.ev 12]]
def S8:List (List HS):=[[.ev 0,.ev 1,.ev 2,.ev 3,.ev 4,.ev 5,.ev 6,.ev 7,.ev 8,.ev 9,.ev 10,.ev 11,.ev 12,.ev 13,.ev 14],[.ev 0,.ev 1,.ev 2,.ev 3,.ev 4,.ev 5,.ev 6,.ev 7,.ev 8,.ev 9,.ev 10,.ev 11,.ev 12,.ev 13,.ev 14,.ev 15,.ev 16,.ev 17]]
def S9:List (List HS):=[[.ev 0,.ev 1,.ev 2,.ev 3,.ev 4,.ev 5,.ev 6,.ev 7,.ev 8,.ev 9,.ev 10,.ev 11,.ev 12,.ev 13,.ev 14,.ev 15,.ev 16],[.ev 0,.ev 1,.ev 2,.ev 3,.ev 4,.ev 5,.ev 6,.ev 7,.ev 8,.ev 9,.ev 10,.ev 11,.ev 12,.ev 13,.ev 14,.ev 15,.ev 16,.ev 17,.ev 18,.ev 19,.ev 20,.ev 21,.ev 22,.ev 23,.ev 24],[.ev 0,.ev 1,.ev 2,.ev 3,.ev 4,.ev 5,.ev 6,.ev 7,.ev 8,.ev 9,.ev 10,.ev 11,.ev 12,.ev 13,.ev 14]]
def Ta:List (List HS):=[[.ev 0,.ev 1,.ev 2,.ev 3,.ev 4,.ev 5,.ev 6,.ev 7,.ev 8,.ev 9,.ev 12,.ev 10,.ev 11,.ev 13],[.ev 0,.ev 1,.ev 2,.ev 3,.ev 4,.ev 5,.ev 7,.ev 6,.ev 8],[.ev 0,.ev 1,.ev 2,.ev 3,.ev 4,.ev 5,.ev 7,.ev 6,.ev 8],[.ev 0,.ev 1,.ev 2,.ev 3,.ev 4,.ev 5,.ev 6,.ev 7,.ev 8],[.ev 0,.ev 1,.ev 2,.ev 3,.ev 4,.ev 5,.ev 7,.ev 6,.ev 8]]
def Tb:List (List HS):=[[.ev 0,.ev 1,.ev 2,.ev 3,.ev 4,.ev 5,.ev 6,.ev 7,.ev 8,.ev 9,.ev 10,.ev 12,.ev 13,.ev 16,.ev 11,.ev 14,.ev 15,.ev 17],[.ev 0,.ev 1,.ev 2,.ev 3,.ev 4,.ev 5,.ev 6,.ev 7,.ev 8],[.ev 0,.ev 1,.ev 2,.ev 3,.ev 4,.ev 5,.ev 6,.ev 7,.ev 8]]
def Tc:List (List HS):=[[.ev 0,.ev 1,.ev 2,.ev 3,.ev 4,.ev 5,.ev 6,.ev 7,.ev 8,.ev 9]]
def Td:List (List HS):=[[.ev 0,.ev 1,.ev 2,.ev 3,.ev 4,.ev 5,.ev 6,.ev 7,.ev 8,.ev 9],[.ev 0,.ev 1,.ev 2,.ev 3,.ev 4,.ev 5,.ev 6,.ev 7,.ev 8,.ev 11,.ev 12,.ev 14,.ev 9,.ev 10,.ev 13,.ev 15],[.ev 0,.ev 1,.ev 2,.ev 3,.ev 4,.ev 5,.ev 6,.ev 7,.ev 8,.ev 9,.ev 11,.ev 10,.ev 12],[.ev 0,.ev 1,.ev 2,.ev 3,.ev 4,.ev 5,.ev 6,.ev 7,.ev 8,.ev 11,.ev 12,.ev 14,.ev 9,.ev 10,.ev 13,.ev 15],[.ev 0,.ev 1,.ev 2,.ev 3,.ev 4,.ev 5,.ev 6,.ev 11,.ev 7,.ev 8,.ev 9,.ev 10,.ev 12,.ev 13],[.ev 0,.ev 1,.ev 2,.ev 3,.ev 4,.ev 5,.ev 6,.ev 8,.ev 7,.ev 9],[.ev 0,.ev 1,.ev 2,.ev 3,.ev 4,.ev 5,.ev 7,.ev 8,.ev 9,.ev 10,.ev 6,.ev 11,.ev 12,.ev 13]]
def Te:List (List HS):=[[.ev 0,.ev 1,.ev 2,.ev 3,.ev 4,.ev 5,.ev 6,.ev 7,.ev 8,.ev 9],[.ev 0,.ev 1,.ev 2,.ev 3,.ev 4,.ev 5,.ev 6,.ev 7,.ev 8,.ev 9,.ev 10,.ev 11,.ev 12,.ev 13,.ev 14],[.ev 0,.ev 1,.ev 2,.ev 4,.ev 5,.ev 6,.ev 3,.ev 7]]
def Tf:List (List HS):=[[.ev 0,.ev 1,.ev 2,.ev 3,.ev 4,.ev 5,.ev 6]]
def Tg:List (List HS):=[[.ev 0,.ev 1,.ev 2,.ev 3,.ev 4,.ev 5,.ev 6,.ev 7]]
def Th:List (List HS):=[[.ev 0,.ev 1,.ev 2,.ev 3,.ev 4,.ev 5,.ev 6,.ev 7,.ev 8,.ev 9,.ev 10,.ev 11,.ev 12,.ev 13,.ev 14,.ev 15,.ev 16,.ev 17]]
def Ti:List (List HS):=[[.ev 0,.ev 1,.ev 2,.ev 3,.ev 4,.ev 5,.ev 6,.ev 7,.ev 8,.ev 9,.ev 10,.ev 11,.ev 12]]
def Tj:List (List HS):=[[.ev 0,.ev 2,.ev 1,.ev 3,.ev 4,.ev 5,.ev 6]]
def Tk:List (List HS):=[[.ev 0,.ev 1,.ev 2,.ev 3,.ev 4,.ev 5,.ev 6,.ev 7,.ev 8,.ev 9,.ev 10,.ev 11]]
def Tl:List (List HS):=[[.ev 0,.ev 1,.ev 2,.ev 3,.ev 4,.ev 6,.ev 7,.ev 8,.ev 9,.ev 5,.ev 10,.ev 11],[.ev 0,.ev 1,.ev 2,.ev 3,.ev 4,.ev 5,.ev 6,.ev 7,.ev 8,.ev 11,.ev 9,.ev 10,.ev 12]]
def Tm:List (List HS):=[[.ev 0,.ev 1,.ev 2,.ev 3,.ev 5,.ev 6,.ev 7,.ev 4,.ev 8,.ev 9,.ev 10,.ev 11,.ev 12]]
def Tn:List (List HS):=[[.ev 0,.ev 1,.ev 2,.ev 3,.ev 4],[.ev 0,.ev 1,.ev 2,.ev 3,.ev 5,.ev 6,.ev 7,.ev 8,.ev 4,.ev 9,.ev 10]]
def To:List (List HS):=[[.ev 0,.ev 1,.ev 2,.ev 3,.ev 4,.ev 5,.ev 6,.ev 7,.ev 8,.ev 9,.ev 10,.ev 11],[.ev 0,.ev 1,.ev 2,.ev 3,.ev 4,.ev 5,.ev 6,.ev 7,.ev 8,.ev 9,.ev 10,.ev 11,.ev 12,.ev 13,.ev 14,.ev 15,.ev 16,.ev 17,.ev 18,.ev 19,.ev 20],[.ev 0,.ev 1,.ev 2,.ev 3,.ev 4,.ev 5,.ev 6,.ev 7,.ev 8,.ev 9,.ev 10,.ev 11,.ev 13,.ev 14,.ev 12,.ev 15,.ev 16,.ev 18,.ev 19,.ev 20,.e2 17 21],[.ev 0,.ev 1,.ev 2,.ev 3,.ev 4,.ev 5,.ev 6,.ev 7,.ev 8,.ev 9,.ev 10,.ev 11,.ev 13,.ev 14,.ev 15,.ev 16,.ev 12,.ev 17,.ev 18,.ev 19,.ev 20]]
def Tp:List (List HS):=[[.ev 0,.ev 1,.ev 4,.ev 2,.ev 3,.ev 5],[.ev 0,.ev 1,.ev 2,.ev 3,.ev 4]]
def Tq:List (List HS):=[[.ev 0,.ev 1,.ev 2,.ev 3,.ev 4,.ev 5,.ev 6,.ev 7,.ev 8,.ev 9,.ev 10,.ev 11]]
def Ts:List (List HS):=[[.ev 0,.ev 1,.ev 2,.ev 3],[.ev 0,.ev 1,.ev 2,.ev 3,.ev 4,.ev 5,.ev 6,.ev 7]]
def Tt:List (List HS):=[[.ev 0,.ev 2,.ev 3,.ev 4,.ev 5,.ev 1,.ev 6,.ev 7]]
def Tu:List (List HS):=[[.ev 0,.ev 1,.ev 2,.ev 3,.ev 4,.ev 5,.ev 6,.ev 7,.ev 8,.ev 9,.ev 10,.ev 11]]
def Tx:List (List HS):=[[.ev 0,.ev 1,.ev 2,.ev 3,.ev 4,.ev 5,.ev 6,.ev 7,.ev 8,.ev 10,.ev 11,.e2 9 12],[.ev 0,.ev 1,.ev 2,.ev 3,.ev 4,.ev 8,.ev 9,.ev 10,.ev 11,.ev 5,.ev 6,.ev 7,.ev 12,.ev 13],[.ev 0,.ev 1,.ev 2,.ev 3,.ev 4,.ev 5,.ev 6,.ev 7,.ev 8,.ev 10,.ev 11,.e2 9 12],[.ev 0,.ev 1,.ev 2,.ev 3,.ev 4,.ev 5,.ev 6,.ev 7,.ev 8,.ev 11,.ev 9,.ev 10,.ev 12],[.ev 0,.ev 1,.ev 2,.ev 3,.ev 4,.ev 5,.ev 6,.ev 7,.ev 8,.ev 10,.ev 11,.e2 9 12]]
def Ty:List (List HS):=[[.ev 0,.ev 1,.ev 2,.ev 3,.ev 4,.ev 5,.ev 6,.ev 7,.ev 8,.ev 9,.ev 10],[.ev 0,.ev 1,.ev 2,.ev 3,.ev 4,.ev 5,.ev 7,.ev 6,.ev 8],[.ev 0,.ev 1,.ev 2,.ev 3,.ev 4,.ev 5,.ev 6,.ev 7],[.ev 0,.ev 1,.ev 2,.ev 3,.ev 4,.ev 5,.ev 6,.ev 7,.ev 8,.ev 9],[.ev 0,.ev 1,.ev 2,.ev 3,.ev 4,.ev 5,.ev 6,.ev 7,.ev 8,.ev 10,.ev 11,.e2 9 12]]
def Tz:List (List HS):=[[.ev 0,.ev 1,.ev 2,.ev 3,.ev 4,.ev 5,.ev 6,.ev 7,.ev 8,.ev 9,.ev 10,.ev 11],[.ev 0,.ev 1,.ev 2,.ev 3,.ev 4,.ev 5,.ev 6,.ev 7,.ev 8,.ev 9,.ev 10,.ev 11,.ev 12,.ev 13,.ev 14,.ev 15,.ev 16,.ev 17,.ev 18,.ev 19,.ev 20],[.ev 0,.ev 1,.ev 2,.ev 3,.ev 4,.ev 5,.ev 6,.ev 7,.ev 8,.ev 9,.ev 10,.ev 11,.ev 12,.ev 13,.ev 14,.ev 15,.ev 16,.ev 17,.ev 18,.ev 19,.ev 20,.ev 21,.ev 22,.ev 23],[.ev 0,.ev 1,.ev 2,.ev 3,.ev 4,.ev 5,.ev 6,.ev 7,.ev 8,.ev 10,.ev 11,.e2 9 12],[.ev 0,.ev 1,.ev 2,.ev 3,.ev 4,.ev 5,.ev 6,.ev 7,.ev 8,.ev 9,.ev 10,.ev 11,.ev 12,.ev 13,.ev 14,.ev 15,.ev 16,.ev 17]]
def TA:List (List HS):=[[.ev 0,.ev 1,.ev 2,.ev 3,.ev 4,.ev 5,.ev 6,.ev 7,.ev 8,.ev 10,.ev 11,.e2 9 12],[.ev 0,.ev 1,.ev 2,.ev 3,.ev 4,.ev 5,.ev 6,.ev 7,.ev 8,.ev 9,.ev 10]]
def TB:List (List HS):=[[.ev 0,.ev 1,.ev 2,.ev 3,.ev 4,.ev 5,.ev 6,.ev 7,.ev 8,.ev 9,.ev 10,.ev 11,.ev 12,.ev 13,.ev 14,.ev 15,.ev 16,.ev 17,.ev 18,.ev 19,.ev 20,.ev 21]]
def TC:List (List HS):=[[.ev 0,.ev 1,.ev 2,.ev 3,.ev 4,.ev 5,.ev 6,.ev 7,.ev 8],[.ev 0,.ev 1,.ev 2,.ev 3,.ev 4,.ev 5,.ev 6,.ev 7,.ev 8,.ev 9,.ev 10,.ev 11]]
def TD:List (List HS):=[[.ev 0,.ev 2,.ev 3,.ev 4,.ev 5,.ev 1,.ev 6,.ev 7]]
def TE:List (List HS):=[[.ev 0,.ev 1,.ev 2,.ev 3,.ev 4,.ev 5,.ev 6,.ev 7,.ev 8,.ev 9,.ev 10,.ev 13,.ev 14,.ev 11,.ev 12,.ev 15,.ev 16],[.ev 0,.ev 1,.ev 2,.ev 3],[.ev 0,.ev 1,.ev 2,.ev 3,.ev 4,.ev 5,.ev 6,.ev 7,.ev 8],[.ev 0,.ev 1,.ev 2,.ev 3,.ev 4,.ev 6,.ev 7,.ev 5,.ev 8,.ev 9,.ev 10]]
def TF:List (List HS):=[[.ev 0,.ev 1,.ev 2,.ev 3,.ev 4,.ev 5,.ev 6,.ev 7,.ev 8,.ev 9],[.ev 0,.ev 1,.ev 2,.ev 3,.ev 4,.ev 5,.ev 6,.ev 7,.ev 8,.ev 9,.ev 10,.ev 11,.ev 12,.ev 13,.ev 14,.ev 15,.ev 16,.ev 17,.ev 18]]
def TG:List (List HS):=[[.ev 0,.ev 1,.ev 2,.ev 3,.ev 4,.ev 5,.ev 6,.ev 7,.ev 8,.ev 9,.ev 10,.ev 11,.ev 12],[.ev 0,.ev 1,.ev 2,.ev 3,.ev 4,.ev 5,.ev 6,.ev 7,.ev 8,.ev 9,.ev 10,.ev 11,.ev 12],[.ev 0,.ev 1,.ev 2,.ev 3,.ev 4,.ev 5,.ev 6,.ev 7,.ev 8,.ev 9,.ev 10,.ev 11,.ev 12]]
def TH:List (List HS):=[[.ev 0,.ev 1,.ev 2,.ev 3,.ev 4,.ev 5,.ev 6,.ev 7]]
def TI:List (List HS):=[[.ev 0,.ev 1,.ev 2,.ev 3,.ev 4,.ev 5,.ev 6,.ev 7,.ev 8,.ev 9,.ev 10,.ev 11,.ev 12,.ev 13,.ev 14,.ev 15,.ev 16]]
def TJ:List (List HS):=[[.ev 0,.ev 1,.ev 2,.ev 3,.ev 4,.ev 5,.ev 6,.ev 7,.ev 8,.ev 9,.ev 10,.ev 11,.ev 12,.ev 13,.ev 14,.ev 15],[.ev 0,.ev 1,.ev 2,.ev 3,.ev 4,.ev 5,.ev 6,.ev 7,.ev 8,.ev 9,.ev 10,.ev 11,.ev 12,.ev 13,.ev 14,.ev 15,.ev 16,.ev 17,.ev 18],[.ev 0,.ev 1,.ev 2,.ev 3,.ev 4,.ev 5,.ev 6],[.ev 0,.ev 1,.ev 3,.ev 2,.ev 4,.ev 5]]
def TK:List (List HS):=[[.ev 0,.ev 1,.ev 2,.ev 3,.ev 4,.ev 5,.ev 6,.ev 7],[.ev 0,.ev 1,.ev 2,.ev 3,.ev 4,.ev 5,.ev 6,.ev 8,.e2 7 9]]
def TL:List (List HS):=[[.ev 0,.ev 1,.ev 2,.ev 4,.ev 5,.ev 6,.ev 3,.ev 7,.ev 8,.ev 9],[.ev 0,.ev 1,.ev 3,.ev 4,.ev 2,.ev 5,.ev 6],[.ev 0,.ev 1,.ev 2,.ev 3,.ev 4,.ev 5,.ev 7,.ev 8,.ev 9,.ev 10,.ev 11,.ev 12,.ev 13,.ev 14,.ev 6,.ev 15,.ev 16]]
def TM:List (List HS):=[[.ev 0,.ev 1,.ev 2,.ev 3,.ev 4,.ev 5,.ev 6,.ev 7,.ev 8,.ev 9,.ev 10,.ev 11,.ev 12,.ev 13,.ev 14,.ev 15,.ev 16,.ev 17,.ev 18]]
def TN:List (List HS):=[[.ev 0,.ev 1,.ev 2,.ev 3,.ev 4,.ev 5,.ev 6,.ev 7,.ev 8,.ev 9,.ev 10]]
def TO:List (List HS):=[[.ev 0,.ev 1,.ev 2,.ev 3,.ev 4,.ev 5,.ev 8,.ev 6,.ev 7,.ev 9]]
def TP:List (List HS):=[[.ev 0,.ev 1,.ev 3,.ev 4,.ev 5,.ev 6,.ev 7,.ev 2,.ev 8,.ev 9,.ev 10,.ev 11,.ev 12],[.ev 0,.ev 1,.ev 2,.ev 3,.ev 4,.ev 5,.ev 6,.ev 7,.ev 9,.ev 8,.ev 10,.ev 11]]
def TQ:List (List HS):=[[.ev 0,.ev 1,.ev 3,.ev 4,.ev 6,.ev 7,.ev 2,.ev 5,.ev 8,.ev 9],[.ev 0,.ev 1,.ev 2,.ev 3,.ev 4,.ev 5,.ev 6,.ev 7,.ev 8,.ev 9,.ev 10,.ev 11,.ev 12,.ev 13,.ev 14,.ev 15,.ev 16]]
def TS:List (List HS):=[[.ev 0,.ev 1,.ev 2,.ev 3,.ev 4,.ev 5,.ev 6],[.ev 0,.ev 1,.ev 3,.ev 5,.ev 2,.ev 4,.ev 6,.ev 7]]
def TT:List (List HS):=[[.ev 0,.ev 1,.ev 2,.ev 3,.ev 4,.ev 5,.ev 6,.ev 7,.ev 8,.ev 9,.ev 10,.ev 11,.ev 12,.ev 13]]
def TU:List (List HS):=[[.ev 0,.ev 1,.ev 2,.ev 3,.ev 4,.ev 5,.ev 6,.ev 7,.ev 8]]
def TV:List (List HS):=[[.ev 0,.ev 1,.ev 2,.ev 3,.ev 4,.ev 5,.ev 7,.ev 8,.ev 9,.ev 11,.ev 6,.ev 10,.ev 12,.ev 13],[.ev 0,.ev 2,.ev 4,.ev 5,.ev 6,.ev 1,.ev 3,.ev 7,.ev 8,.ev 9],[.ev 0,.ev 1,.ev 2,.ev 3,.ev 4,.ev 5,.ev 6,.ev 11,.ev 7,.ev 8,.ev 9,.ev 10,.ev 12,.ev 13],[.ev 0,.ev 1,.ev 2,.ev 3,.ev 4,.ev 5,.ev 6,.ev 7,.ev 8],[.ev 0,.ev 1,.ev 2,.ev 3,.ev 4,.ev 5,.ev 6,.ev 7,.ev 8,.ev 9,.ev 12,.ev 10,.ev 11,.ev 13,.ev 14]]
def TW:List (List HS):=[[.ev 0,.ev 1,.ev 2,.ev 3,.ev 4,.ev 5,.ev 6,.ev 7,.ev 8,.ev 9,.ev 10,.ev 11,.ev 12,.ev 13,.ev 14,.ev 15,.ev 16,.ev 17]]
def TX:List (List HS):=[[.ev 0,.ev 1,.ev 2,.ev 3,.ev 4,.ev 7,.ev 5,.ev 6,.ev 8],[.ev 0,.ev 1,.ev 2,.ev 3,.ev 4,.ev 5,.ev 6,.ev 7]]
def TY:List (List HS):=[[.ev 0,.ev 1,.ev 2,.ev 3,.ev 4,.ev 5,.ev 6,.ev 7,.ev 8,.ev 9],[.ev 0,.ev 1,.ev 2,.ev 4,.ev 5,.ev 7,.ev 3,.ev 6,.ev 8,.ev 9]]
def TZ:List (List HS):=[[.ev 0,.ev 1,.ev 2,.ev 3,.ev 4,.ev 5,.ev 6,.ev 7]]
def T4:List (List HS):=[[.ev 0,.ev 1,.ev 2,.ev 3,.ev 4,.ev 5,.ev 6,.ev 7,.ev 8,.ev 9,.ev 10,.ev 11,.ev 12,.ev 13,.ev 14,.ev 15,.ev 16,.ev 17,.ev 18,.ev 19,.ev 20,.ev 21,.ev 22]]
def T5:List (List HS):=[[.ev 0,.ev 1,.ev 2,.ev 3,.ev 4,.ev 5,.ev 6,.ev 7,.ev 8,.ev 9,.ev 10,.ev 11,.ev 12]]
def T7:List (List HS):=[[.ev 0,.ev 1,.ev 2,.ev 3,.ev 4,.ev 5,.ev 6,.ev 7,.ev 8,.ev 9,.ev 10,.ev 11,.ev 12,.ev 13,.ev 14,.ev 15],[.ev 0,.ev 1,.ev 2,.ev 3,.ev 4,.ev 5,.ev 6,.ev 7,.ev 8,.ev 9,.ev 10,.ev 11,.ev 12,.ev 13,.ev 14,.ev 15,.ev 16,.ev 17,.ev 18,.ev 19,.ev 20,.ev 21,.ev 22,.ev 23],[.ev 0,.ev 1,.ev 2,.ev 3,.ev 4,.ev 5,.ev 6,.ev 7,.ev 8,.ev 9,.ev 10]]
def T8:List (List HS):=[[.ev 0,.ev 1,.ev 2,.ev 3,.ev 4,.ev 5,.ev 6,.ev 7],[.ev 0,.ev 1,.ev 2,.ev 3,.ev 4,.ev 5,.ev 6,.ev 7,.ev 8,.ev 9,.ev 10,.ev 11,.ev 12,.ev 15,.ev 13,.ev 14,.ev 16],[.ev 0,.ev 1,.ev 2,.ev 3,.ev 4,.ev 6,.ev 7,.ev 8,.ev 9,.ev 10,.ev 5,.ev 11,.ev 12,.ev 13,.ev 14,.ev 15],[.ev 0,.ev 1,.ev 2,.ev 3,.ev 4,.ev 5,.ev 6,.ev 7,.ev 8,.ev 9,.ev 10,.ev 11,.ev 12]]
def T9:List (List HS):=[[.ev 0,.ev 1,.ev 2,.ev 3,.ev 4,.ev 5,.ev 6,.ev 7],[.ev 0,.ev 1,.ev 2,.ev 3,.ev 4,.ev 5,.ev 6,.ev 7,.ev 8,.ev 9,.ev 10,.ev 11,.ev 12,.ev 13,.ev 14,.ev 15,.ev 16]]
def Ua:List (List HS):=[[.ev 0,.ev 1,.ev 2,.ev 3,.ev 4,.ev 5,.ev 6,.ev 7,.ev 8,.ev 9,.ev 10]]
def Ub:List (List HS):=[[.ev 0,.ev 1,.ev 2,.ev 3,.ev 4,.ev 5,.ev 6,.ev 7,.ev 8,.ev 9,.ev 10,.ev 11,.ev 12,.ev 13,.ev 14,.ev 15]]
def Uc:List (List HS):=[[.ev 0,.ev 1,.ev 2,.ev 4,.ev 5,.ev 6,.ev 7,.ev 8,.ev 3,.ev 9,.ev 10,.ev 11],[.ev 0,.ev 1,.ev 3,.ev 4,.ev 2,.ev 5,.ev 6],[.ev 0,.ev 1,.ev 2,.ev 4,.ev 5,.ev 6,.ev 8,.ev 9,.ev 3,.ev 7,.ev 10,.ev 11,.ev 12]]
def Ud:List (List HS):=[[.ev 0,.ev 1,.ev 2,.ev 3,.ev 4,.ev 5,.ev 6,.ev 7,.ev 8,.ev 9],[.ev 0,.ev 1,.ev 2,.ev 3,.ev 4,.ev 5,.ev 6,.ev 7,.ev 8,.ev 9,.ev 10,.ev 11,.ev 13,.ev 14,.ev 15,.ev 16,.ev 17,.ev 12,.ev 18,.ev 19,.ev 20,.ev 21,.ev 22,.ev 23]]
def Ue:List (List HS):=[[.ev 0,.ev 1,.ev 2,.ev 3,.ev 4,.ev 5,.ev 6,.ev 7,.ev 8,.ev 9,.ev 10,.ev 11,.ev 12,.ev 13]]
def Uf:List (List HS):=[[.ev 0,.ev 1,.ev 2,.ev 3,.ev 4,.ev 5,.ev 6,.ev 7,.ev 9,.ev 8,.ev 10,.ev 11,.ev 12]]
def Ug:List (List HS):=[[.ev 0,.ev 1,.ev 2,.ev 3,.ev 5,.ev 6,.ev 4,.ev 7,.ev 8,.ev 9,.ev 10,.ev 11],[.ev 0,.ev 1,.ev 2,.ev 3,.ev 4,.ev 5],[.ev 0,.ev 1,.ev 2,.ev 3,.ev 4,.ev 5,.ev 6,.ev 7,.ev 8,.ev 9,.ev 10,.ev 11]]
def Uh:List (List HS):=[[.ev 0,.ev 1,.ev 2,.ev 3,.ev 4,.ev 5,.ev 6,.ev 7,.ev 8,.ev 9,.ev 10,.ev 11,.ev 12],[.ev 0,.ev 1,.ev 2,.ev 3,.ev 4,.ev 5,.ev 6,.ev 7,.ev 8,.ev 9,.ev 10]]
def Ui:List (List HS):=[[.ev 0,.ev 1,.ev 2,.ev 4,.ev 5,.ev 7,.ev 3,.ev 6,.ev 8,.ev 9,.ev 10,.ev 11]]
def Uj:List (List HS):=[[.ev 0,.ev 1,.ev 2,.ev 3,.ev 4,.ev 5,.ev 6,.ev 7,.ev 8]]
def Uk:List (List HS):=[[.ev 0,.ev 1,.ev 2,.ev 3,.ev 4,.ev 5,.ev 6,.ev 7,.ev 8,.ev 9,.ev 10,.ev 11,.ev 12,.ev 13,.ev 14]]
def Ul:List (List HS):=[[.ev 0,.ev 1,.ev 2,.ev 3,.ev 4,.ev 5,.ev 6,.ev 7,.ev 8,.ev 9,.ev 10,.ev 11,.ev 12,.ev 13]]
def Um:List (List HS):=[[.ev 0,.ev 1,.ev 2,.ev 3,.ev 4,.ev 5,.ev 6,.ev 7,.ev 8,.ev 9,.ev 10,.ev 11,.ev 12,.ev 13,.ev 14],[.ev 0,.ev 1,.ev 2,.ev 3,.ev 4,.ev 5,.ev 6,.ev 7,.ev 8,.ev 9,.ev 10,.ev 11,.ev 12,.ev 13,.ev 14,.ev 15,.ev 16,.ev 17]]
def Un:List (List HS):=[[.ev 0,.ev 1,.ev 2,.ev 3,.ev 4,.ev 5,.ev 6,.ev 7,.ev 8,.ev 9,.ev 10,.ev 11,.ev 12,.ev 13,.ev 14,.ev 15,.ev 16,.ev 17,.ev 18,.ev 19]]
def Uo:List (List HS):=[[.ev 0,.ev 1,.ev 2,.ev 3,.ev 4,.ev 5,.ev 6,.ev 7,.ev 8,.ev 9,.ev 10,.ev 11,.ev 12,.ev 13,.ev 14,.ev 15,.ev 16,.ev 17,.ev 18,.ev 19]]
def Up:List (List HS):=[[.ev 0,.ev 1,.ev 2,.ev 3,.ev 4,.ev 5,.ev 6,.ev 7,.ev 8,.ev 9,.ev 10,.ev 11,.ev 12,.ev 13,.ev 14,.ev 15]]
def Uq:List (List HS):=[[.ev 0,.ev 1,.ev 2,.ev 3,.ev 4,.ev 5,.ev 6,.ev 7,.ev 8,.ev 9,.ev 10,.ev 11,.ev 12,.ev 13,.ev 14,.ev 15],[.ev 0,.ev 1,.ev 2,.ev 3,.ev 4,.ev 5,.ev 6,.ev 7,.ev 8,.ev 9,.ev 10,.ev 11,.ev 12,.ev 13,.ev 14,.ev 15,.ev 16,.ev 17],[.ev 0,.ev 1,.ev 2,.ev 3,.ev 4,.ev 5,.ev 6,.ev 7,.ev 8,.ev 9,.ev 10],[.ev 0,.ev 1,.ev 2,.ev 3,.ev 4,.ev 5,.ev 6,.ev 7,.ev 8,.ev 9,.ev 10,.ev 11,.ev 12,.ev 13,.ev 14,.ev 15,.ev 16,.ev 17],[.ev 0,.ev 1,.ev 2,.ev 3,.ev 4,.ev 5,.ev 6,.ev 7,.ev 8,.ev 9,.ev 10],[.ev 0,.ev 1,.ev 2,.ev 3,.ev 4,.ev 5,.ev 6,.ev 7,.ev 8,.ev 9,.ev 10,.ev 11,.ev 12,.ev 13,.ev 14,.ev 15,.ev 16,.ev 17]]
def Ur:List (List HS):=[[.ev 0,.ev 1,.ev 2,.ev 3,.ev 4,.ev 5,.ev 6,.ev 7,.ev 8,.ev 9,.ev 10,.ev 11,.ev 12,.ev 13,.ev 14,.ev 15],[.ev 0,.ev 1,.ev 2,.ev 3,.ev 4,.ev 5,.ev 6,.ev 7,.ev 8,.ev 9,.ev 10,.ev 11,.ev 12,.ev 13,.ev 14],[.ev 0,.ev 1,.ev 2,.ev 3,.ev 4,.ev 5,.ev 6,.ev 7,.ev 8,.ev 9,.ev 10,.ev 11,.ev 12,.ev 13],[.ev 0,.ev 1,.ev 2,.ev 3,.ev 4,.ev 5,.ev 6,.ev 7,.ev 8,.ev 9,.ev 10,.ev 11,.ev 12,.ev 13,.ev 14,.ev 15]]
def Us:List (List HS):=[[.ev 0,.ev 1,.ev 2,.ev 3,.ev 4,.ev 5,.ev 6,.ev 7,.ev 8,.ev 9,.ev 10,.ev 11,.ev 12,.ev 13,.ev 14,.ev 15],[.ev 0,.ev 1,.ev 2,.ev 3,.ev 4,.ev 5,.ev 6,.ev 7,.ev 8,.ev 9,.ev 10,.ev 11,.ev 12,.ev 13],[.ev 0,.ev 1,.ev 2,.ev 3,.ev 4,.ev 5,.ev 6,.ev 7,.ev 8,.ev 9,.ev 10,.ev 11,.ev 12,.ev 13,.ev 14],[.ev 0,.ev 1,.ev 2,.ev 3,.ev 4,.ev 5,.ev 6,.ev 7,.ev 8,.ev 9,.ev 10,.ev 11,.ev 12,.ev 13,.ev 14,.ev 15],[.ev 0,.ev 1,.ev 2,.ev 3,.ev 4,.ev 5,.ev 6,.ev 7,.ev 8,.ev 9,.ev 10,.ev 11,.ev 12,.ev 13,.ev 14,.ev 15],[.ev 0,.ev 1,.ev 2,.ev 3,.ev 4,.ev 5,.ev 6,.ev 7,.ev 8,.ev 9,.ev 10,.ev 11,.ev 12,.ev 13],[.ev 0,.ev 1,.ev 2,.ev 3,.ev 4,.ev 5,.ev 6,.ev 7,.ev 8,.ev 9,.ev 10,.ev 11,.ev 12,.ev 13,.ev 14],[.ev 0,.ev 1,.ev 2,.ev 3,.ev 4,.ev 5,.ev 6,.ev 7,.ev 8,.ev 9,.ev 10,.ev 11,.ev 12,.ev 13,.ev 14,.ev 15],[.ev 0,.ev 1,.ev 2,.ev 3,.ev 4,.ev 5,.ev 6,.ev 7,.ev 8,.ev 9,.ev 10,.ev 11,.ev 12,.ev 13,.ev 14,.ev 15]]
def Ut:List (List HS):=[[.ev 0,.ev 1,.ev 2,.ev 3,.ev 4,.ev 5,.ev 6,.ev 7,.ev 8,.ev 9,.ev 10,.ev 11,.ev 12,.ev 13,.ev 14,.ev 15,.ev 16,.ev 17,.ev 18,.ev 19],[.ev 0,.ev 1,.ev 2,.ev 3,.ev 4,.ev 5,.ev 6,.ev 7,.ev 8,.ev 9,.ev 10,.ev 11,.ev 12,.ev 13],[.ev 0,.ev 1,.ev 2,.ev 3,.ev 4,.ev 5,.ev 6,.ev 7,.ev 8,.ev 9,.ev 10,.ev 11,.ev 12,.ev 13,.ev 14,.ev 15,.ev 16,.ev 17,.ev 18,.ev 19,.ev 20,.ev 21,.ev 22,.ev 23]]
def Uu:List (List HS):=[[.ev 0,.ev 1,.ev 2,.ev 3,.ev 4,.ev 5,.ev 6,.ev 7,.ev 8,.ev 9],[.ev 0,.ev 1,.ev 2,.ev 3,.ev 4,.ev 5,.ev 6,.ev 7,.ev 8,.ev 9],[.ev 0,.ev 1,.ev 2,.ev 3,.ev 4,.ev 5,.ev 6,.ev 7,.ev 8,.ev 9]]
def Uv:List (List HS):=[[.ev 0,.ev 1,.ev 2,.ev 3,.ev 4,.ev 5,.ev 6,.ev 7,.ev 8]]
noncomputable def tbl:T MFn:=(.nd (.nd (.nd (.nd (.nd (.nd (.nd (.nd (.nd .lf (Q (hN 0) f255) .lf) (Q (hN 0) f127) (.nd .lf (Q TW f383) .lf)) (Q h63 f63) (.nd (.nd .lf (Q TA f319) .lf) (Q (hN 0) f191) (.nd .lf (Q (hN 0) f447) .lf))) none (.nd (.nd (.nd .lf (Q (hN 0) f287) .lf) (Q (hN 0) f159) (.nd .lf (Q (hN 0) f415) .lf)) (Q h95 f95) (.nd (.nd .lf (Q (hN 0) f351) .lf) (Q (hN 0) f223) .lf))) none (.nd (.nd (.nd (.nd .lf (Q Tk f271) .lf) none (.nd .lf (Q T9 f399) .lf)) (Q (hN 0) f79) (.nd (.nd .lf (Q (hN 0) f335) .lf) (Q (hN 0) f207) (.nd .lf (Q (hN 0) f463) .lf))) (Q (hN 0) f47) (.nd (.nd (.nd .lf (Q (hN 0) f303) .lf) (Q (hN 0) f175) (.nd .lf (Q (hN 0) f431) .lf)) (Q (hN 0) f111) (.nd (.nd .lf (Q (hN 0) f367) .lf) none .lf)))) none (.nd (.nd (.nd (.nd (.nd .lf (Q Th f263) .lf) (Q (hN 0) f135) (.nd .lf (Q (hN 0) f391) .lf)) none (.nd (.nd .lf (Q (hN 0) f327) .lf) (Q (hN 0) f199) (.nd .lf (Q (hN 0) f455) .lf))) (Q h39 f39) (.nd (.nd (.nd .lf (Q (hN 0) f295) .lf) (Q (hN 0) f167) (.nd .lf (Q (hN 0) f423) .lf)) (Q (hN 0) f103) .lf)) none (.nd (.nd (.nd (.nd .lf (Q Tq f279) .lf) (Q (hN 0) f151) (.nd .lf (Q (hN 0) f407) .lf)) (Q h87 f87) (.nd (.nd .lf (Q TH f343) .lf) (Q (hN 0) f215) (.nd .lf (Q (hN 0) f471) .lf))) none (.nd (.nd (.nd .lf (Q (hN 0) f311) .lf) (Q (hN 0) f183) (.nd .lf (Q (hN 0) f439) .lf)) (Q (hN 0) f119) (.nd (.nd .lf (Q (hN 0) f375) .lf) (Q (hN 0) f247) .lf))))) none (.nd (.nd (.nd (.nd (.nd (.nd .lf (Q (hN 0) f259) .lf) (Q (hN 0) f131) (.nd .lf (Q (hN 0) f387) .lf)) (Q (hN 0) f67) (.nd (.nd .lf (Q (hN 0) f323) .lf) (Q S7 f195) (.nd .lf (Q (hN 0) f451) .lf))) (Q h35 f35) (.nd (.nd (.nd .lf (Q (hN 0) f291) .lf) (Q (hN 0) f163) (.nd .lf (Q (hN 0) f419) .lf)) (Q (hN 0) f99) (.nd (.nd .lf (Q TM f355) .lf) (Q (hN 0) f227) .lf))) none (.nd (.nd (.nd (.nd .lf (Q To f275) .lf) none (.nd .lf (Q (hN 0) f403) .lf)) (Q (hN 0) f83) (.nd (.nd .lf (Q (hN 0) f339) .lf) (Q (hN 0) f211) (.nd .lf (Q Us f467) .lf))) (Q h51 f51) (.nd (.nd (.nd .lf (Q (hN 0) f307) .lf) (Q (hN 0) f179) (.nd .lf (Q (hN 0) f435) .lf)) (Q (hN 0) f115) (.nd (.nd .lf (Q (hN 0) f371) .lf) (Q Tc f243) .lf)))) none (.nd (.nd (.nd (.nd (.nd .lf (Q Ti f267) .lf) (Q (hN 0) f139) (.nd .lf (Q T7 f395) .lf)) none (.nd (.nd .lf (Q TD f331) .lf) (Q (hN 0) f203) (.nd .lf (Q Ul f459) .lf))) (Q (hN 0) f43) (.nd (.nd (.nd .lf (Q (hN 0) f299) .lf) (Q (hN 0) f171) (.nd .lf (Q (hN 0) f427) .lf)) (Q (hN 0) f107) (.nd (.nd .lf (Q (hN 0) f363) .lf) none .lf))) none (.nd (.nd (.nd (.nd .lf (Q (hN 0) f283) .lf) (Q SO f155) (.nd .lf (Q (hN 0) f411) .lf)) (Q h91 f91) (.nd (.nd .lf (Q (hN 0) f347) .lf) (Q (hN 0) f219) (.nd .lf (Q Uv f475) .lf))) (Q (hN 0) f59) (.nd (.nd (.nd .lf (Q Tx f315) .lf) (Q (hN 0) f187) (.nd .lf (Q (hN 0) f443) .lf)) none (.nd (.nd .lf (Q (hN 0) f379) .lf) (Q (hN 0) f251) .lf)))))) none (.nd (.nd (.nd (.nd (.nd (.nd (.nd .lf (Q Tg f257) .lf) (Q (hN 0) f129) (.nd .lf (Q TX f385) .lf)) none (.nd (.nd .lf (Q (hN 0) f321) .lf) (Q (hN 0) f193) (.nd .lf (Q (hN 0) f449) .lf))) none (.nd (.nd (.nd .lf (Q (hN 0) f289) .lf) (Q (hN 0) f161) (.nd .lf (Q (hN 0) f417) .lf)) (Q h97 f97) (.nd (.nd .lf (Q (hN 0) f353) .lf) (Q S9 f225) .lf))) none (.nd (.nd (.nd (.nd .lf (Q Tm f273) .lf) none (.nd .lf (Q (hN 0) f401) .lf)) none (.nd (.nd .lf (Q TF f337) .lf) (Q (hN 0) f209) (.nd .lf (Q Uq f465) .lf))) (Q (hN 0) f49) (.nd (.nd .lf (Q (hN 0) f177) (.nd .lf (Q (hN 0) f433) .lf)) (Q (hN 0) f113) (.nd (.nd .lf (Q (hN 0) f369) .lf) (Q Tb f241) .lf)))) none (.nd (.nd (.nd (.nd (.nd .lf (Q (hN 0) f265) .lf) (Q (hN 0) f137) (.nd .lf (Q T4 f393) .lf)) none (.nd (.nd .lf (Q (hN 0) f329) .lf) (Q (hN 0) f201) (.nd .lf (Q Uk f457) .lf))) (Q (hN 0) f41) (.nd (.nd (.nd .lf (Q (hN 0) f297) .lf) (Q SS f169) (.nd .lf (Q (hN 0) f425) .lf)) (Q SD f105) (.nd (.nd .lf (Q (hN 0) f361) .lf) none .lf))) none (.nd (.nd (.nd (.nd .lf (Q (hN 0) f281) .lf) (Q (hN 0) f153) (.nd .lf (Q (hN 0) f409) .lf)) (Q h89 f89) (.nd (.nd .lf (Q (hN 0) f345) .lf) (Q (hN 0) f217) (.nd .lf (Q (hN 0) f473) .lf))) none (.nd (.nd (.nd .lf (Q (hN 0) f313) .lf) (Q (hN 0) f185) (.nd .lf (Q (hN 0) f441) .lf)) none (.nd (.nd .lf (Q (hN 0) f377) .lf) (Q (hN 0) f249) .lf))))) none (.nd (.nd (.nd (.nd (.nd (.nd .lf (Q (hN 0) f261) .lf) (Q (hN 0) f133) (.nd .lf (Q TZ f389) .lf)) none (.nd (.nd .lf (Q (hN 0) f325) .lf) (Q (hN 0) f197) (.nd .lf (Q (hN 0) f453) .lf))) (Q (hN 0) f37) (.nd (.nd (.nd .lf (Q (hN 0) f293) .lf) (Q (hN 0) f165) (.nd .lf (Q Ud f421) .lf)) (Q (hN 0) f101) (.nd (.nd .lf (Q TO f357) .lf) none .lf))) none (.nd (.nd (.nd (.nd .lf (Q (hN 0) f277) .lf) none (.nd .lf (Q (hN 0) f405) .lf)) (Q (hN 0) f85) (.nd (.nd .lf (Q (hN 0) f341) .lf) (Q (hN 0) f213) (.nd .lf (Q (hN 0) f469) .lf))) none (.nd (.nd (.nd .lf (Q (hN 0) f309) .lf) (Q ST f181) (.nd .lf (Q (hN 0) f437) .lf)) (Q (hN 0) f117) (.nd (.nd .lf (Q (hN 0) f373) .lf) (Q (hN 0) f245) .lf)))) (Q h13 f13) (.nd (.nd (.nd (.nd (.nd .lf (Q (hN 0) f269) .lf) none (.nd .lf (Q (hN 0) f397) .lf)) none (.nd (.nd .lf (Q TE f333) .lf) (Q (hN 0) f205) (.nd .lf (Q Un f461) .lf))) (Q h45 f45) (.nd (.nd (.nd .lf (Q (hN 0) f301) .lf) (Q (hN 0) f173) (.nd .lf (Q (hN 0) f429) .lf)) (Q (hN 0) f109) (.nd (.nd .lf (Q TQ f365) .lf) none .lf))) none (.nd (.nd (.nd (.nd .lf (Q (hN 0) f285) .lf) none (.nd .lf (Q (hN 0) f413) .lf)) (Q h93 f93) (.nd (.nd .lf (Q TJ f349) .lf) (Q (hN 0) f221) .lf)) (Q h61 f61) (.nd (.nd (.nd .lf (Q Tz f317) .lf) (Q SX f189) (.nd .lf (Q Ui f445) .lf)) (Q SH f125) (.nd (.nd .lf (Q (hN 0) f381) .lf) (Q (hN 0) f253) .lf))))))) none (.nd (.nd (.nd (.nd (.nd (.nd (.nd (.nd .lf (Q (hN 0) f256) .lf) (Q (hN 0) f128) (.nd .lf (Q (hN 0) f384) .lf)) none (.nd (.nd .lf (Q TB f320) .lf) (Q (hN 0) f192) (.nd .lf (Q Uj f448) .lf))) none (.nd (.nd (.nd .lf (Q (hN 0) f288) .lf) (Q (hN 0) f160) (.nd .lf (Q (hN 0) f416) .lf)) (Q (hN 0) f96) (.nd (.nd .lf (Q (hN 0) f352) .lf) (Q (hN 0) f224) .lf))) none (.nd (.nd (.nd (.nd .lf (Q Tl f272) .lf) none (.nd .lf (Q (hN 0) f400) .lf)) none (.nd (.nd .lf (Q (hN 0) f336) .lf) (Q (hN 0) f208) (.nd .lf (Q Up f464) .lf))) (Q (hN 0) f48) (.nd (.nd (.nd .lf (Q (hN 0) f304) .lf) (Q (hN 0) f176) (.nd .lf (Q (hN 0) f432) .lf)) (Q (hN 0) f112) (.nd (.nd .lf (Q TT f368) .lf) (Q Ta f240) .lf)))) none (.nd (.nd (.nd (.nd (.nd .lf (Q (hN 0) f264) .lf) (Q SJ f136) (.nd .lf (Q (hN 0) f392) .lf)) none (.nd (.nd .lf (Q (hN 0) f328) .lf) (Q (hN 0) f200) (.nd .lf (Q (hN 0) f456) .lf))) (Q (hN 0) f40) (.nd (.nd .lf (Q (hN 0) f168) (.nd .lf (Q (hN 0) f424) .lf)) (Q (hN 0) f104) (.nd (.nd .lf (Q (hN 0) f360) .lf) none .lf))) none (.nd (.nd (.nd (.nd .lf (Q (hN 0) f280) .lf) (Q SL f152) (.nd .lf (Q (hN 0) f408) .lf)) (Q (hN 0) f88) (.nd (.nd .lf (Q (hN 0) f344) .lf) (Q (hN 0) f216) (.nd .lf (Q Uu f472) .lf))) none (.nd (.nd (.nd .lf (Q Tt f312) .lf) (Q SU f184) (.nd .lf (Q (hN 0) f440) .lf)) (Q SG f120) (.nd (.nd .lf (Q (hN 0) f376) .lf) (Q (hN 0) f248) .lf))))) none (.nd (.nd (.nd (.nd (.nd (.nd .lf (Q (hN 0) f260) .lf) (Q SI f132) (.nd .lf (Q (hN 0) f388) .lf)) none (.nd (.nd .lf (Q (hN 0) f324) .lf) (Q S8 f196) (.nd .lf (Q (hN 0) f452) .lf))) (Q h36 f36) (.nd (.nd (.nd .lf (Q (hN 0) f292) .lf) (Q SP f164) (.nd .lf (Q (hN 0) f420) .lf)) (Q (hN 0) f100) (.nd (.nd .lf (Q TN f356) .lf) none .lf))) none (.nd (.nd (.nd (.nd .lf (Q Tp f276) .lf) none (.nd .lf (Q Ua f404) .lf)) none (.nd (.nd .lf (Q (hN 0) f340) .lf) (Q (hN 0) f212) (.nd .lf (Q (hN 0) f468) .lf))) (Q (hN 0) f52) (.nd (.nd (.nd .lf (Q (hN 0) f308) .lf) (Q (hN 0) f180) (.nd .lf (Q Ug f436) .lf)) (Q (hN 0) f116) (.nd (.nd .lf (Q TU f372) .lf) (Q Td f244) .lf)))) (Q (hN 0) f12) (.nd (.nd (.nd (.nd (.nd .lf (Q (hN 0) f268) .lf) (Q (hN 0) f140) (.nd .lf (Q (hN 0) f396) .lf)) none (.nd (.nd .lf (Q (hN 0) f332) .lf) (Q (hN 0) f204) (.nd .lf (Q Um f460) .lf))) (Q (hN 0) f44) (.nd (.nd (.nd .lf (Q (hN 0) f300) .lf) (Q (hN 0) f172) (.nd .lf (Q (hN 0) f428) .lf)) (Q (hN 0) f108) (.nd (.nd .lf (Q (hN 0) f364) .lf) none .lf))) none (.nd (.nd (.nd (.nd .lf (Q Ts f284) .lf) (Q (hN 0) f156) (.nd .lf (Q (hN 0) f412) .lf)) (Q (hN 0) f92) (.nd (.nd .lf (Q TI f348) .lf) (Q (hN 0) f220) .lf)) (Q (hN 0) f60) (.nd (.nd (.nd .lf (Q Ty f316) .lf) (Q SW f188) (.nd .lf (Q (hN 0) f444) .lf)) (Q (hN 0) f124) (.nd (.nd .lf (Q TV f380) .lf) (Q Tf f252) .lf)))))) none (.nd (.nd (.nd (.nd (.nd (.nd (.nd .lf (Q (hN 0) f258) .lf) (Q (hN 0) f130) (.nd .lf (Q TY f386) .lf)) none (.nd (.nd .lf (Q (hN 0) f322) .lf) (Q SZ f194) (.nd .lf (Q (hN 0) f450) .lf))) none (.nd (.nd (.nd .lf (Q (hN 0) f290) .lf) (Q (hN 0) f162) (.nd .lf (Q (hN 0) f418) .lf)) (Q (hN 0) f98) (.nd (.nd .lf (Q TL f354) .lf) (Q (hN 0) f226) .lf))) (Q h18 f18) (.nd (.nd (.nd (.nd .lf (Q Tn f274) .lf) none (.nd .lf (Q (hN 0) f402) .lf)) none (.nd (.nd .lf (Q TG f338) .lf) (Q (hN 0) f210) (.nd .lf (Q Ur f466) .lf))) none (.nd (.nd .lf (Q (hN 0) f178) (.nd .lf (Q Uf f434) .lf)) (Q (hN 0) f114) (.nd (.nd .lf (Q (hN 0) f370) .lf) (Q (hN 0) f242) .lf)))) none (.nd (.nd (.nd (.nd (.nd .lf (Q (hN 0) f266) .lf) (Q SK f138) (.nd .lf (Q T5 f394) .lf)) none (.nd (.nd .lf (Q TC f330) .lf) (Q (hN 0) f202) (.nd .lf (Q (hN 0) f458) .lf))) (Q (hN 0) f42) (.nd (.nd (.nd .lf (Q (hN 0) f298) .lf) (Q (hN 0) f170) (.nd .lf (Q (hN 0) f426) .lf)) (Q (hN 0) f106) (.nd (.nd .lf (Q (hN 0) f362) .lf) none .lf))) (Q h26 f26) (.nd (.nd (.nd (.nd .lf (Q (hN 0) f282) .lf) (Q SN f154) (.nd .lf (Q (hN 0) f410) .lf)) (Q (hN 0) f90) (.nd (.nd .lf (Q (hN 0) f346) .lf) (Q (hN 0) f218) (.nd .lf (Q (hN 0) f474) .lf))) (Q (hN 0) f58) (.nd (.nd (.nd .lf (Q Tu f314) .lf) (Q SV f186) (.nd .lf (Q (hN 0) f442) .lf)) none (.nd (.nd .lf (Q (hN 0) f378) .lf) (Q (hN 0) f250) .lf))))) none (.nd (.nd (.nd (.nd (.nd (.nd .lf (Q (hN 0) f262) .lf) (Q (hN 0) f134) (.nd .lf (Q (hN 0) f390) .lf)) none (.nd (.nd .lf (Q (hN 0) f326) .lf) (Q (hN 0) f198) (.nd .lf (Q (hN 0) f454) .lf))) (Q h38 f38) (.nd (.nd (.nd .lf (Q (hN 0) f294) .lf) (Q SQ f166) (.nd .lf (Q Ue f422) .lf)) (Q SC f102) (.nd (.nd .lf (Q TP f358) .lf) none .lf))) none (.nd (.nd (.nd (.nd .lf (Q (hN 0) f278) .lf) none (.nd .lf (Q Ub f406) .lf)) (Q (hN 0) f86) (.nd (.nd .lf (Q (hN 0) f342) .lf) none (.nd .lf (Q Ut f470) .lf))) (Q (hN 0) f54) (.nd (.nd (.nd .lf (Q (hN 0) f310) .lf) (Q (hN 0) f182) (.nd .lf (Q Uh f438) .lf)) (Q (hN 0) f118) (.nd (.nd .lf (Q (hN 0) f374) .lf) (Q Te f246) .lf)))) none (.nd (.nd (.nd (.nd (.nd .lf (Q Tj f270) .lf) none (.nd .lf (Q T8 f398) .lf)) (Q (hN 0) f78) (.nd (.nd .lf (Q (hN 0) f334) .lf) (Q (hN 0) f206) (.nd .lf (Q Uo f462) .lf))) (Q (hN 0) f46) (.nd (.nd (.nd .lf (Q (hN 0) f302) .lf) (Q (hN 0) f174) (.nd .lf (Q (hN 0) f430) .lf)) (Q (hN 0) f110) (.nd (.nd .lf (Q TS f366) .lf) none .lf))) none (.nd (.nd (.nd (.nd .lf (Q (hN 0) f286) .lf) none (.nd .lf (Q Uc f414) .lf)) (Q (hN 0) f94) (.nd (.nd .lf (Q TK f350) .lf) (Q (hN 0) f222) .lf)) (Q (hN 0) f62) (.nd (.nd (.nd .lf (Q (hN 0) f318) .lf) (Q SY f190) (.nd .lf (Q (hN 0) f446) .lf)) (Q (hN 0) f126) (.nd (.nd .lf (Q (hN 0) f382) .lf) (Q (hN 0) f254) .lf))))))))
theorem MI:Ie prog ty ibs (Bm ty ibs) tbl:=(Ab (Ab (Ab (Ab (Ab (Ab (Ab (Ab (Ab Aa (Ac func255) Aa) (Ac func127) (Ab Aa (Ac func383) Aa)) (Ac func63) (Ab (Ab Aa (Ac func319) Aa) (Ac func191) (Ab Aa (Ac func447) Aa))) Aj (Ab (Ab (Ab Aa (Ac func287) Aa) (Ac func159) (Ab Aa (Ac func415) Aa)) (Ac func95) (Ab (Ab Aa (Ac func351) Aa) (Ac func223) Aa))) Aj (Ab (Ab (Ab (Ab Aa (Ac func271) Aa) Aj (Ab Aa (Ac func399) Aa)) (Ac func79) (Ab (Ab Aa (Ac func335) Aa) (Ac func207) (Ab Aa (Ac func463) Aa))) (Ac func47) (Ab (Ab (Ab Aa (Ac func303) Aa) (Ac func175) (Ab Aa (Ac func431) Aa)) (Ac func111) (Ab (Ab Aa (Ac func367) Aa) Aj Aa)))) Aj (Ab (Ab (Ab (Ab (Ab Aa (Ac func263) Aa) (Ac func135) (Ab Aa (Ac func391) Aa)) Aj (Ab (Ab Aa (Ac func327) Aa) (Ac func199) (Ab Aa (Ac func455) Aa))) (Ac func39) (Ab (Ab (Ab Aa (Ac func295) Aa) (Ac func167) (Ab Aa (Ac func423) Aa)) (Ac func103) Aa)) Aj (Ab (Ab (Ab (Ab Aa (Ac func279) Aa) (Ac func151) (Ab Aa (Ac func407) Aa)) (Ac func87) (Ab (Ab Aa (Ac func343) Aa) (Ac func215) (Ab Aa (Ac func471) Aa))) Aj (Ab (Ab (Ab Aa (Ac func311) Aa) (Ac func183) (Ab Aa (Ac func439) Aa)) (Ac func119) (Ab (Ab Aa (Ac func375) Aa) (Ac func247) Aa))))) Aj (Ab (Ab (Ab (Ab (Ab (Ab Aa (Ac func259) Aa) (Ac func131) (Ab Aa (Ac func387) Aa)) (Ac func67) (Ab (Ab Aa (Ac func323) Aa) (Ac func195) (Ab Aa (Ac func451) Aa))) (Ac func35) (Ab (Ab (Ab Aa (Ac func291) Aa) (Ac func163) (Ab Aa (Ac func419) Aa)) (Ac func99) (Ab (Ab Aa (Ac func355) Aa) (Ac func227) Aa))) Aj (Ab (Ab (Ab (Ab Aa (Ac func275) Aa) Aj (Ab Aa (Ac func403) Aa)) (Ac func83) (Ab (Ab Aa (Ac func339) Aa) (Ac func211) (Ab Aa (Ac func467) Aa))) (Ac func51) (Ab (Ab (Ab Aa (Ac func307) Aa) (Ac func179) (Ab Aa (Ac func435) Aa)) (Ac func115) (Ab (Ab Aa (Ac func371) Aa) (Ac func243) Aa)))) Aj (Ab (Ab (Ab (Ab (Ab Aa (Ac func267) Aa) (Ac func139) (Ab Aa (Ac func395) Aa)) Aj (Ab (Ab Aa (Ac func331) Aa) (Ac func203) (Ab Aa (Ac func459) Aa))) (Ac func43) (Ab (Ab (Ab Aa (Ac func299) Aa) (Ac func171) (Ab Aa (Ac func427) Aa)) (Ac func107) (Ab (Ab Aa (Ac func363) Aa) Aj Aa))) Aj (Ab (Ab (Ab (Ab Aa (Ac func283) Aa) (Ac func155) (Ab Aa (Ac func411) Aa)) (Ac func91) (Ab (Ab Aa (Ac func347) Aa) (Ac func219) (Ab Aa (Ac func475) Aa))) (Ac func59) (Ab (Ab (Ab Aa (Ac func315) Aa) (Ac func187) (Ab Aa (Ac func443) Aa)) Aj (Ab (Ab Aa (Ac func379) Aa) (Ac func251) Aa)))))) Aj (Ab (Ab (Ab (Ab (Ab (Ab (Ab Aa (Ac func257) Aa) (Ac func129) (Ab Aa (Ac func385) Aa)) Aj (Ab (Ab Aa (Ac func321) Aa) (Ac func193) (Ab Aa (Ac func449) Aa))) Aj (Ab (Ab (Ab Aa (Ac func289) Aa) (Ac func161) (Ab Aa (Ac func417) Aa)) (Ac func97) (Ab (Ab Aa (Ac func353) Aa) (Ac func225) Aa))) Aj (Ab (Ab (Ab (Ab Aa (Ac func273) Aa) Aj (Ab Aa (Ac func401) Aa)) Aj (Ab (Ab Aa (Ac func337) Aa) (Ac func209) (Ab Aa (Ac func465) Aa))) (Ac func49) (Ab (Ab Aa (Ac func177) (Ab Aa (Ac func433) Aa)) (Ac func113) (Ab (Ab Aa (Ac func369) Aa) (Ac func241) Aa)))) Aj (Ab (Ab (Ab (Ab (Ab Aa (Ac func265) Aa) (Ac func137) (Ab Aa (Ac func393) Aa)) Aj (Ab (Ab Aa (Ac func329) Aa) (Ac func201) (Ab Aa (Ac func457) Aa))) (Ac func41) (Ab (Ab (Ab Aa (Ac func297) Aa) (Ac func169) (Ab Aa (Ac func425) Aa)) (Ac func105) (Ab (Ab Aa (Ac func361) Aa) Aj Aa))) Aj (Ab (Ab (Ab (Ab Aa (Ac func281) Aa) (Ac func153) (Ab Aa (Ac func409) Aa)) (Ac func89) (Ab (Ab Aa (Ac func345) Aa) (Ac func217) (Ab Aa (Ac func473) Aa))) Aj (Ab (Ab (Ab Aa (Ac func313) Aa) (Ac func185) (Ab Aa (Ac func441) Aa)) Aj (Ab (Ab Aa (Ac func377) Aa) (Ac func249) Aa))))) Aj (Ab (Ab (Ab (Ab (Ab (Ab Aa (Ac func261) Aa) (Ac func133) (Ab Aa (Ac func389) Aa)) Aj (Ab (Ab Aa (Ac func325) Aa) (Ac func197) (Ab Aa (Ac func453) Aa))) (Ac func37) (Ab (Ab (Ab Aa (Ac func293) Aa) (Ac func165) (Ab Aa (Ac func421) Aa)) (Ac func101) (Ab (Ab Aa (Ac func357) Aa) Aj Aa))) Aj (Ab (Ab (Ab (Ab Aa (Ac func277) Aa) Aj (Ab Aa (Ac func405) Aa)) (Ac func85) (Ab (Ab Aa (Ac func341) Aa) (Ac func213) (Ab Aa (Ac func469) Aa))) Aj (Ab (Ab (Ab Aa (Ac func309) Aa) (Ac func181) (Ab Aa (Ac func437) Aa)) (Ac func117) (Ab (Ab Aa (Ac func373) Aa) (Ac func245) Aa)))) (Ac func13) (Ab (Ab (Ab (Ab (Ab Aa (Ac func269) Aa) Aj (Ab Aa (Ac func397) Aa)) Aj (Ab (Ab Aa (Ac func333) Aa) (Ac func205) (Ab Aa (Ac func461) Aa))) (Ac func45) (Ab (Ab (Ab Aa (Ac func301) Aa) (Ac func173) (Ab Aa (Ac func429) Aa)) (Ac func109) (Ab (Ab Aa (Ac func365) Aa) Aj Aa))) Aj (Ab (Ab (Ab (Ab Aa (Ac func285) Aa) Aj (Ab Aa (Ac func413) Aa)) (Ac func93) (Ab (Ab Aa (Ac func349) Aa) (Ac func221) Aa)) (Ac func61) (Ab (Ab (Ab Aa (Ac func317) Aa) (Ac func189) (Ab Aa (Ac func445) Aa)) (Ac func125) (Ab (Ab Aa (Ac func381) Aa) (Ac func253) Aa))))))) Aj (Ab (Ab (Ab (Ab (Ab (Ab (Ab (Ab Aa (Ac func256) Aa) (Ac func128) (Ab Aa (Ac func384) Aa)) Aj (Ab (Ab Aa (Ac func320) Aa) (Ac func192) (Ab Aa (Ac func448) Aa))) Aj (Ab (Ab (Ab Aa (Ac func288) Aa) (Ac func160) (Ab Aa (Ac func416) Aa)) (Ac func96) (Ab (Ab Aa (Ac func352) Aa) (Ac func224) Aa))) Aj (Ab (Ab (Ab (Ab Aa (Ac func272) Aa) Aj (Ab Aa (Ac func400) Aa)) Aj (Ab (Ab Aa (Ac func336) Aa) (Ac func208) (Ab Aa (Ac func464) Aa))) (Ac func48) (Ab (Ab (Ab Aa (Ac func304) Aa) (Ac func176) (Ab Aa (Ac func432) Aa)) (Ac func112) (Ab (Ab Aa (Ac func368) Aa) (Ac func240) Aa)))) Aj (Ab (Ab (Ab (Ab (Ab Aa (Ac func264) Aa) (Ac func136) (Ab Aa (Ac func392) Aa)) Aj (Ab (Ab Aa (Ac func328) Aa) (Ac func200) (Ab Aa (Ac func456) Aa))) (Ac func40) (Ab (Ab Aa (Ac func168) (Ab Aa (Ac func424) Aa)) (Ac func104) (Ab (Ab Aa (Ac func360) Aa) Aj Aa))) Aj (Ab (Ab (Ab (Ab Aa (Ac func280) Aa) (Ac func152) (Ab Aa (Ac func408) Aa)) (Ac func88) (Ab (Ab Aa (Ac func344) Aa) (Ac func216) (Ab Aa (Ac func472) Aa))) Aj (Ab (Ab (Ab Aa (Ac func312) Aa) (Ac func184) (Ab Aa (Ac func440) Aa)) (Ac func120) (Ab (Ab Aa (Ac func376) Aa) (Ac func248) Aa))))) Aj (Ab (Ab (Ab (Ab (Ab (Ab Aa (Ac func260) Aa) (Ac func132) (Ab Aa (Ac func388) Aa)) Aj (Ab (Ab Aa (Ac func324) Aa) (Ac func196) (Ab Aa (Ac func452) Aa))) (Ac func36) (Ab (Ab (Ab Aa (Ac func292) Aa) (Ac func164) (Ab Aa (Ac func420) Aa)) (Ac func100) (Ab (Ab Aa (Ac func356) Aa) Aj Aa))) Aj (Ab (Ab (Ab (Ab Aa (Ac func276) Aa) Aj (Ab Aa (Ac func404) Aa)) Aj (Ab (Ab Aa (Ac func340) Aa) (Ac func212) (Ab Aa (Ac func468) Aa))) (Ac func52) (Ab (Ab (Ab Aa (Ac func308) Aa) (Ac func180) (Ab Aa (Ac func436) Aa)) (Ac func116) (Ab (Ab Aa (Ac func372) Aa) (Ac func244) Aa)))) (Ac func12) (Ab (Ab (Ab (Ab (Ab Aa (Ac func268) Aa) (Ac func140) (Ab Aa (Ac func396) Aa)) Aj (Ab (Ab Aa (Ac func332) Aa) (Ac func204) (Ab Aa (Ac func460) Aa))) (Ac func44) (Ab (Ab (Ab Aa (Ac func300) Aa) (Ac func172) (Ab Aa (Ac func428) Aa)) (Ac func108) (Ab (Ab Aa (Ac func364) Aa) Aj Aa))) Aj (Ab (Ab (Ab (Ab Aa (Ac func284) Aa) (Ac func156) (Ab Aa (Ac func412) Aa)) (Ac func92) (Ab (Ab Aa (Ac func348) Aa) (Ac func220) Aa)) (Ac func60) (Ab (Ab (Ab Aa (Ac func316) Aa) (Ac func188) (Ab Aa (Ac func444) Aa)) (Ac func124) (Ab (Ab Aa (Ac func380) Aa) (Ac func252) Aa)))))) Aj (Ab (Ab (Ab (Ab (Ab (Ab (Ab Aa (Ac func258) Aa) (Ac func130) (Ab Aa (Ac func386) Aa)) Aj (Ab (Ab Aa (Ac func322) Aa) (Ac func194) (Ab Aa (Ac func450) Aa))) Aj (Ab (Ab (Ab Aa (Ac func290) Aa) (Ac func162) (Ab Aa (Ac func418) Aa)) (Ac func98) (Ab (Ab Aa (Ac func354) Aa) (Ac func226) Aa))) (Ac func18) (Ab (Ab (Ab (Ab Aa (Ac func274) Aa) Aj (Ab Aa (Ac func402) Aa)) Aj (Ab (Ab Aa (Ac func338) Aa) (Ac func210) (Ab Aa (Ac func466) Aa))) Aj (Ab (Ab Aa (Ac func178) (Ab Aa (Ac func434) Aa)) (Ac func114) (Ab (Ab Aa (Ac func370) Aa) (Ac func242) Aa)))) Aj (Ab (Ab (Ab (Ab (Ab Aa (Ac func266) Aa) (Ac func138) (Ab Aa (Ac func394) Aa)) Aj (Ab (Ab Aa (Ac func330) Aa) (Ac func202) (Ab Aa (Ac func458) Aa))) (Ac func42) (Ab (Ab (Ab Aa (Ac func298) Aa) (Ac func170) (Ab Aa (Ac func426) Aa)) (Ac func106) (Ab (Ab Aa (Ac func362) Aa) Aj Aa))) (Ac func26) (Ab (Ab (Ab (Ab Aa (Ac func282) Aa) (Ac func154) (Ab Aa (Ac func410) Aa)) (Ac func90) (Ab (Ab Aa (Ac func346) Aa) (Ac func218) (Ab Aa (Ac func474) Aa))) (Ac func58) (Ab (Ab (Ab Aa (Ac func314) Aa) (Ac func186) (Ab Aa (Ac func442) Aa)) Aj (Ab (Ab Aa (Ac func378) Aa) (Ac func250) Aa))))) Aj (Ab (Ab (Ab (Ab (Ab (Ab Aa (Ac func262) Aa) (Ac func134) (Ab Aa (Ac func390) Aa)) Aj (Ab (Ab Aa (Ac func326) Aa) (Ac func198) (Ab Aa (Ac func454) Aa))) (Ac func38) (Ab (Ab (Ab Aa (Ac func294) Aa) (Ac func166) (Ab Aa (Ac func422) Aa)) (Ac func102) (Ab (Ab Aa (Ac func358) Aa) Aj Aa))) Aj (Ab (Ab (Ab (Ab Aa (Ac func278) Aa) Aj (Ab Aa (Ac func406) Aa)) (Ac func86) (Ab (Ab Aa (Ac func342) Aa) Aj (Ab Aa (Ac func470) Aa))) (Ac func54) (Ab (Ab (Ab Aa (Ac func310) Aa) (Ac func182) (Ab Aa (Ac func438) Aa)) (Ac func118) (Ab (Ab Aa (Ac func374) Aa) (Ac func246) Aa)))) Aj (Ab (Ab (Ab (Ab (Ab Aa (Ac func270) Aa) Aj (Ab Aa (Ac func398) Aa)) (Ac func78) (Ab (Ab Aa (Ac func334) Aa) (Ac func206) (Ab Aa (Ac func462) Aa))) (Ac func46) (Ab (Ab (Ab Aa (Ac func302) Aa) (Ac func174) (Ab Aa (Ac func430) Aa)) (Ac func110) (Ab (Ab Aa (Ac func366) Aa) Aj Aa))) Aj (Ab (Ab (Ab (Ab Aa (Ac func286) Aa) Aj (Ab Aa (Ac func414) Aa)) (Ac func94) (Ab (Ab Aa (Ac func350) Aa) (Ac func222) Aa)) (Ac func62) (Ab (Ab (Ab Aa (Ac func318) Aa) (Ac func190) (Ab Aa (Ac func446) Aa)) (Ac func126) (Ab (Ab Aa (Ac func382) Aa) (Ac func254) Aa))))))))
end Go.Ev
end
section
namespace Go.Ev
open Go Go.RowKit
def Ik:Nat→List V→St→Option (V×St):=fun _ _ _=>none
theorem Sm (P:Program):BK P Ik:=fun g vs s v s' h=>by cases h
def Il:Rho:=fun _=>none
theorem Rel.zero (w:World):Rel Il St.zero w:=by
 have h0:∀x b,St.zero.h.get x=some b→False:=fun x b h=>by
  rw[show St.zero.h.get x=Option.none from T.get_lf x]at h;cases h
 refine⟨?_,?_,?_,?_,?_,?_,?_⟩
 ·intro x y h;cases h
 ·intro x cb sh z h;cases h
 ·intro x cb sh z b h;cases h
 ·intro x y cb sh sh' z z' bx b' hne h;cases h
 ·intro x b f h;exact(h0 x b h).elim
 ·intro x b h;exact(h0 x b h).elim
 ·intro x b h;exact(h0 x b h).elim
theorem ER.upd {ρ:Rho}{e:E}{a:Act}(h:ER ρ e a) {t:Nat}{v:V}(hv:VR ρ v (a.tmps.getD t undef)):ER ρ (T.upd (some v) e t) a:=by
 intro x u hu;rw[T.get_upd]at hu;split at hu
 ·rename_i hx;simp only[Option.some.injEq]at hu;subst hu hx;exact hv
 ·exact h x u hu
theorem ER.lf {ρ:Rho}{a:Act}:ER ρ T.lf a:=fun t v h=>by rw[T.get_lf]at h;cases h
theorem So {P:Program}{ty:TypeId→Option TyI}{ibs:FuncId→Bool}(hty:TyOk P ty) (hib:CM P ibs) (hm:P.follows .mixedOrders=true) {tbl:T MFn}(ht:Ie P ty ibs (Bm ty ibs) tbl) (N d:Nat):BK P (fn tbl N Ik d):=
 JF hty hib ht N (fun call nt hc=>Mz hm hty hib hc) (Sm P) d
theorem Go.below {s s':St}{ρ ρ':Rho}{w w':World}(h:Go s ρ w s' ρ' w') {B:Nat}(hB:B≤w.heap.size) (hρ:∀x cb sh z,ρ x=some (cb,sh,z)→B≤cb):Below B w w':=
 ⟨h.os,h.tape,h.output,h.size,fun k hk=>h.block k (Nat.lt_of_lt_of_le hk hB) fun x sh z e=>absurd (hρ _ _ _ _ e) (by omega)⟩
def flS:S→Bool
 | .p .. =>false
 | .l .. =>false
 | .f .. =>false
 |_=>true
def fl0:V→Bool
 | .o=>true
 | .c s=>flS s
 | .a l=>l.all flS
 | .t _=>false
def flV:V→Bool
 | .t l=>l.all fl0
 | .o=>true
 | .c s=>flS s
 | .a l=>l.all flS
theorem SR.flat {ρ ρ':Rho}{s:S}{v:Value}(hf:flS s=true) (h:SR ρ s v):SR ρ' s v:=by
 cases s <;> first |exact h |cases hf
theorem LR.flat {α β:Type}{R R':α→β→Prop}{f:α→Bool}(hR:∀a b,f a=true→R a b→R' a b):∀ {l:List α}{m:List β},l.all f=true→LR R l m→LR R' l m
 | [],[],_,_=>trivial
 |a::l,b::m,hf,h=>by
  simp only[List.all_cons,Bool.and_eq_true]at hf;exact⟨hR _ _ hf.1 h.1,LR.flat hR hf.2 h.2⟩
 | [],_::_,_,h=>h.elim
 |_::_,[],_,h=>h.elim
theorem VR0.flat {ρ ρ':Rho}{v:V}{c:Value}(hf:fl0 v=true) (h:VR0 ρ v c):VR0 ρ' v c:=by
 cases v with
 |o=>trivial
 |c s=>exact SR.flat hf h
 |a l=>obtain⟨arr,h1,h2⟩:=h;exact⟨arr,h1,LR.flat (fun _ _=>SR.flat) hf h2⟩
 |t l=>exact h.elim
theorem VR.flat {ρ ρ':Rho}{v:V}{c:Value}(hf:flV v=true) (h:VR ρ v c):VR ρ' v c:=by
 cases v with
 |o=>trivial
 |c s=>exact SR.flat hf h
 |a l=>obtain⟨arr,h1,h2⟩:=h;exact⟨arr,h1,LR.flat (fun _ _=>SR.flat) hf h2⟩
 |t l=>obtain⟨arr,h1,h2⟩:=h;exact⟨arr,h1,LR.flat (fun _ _=>VR0.flat) hf h2⟩
theorem Rel.below {ρ:Rho}{s:St}{w w':World}(h:Rel ρ s w) (b:Below w.heap.size w w'):Rel ρ s w':=by
 have hlt:∀x cb sh z,ρ x=some (cb,sh,z)→cb < w.heap.size:=fun x cb sh z e=>by
  obtain⟨cs,el,h1,_⟩:=h.blk x cb sh z e;exact(Array.getElem?_eq_some_iff.1 h1).1
 refine⟨h.dom,fun x cb sh z e=> ?_,fun x cb sh z bk e e'=> ?_,h.inj,h.fam,h.nfl,h.lt⟩
 ·rw[b.block cb (hlt x cb sh z e)];exact h.blk x cb sh z e
 ·obtain⟨h1,h2⟩:=h.con x cb sh z bk e e';refine⟨h1,fun i sv hi=> ?_⟩;obtain⟨cv,h3,h4⟩:=h2 i sv hi;refine⟨cv,?_,h4⟩;rw[←h3];unfold World.cell?;rw[b.block cb (hlt x cb sh z e)]
structure Or where
 g:Nat
 vs:List V
 v:V
noncomputable def Ij (l:List V):List V→Bool:=
 List.rec (motive:=fun _=>List V→Bool) (fun m=>List.rec true (fun _ _ _=>false) m)
  (fun x _ ih m=>List.rec false (fun y t _=>Bool.rec false (ih t) (vEq x y)) m) l
theorem MA:∀ {l m:List V},Ij l m=true→l=m
 | [],[],_=>rfl
 | [],_::_,h=>by have:false=true:=h;cases this
 |_::_,[],h=>by have:false=true:=h;cases this
 |x::l,y::m,h=>by
  have h':(Bool.rec false (Ij l m) (vEq x y):Bool)=true:=h;cases hv:vEq x y with
  |false=>rw[hv]at h';cases h'
  |true=>rw[hv]at h';rw[Mh hv,MA h']
end Go.Ev
end
section
namespace Go.Ev
open Go
def Ent (P:Program) (g:Nat) (vs:List V) (u:St) (v:V) (u':St):Prop:=
 ∀ (ρ:Rho) (w:World) (cargs:List Value),LR (VR ρ) vs cargs→Rel ρ u w→
  (callFunc g cargs.toArray).run P w= .ok (.enter g cargs.toArray) w∧
  Calls P g cargs.toArray w fun e w'=>∃cv ρ',e= .returned cv∧VR ρ' v cv∧Rel ρ' u' w'∧Go u ρ w u' ρ' w'
def EntK (P:Program) (g:Nat) (vs:List V) (u:St) (v:V):Prop:=
 ∀ (ρ:Rho) (w:World) (cargs:List Value),LR (VR ρ) vs cargs→Rel ρ u w→
  (callFunc g cargs.toArray).run P w= .ok (.enter g cargs.toArray) w∧
  Calls P g cargs.toArray w fun e w'=>∃cv,e= .returned cv∧VR ρ v cv∧Rel ρ u w'∧Go u ρ w u ρ w'
theorem CO {P:Program}{call:Nat→List V→St→Option (V×St)}(hc:BK P call) {g:Nat}{vs:List V}{u u':St}{v:V}(h:call g vs u=some (v,u')):Ent P g vs u v u':=
 fun ρ w cargs hl hr=>hc g vs u v u' h ρ w cargs hl hr
theorem PR.back {ρ ρ':Rho}(h:ρ.le ρ') {x o:Nat}{v v':Value}(h0:PR ρ x o v) (h1:PR ρ' x o v'):PR ρ x o v':=by
 obtain⟨cb,sh,z,e0,rfl⟩:=h0;obtain⟨cb',sh',z',e1,rfl⟩:=h1;have:=h _ _ e0;rw[e1]at this;simp only[Option.some.injEq,Prod.mk.injEq]at this;obtain⟨rfl,rfl,rfl⟩:=this;exact⟨_,_,_,e0,rfl⟩
theorem LR.back {ρ ρ':Rho}(h:ρ.le ρ'):∀ {l:List (Nat×Nat)}{m m':List Value},LR (fun(c:Nat×Nat) v=>PR ρ c.1 c.2 v) l m→LR (fun(c:Nat×Nat) v=>PR ρ' c.1 c.2 v) l m'→LR (fun(c:Nat×Nat) v=>PR ρ c.1 c.2 v) l m'
 | [],[],[],_,_=>trivial
 |_::_,_::_,_::_,h0,h1=>⟨PR.back h h0.1 h1.1,LR.back h h0.2 h1.2⟩
 | [],_::_,_,h0,_=>h0.elim
 |_::_,[],_,h0,_=>h0.elim
 | [],[],_::_,_,h1=>h1.elim
 |_::_,_::_,[],_,h1=>h1.elim
theorem SR.back {ρ ρ':Rho}(h:ρ.le ρ') {s:S}{v v':Value}(h0:SR ρ s v) (h1:SR ρ' s v'):SR ρ s v':=by
 cases s with
 |p x o=>exact PR.back h h0 h1
 |l x o n e full=>
  obtain⟨cb,sh,z,a,cap,e0,_⟩:=h0;obtain⟨cb',sh',z',a',cap',e1,r⟩:=h1;have:=h _ _ e0;rw[e1]at this;simp only[Option.some.injEq,Prod.mk.injEq]at this;obtain⟨rfl,rfl,rfl⟩:=this;exact⟨_,_,_,a',cap',e0,r⟩
 |f g cs=>
  obtain⟨arr,_,k0⟩:=h0;obtain⟨arr',rfl,k1⟩:=h1;exact⟨arr',rfl,LR.back h k0 k1⟩
 |_=>exact h1
theorem Rel.keep {ρ ρ':Rho}{u u':St}{w w':World}(h:Rel ρ u w) (h':Rel ρ' u' w') (g:Go u ρ w u' ρ' w') (hk:∀x b,u.h.get x=some b→u'.h.get x=some b):Rel ρ u w'∧Go u ρ w u ρ w':=by
 refine⟨⟨h.dom,fun x cb sh z e=>h'.blk x cb sh z (g.le _ _ e),fun x cb sh z b e e'=>by
   obtain⟨k1,k2⟩:=h'.con x cb sh z b (g.le _ _ e) (hk _ _ e');obtain⟨_,k3⟩:=h.con x cb sh z b e e';refine⟨k1,fun i sv hi=> ?_⟩;obtain⟨cv,k4,k5⟩:=k2 i sv hi;obtain⟨cv0,_,k6⟩:=k3 i sv hi;exact⟨cv,k4,SR.back g.le k6 k5⟩,
  fun x y cb sh sh' z z' bx b' hne e1 e2 e3 e4=>h'.inj x y cb sh sh' z z' bx b' hne (g.le _ _ e1) (g.le _ _ e2) (hk _ _ e3) (hk _ _ e4),h.fam,h.nfl,h.lt⟩,?_⟩
 exact⟨Rho.le_refl _,g.os,g.tape,g.output,g.size,g.block,fun x cb sh z e=> .inl ⟨x,sh,z,e⟩,Nat.le_refl _,fun _ _ e=> .inl e⟩
def Wk (v v':V):Prop:=∀ρ ρ' cv,VR ρ v cv→VR ρ' v' cv
theorem Xe {P:Program}{g:Nat}{vs:List V}{u u':St}{v v':V}(h:Ent P g vs u v u') (hw:Wk v v') (hk:∀x b,x < u.nb→u.h.get x=some b→u'.h.get x=some b):EntK P g vs u v':=by
 intro ρ w cargs hl hr;obtain⟨h1,h2⟩:=h ρ w cargs hl hr;refine⟨h1,h2.mono ?_⟩;rintro e w' ⟨cv,ρ',rfl,k1,k2,k3⟩;obtain⟨k4,k5⟩:=hr.keep k2 k3 fun x b e=>hk x b (hr.lt x b e) e;exact⟨cv,rfl,hw _ _ _ k1,k4,k5⟩
noncomputable def Fi (x:S):Bool:=S.rec (motive:=fun _=>Bool) true (fun _=>false) (fun _=>false) (fun _ _=>false) (fun _=>false) false (fun _ _=>false) false (fun _ _ _ _ _=>false) (fun _ _=>false) false x
noncomputable def IS (x y:S):Bool:=Bool.rec (motive:=fun _=>Bool) (sEq x y) (Fi y) (Fi x)
noncomputable def IT (l:List S):List S→Bool:=
 List.rec (motive:=fun _=>List S→Bool) (fun m=>List.rec true (fun _ _ _=>false) m)
  (fun x _ ih m=>List.rec false (fun y t _=>Bool.rec false (ih t) (IS x y)) m) l
theorem Xf {x y:S}(h:IS x y=true):x=y:=by
 have h':Bool.rec (motive:=fun _=>Bool) (sEq x y) (Fi y) (Fi x)=true:=h;cases hx:Fi x with
 |false=>rw[hx]at h';exact JB h'
 |true=>
  rw[hx]at h';have h2:Fi y=true:=h';have un:∀z,Fi z=true→z= .un:=fun z hz=>by cases z <;> first |rfl |cases hz
  rw[un x hx,un y h2]
theorem Oj:∀ {l m:List S},IT l m=true→l=m
 | [],[],_=>rfl
 | [],_::_,h=>by cases h
 |_::_,[],h=>by cases h
 |x::l,y::m,h=>by
  have h':(Bool.rec false (IT l m) (IS x y):Bool)=true:=h;cases hv:IS x y with
  |false=>rw[hv]at h';cases h'
  |true=>rw[hv]at h';rw[Xf hv,Oj h']
noncomputable def GI (a b:Option KB):Bool:=
 Option.rec (motive:=fun _=>Bool) (Option.rec (motive:=fun _=>Bool) true (fun _=>false) b)
  (fun x=>Option.rec (motive:=fun _=>Bool) false (fun y=>IT x.r y.r&& Nat.beq x.n y.n&& Nat.beq x.fam y.fam&& Nat.beq x.d y.d) b) a
theorem Xg {a b:Option KB}(h:GI a b=true):a.map KB.bk=b.map KB.bk:=by
 cases a with
 |none=>cases b with
  |none=>rfl
  |some y=>cases h
 |some x=>cases b with
  |none=>cases h
  |some y=>
   have h':(IT x.r y.r&& Nat.beq x.n y.n&& Nat.beq x.fam y.fam&& Nat.beq x.d y.d)=true:=h;obtain⟨h1,h4⟩:=(Bool.and_eq_true _ _).mp h';obtain⟨h1,h3⟩:=(Bool.and_eq_true _ _).mp h1;obtain⟨h1,h2⟩:=(Bool.and_eq_true _ _).mp h1;have e1:=Oj h1;have e3:x.fam=y.fam:=Nat.eq_of_beq_eq_true h3;have e4:x.d=y.d:=Nat.eq_of_beq_eq_true h4;simp only[Option.map_some,KB.bk,e1,e3,e4]
noncomputable def CP (s s':KS) (n:Nat):Bool:=Nat.rec (motive:=fun _=>Bool) true (fun x ih=>Bool.rec (motive:=fun _=>Bool) false ih (GI (AI s x) (AI s' x))) n
theorem Ol {s s':KS}:∀ {n:Nat},CP s s' n=true→ ∀x,x < n→GI (AI s x) (AI s' x)=true
 |0,_,x,hx=>absurd hx (Nat.not_lt_zero _)
 |n+1,h,x,hx=>by
  have h':Bool.rec (motive:=fun _=>Bool) false (CP s s' n) (GI (AI s n) (AI s' n))=true:=h;cases he:GI (AI s n) (AI s' n)with
  |false=>rw[he]at h';cases h'
  |true=>
   rw[he]at h';by_cases hxn:x=n
   ·subst hxn;exact he
   ·exact Ol h' x (by omega)
theorem IU {s s':KS}{u u':St}(r:RS s u) (r':RS s' u') {n:Nat}(h:CP s s' n=true) (x:Nat) (hx:x < n):u.h.get x=u'.h.get x:=by
 rw[r.h,r'.h];exact Xg (Ol h x hx)
def isP (v:V) (k:List S→Bool):Bool:=match v with | .t [.a p,.c (.i (.negSucc 0))]=>k p |_=>false
theorem Ee {v:V}{k:List S→Bool}(h:isP v k=true):∃p,v= .t [.a p,.c (.i (-1))]∧k p=true:=by
 unfold isP at h;split at h
 ·exact⟨_,rfl,h⟩
 ·cases h
noncomputable def isI (n:Nat) (v:V):Bool:=match v with | .t [.a l,.c (.i (.ofNat 0))]=>Nat.beq (Ad l) n |_=>false
def isT (v:V):Bool:=match v with | .c (.b x)=>x |_=>false
theorem Xh {v:V}(h:isT v=true):v= .c (.b true):=by
 unfold isT at h;split at h
 ·subst h;rfl
 ·cases h
def FQ (v:V) (k:S→Bool):Bool:=match v with | .t [.c b,.c (.b true)]=>k b |_=>false
theorem IV {v:V}{k:S→Bool}(h:FQ v k=true):∃b,v= .t [.c b,.c (.b true)]∧k b=true:=by
 unfold FQ at h;split at h
 ·exact⟨_,rfl,h⟩
 ·cases h
def unT (n:Nat):V:= .t [.a (List.replicate n .un),.c (.i 0)]
theorem Om {n:Nat}{v:V}(h:isI n v=true):Wk v (unT n):=by
 unfold isI at h;split at h
 ·rename_i l;have hl:l.length=n:=by rw[←AB];exact Nat.eq_of_beq_eq_true h
  intro ρ ρ' cv hv;obtain⟨arr,rfl,k⟩:=hv;refine⟨arr,rfl,?_⟩;cases ha:arr.toList with
  |nil=>rw[ha]at k;exact k.elim
  |cons a t=>
   rw[ha]at k;cases t with
   |nil=>exact k.2.elim
   |cons b t=>
    cases t with
    |cons c t=>exact k.2.2.elim
    |nil=>
     obtain⟨⟨ar,rfl,k1⟩,k2,_⟩:=k;refine⟨⟨ar,rfl,?_⟩,k2,trivial⟩;have hlen:ar.toList.length=n:=by rw[←k1.length];exact hl
     refine LR.of_get (by rw[List.length_replicate,hlen]) fun i x y hx hy=> ?_;have e:x= .un:=by
      rw[List.getElem?_replicate]at hx;split at hx
      ·simp only[Option.some.injEq]at hx;exact hx.symm
      ·cases hx
     subst e;exact LR.one k1 y (List.mem_of_getElem? hy)
 ·cases h
theorem Xi (x:Bool):Wk (.c (.b x)) (.c (.b x)):=fun _ _ _ h=>h
structure WF (u:St):Prop where
 fam:∀x b f,u.h.get x=some b→b.fam=f+1→ ∃ms,u.fm.get f=some ms∧(x,b.d,b.c.length)∈ms
 nfl:∀x b,u.h.get x=some b→b.fam≤u.nf
 lt:∀x b,u.h.get x=some b→x < u.nb
theorem Rel.wf {ρ:Rho}{u:St}{w:World}(h:Rel ρ u w):WF u:=⟨h.fam,h.nfl,h.lt⟩
def Eqv (u u':St):Prop:=u.nb=u'.nb∧ ∀x,x < u'.nb→u.h.get x=u'.h.get x
theorem Eqv.rel {u u':St}(h:Eqv u u') (hf:WF u') {ρ:Rho}{w:World}(hr:Rel ρ u w):Rel ρ u' w:=
 ⟨fun x y e=>h.1▸hr.dom x y e,hr.blk,fun x cb sh z b e e'=>hr.con x cb sh z b e (by rw[h.2 x (hf.lt x b e')];exact e'),
 fun x y cb sh sh' z z' bx b' hne e1 e2 e3 e4=>hr.inj x y cb sh sh' z z' bx b' hne e1 e2 (by rw[h.2 x (hf.lt _ _ e3)];exact e3) (by rw[h.2 y (hf.lt _ _ e4)];exact e4),hf.fam,hf.nfl,hf.lt⟩
theorem Eqv.symm {u u':St}(h:Eqv u u'):Eqv u' u:=⟨h.1.symm,fun x hx=>(h.2 x (h.1▸hx)).symm⟩
noncomputable def Kw (g₀:Nat) (vs₀:List V) (s₀:KS) (v₀:V):By:=fun g vs s k=>
 bif Nat.beq g g₀&& Ij vs vs₀&& Nat.beq s.nb s₀.nb&& CP s s₀ s₀.nb then k v₀ s else false
open Classical in
noncomputable def GJ (g₀:Nat) (vs₀:List V) (u₀:St) (v₀:V):Nat→List V→St→Option (V×St):=fun g vs u=>
 if g=g₀∧vs=vs₀∧Eqv u u₀ then some (v₀,u)else none
theorem Xj {g₀:Nat}{vs₀:List V}{s₀:KS}{u₀:St}{v₀:V}(r₀:RS s₀ u₀):Da (Kw g₀ vs₀ s₀ v₀) (GJ g₀ vs₀ u₀ v₀):=by
 intro g vs s k u r h;unfold Kw at h;cases hb:(Nat.beq g g₀&& Ij vs vs₀&& Nat.beq s.nb s₀.nb&& CP s s₀ s₀.nb)with
 |false=>rw[hb]at h;cases h
 |true=>
  rw[hb]at h;obtain⟨h1,h4⟩:=(Bool.and_eq_true _ _).mp hb;obtain⟨h1,h3⟩:=(Bool.and_eq_true _ _).mp h1;obtain⟨h1,h2⟩:=(Bool.and_eq_true _ _).mp h1;refine⟨v₀,s,u,?_,r,h⟩;unfold GJ;rw[if_pos];refine⟨Nat.eq_of_beq_eq_true h1,MA h2,?_,fun x hx=> ?_⟩
  ·rw[r.nb,r₀.nb];exact Nat.eq_of_beq_eq_true h3
  ·exact IU r r₀ h4 x (by rw[←r₀.nb];exact hx)
theorem Xk {P:Program}{g₀:Nat}{vs₀:List V}{u₀:St}{v₀:V}(h:EntK P g₀ vs₀ u₀ v₀) (hf:WF u₀):BK P (GJ g₀ vs₀ u₀ v₀):=by
 intro g vs u v u' hc ρ w cargs hl hr;unfold GJ at hc;split at hc
 ·rename_i hh;obtain⟨rfl,rfl,he⟩:=hh;simp only[Option.some.injEq,Prod.mk.injEq]at hc;obtain⟨rfl,rfl⟩:=hc;obtain⟨h1,h2⟩:=h ρ w cargs hl (he.rel hf hr);refine⟨h1,h2.mono ?_⟩;rintro e w' ⟨cv,rfl,k1,k2,k3⟩;exact⟨cv,ρ,rfl,k1,he.symm.rel hr.wf k2,k3.states he.1 he.1⟩
 ·cases hc
abbrev OpL:=Int×Int×Int
abbrev Bs:=Int×List OpL
def EH:List OpL→List S
 | []=> []
 |o::l=> .i o.1:: .i o.2.1:: .i o.2.2::EH l
noncomputable def DO (cells:Nat→Nat→Nat→Option (List S)) (ops:List OpL):S→Bool
 | .l b o n sz _=>Nat.beq sz 3&& Nat.beq n (Ad ops)&& (match cells b o (Nat.mul n 3)with |some l=>lEq l (EH ops) |none=>false)
 |_=>false
noncomputable def Bn (cells:Nat→Nat→Nat→Option (List S)):List Bs→List S→Bool
 | [],[]=>true
 |f::fs,.i n::x::l=>ieq n f.1&& DO cells f.2 x&& Bn cells fs l
 |_,_=>false
noncomputable def GK (cells:Nat→Nat→Nat→Option (List S)) (fs:List Bs):S→Bool
 | .l b o n sz _=>Nat.beq sz 2&& Nat.beq n (Ad fs)&& (match cells b o (Nat.mul n 2)with |some l=>Bn cells fs l |none=>false)
 |_=>false
theorem Oo {c c':Nat→Nat→Nat→Option (List S)}(h:∀x o n l,c x o n=some l→c' x o n=some l) {ops:List OpL}{x:S}(hx:DO c ops x=true):DO c' ops x=true:=by
 cases x with
 |l b o n sz fl=>
  have hx':(Nat.beq sz 3&& Nat.beq n (Ad ops)&& (match c b o (Nat.mul n 3)with |some l=>lEq l (EH ops) |none=>false))=true:=hx;obtain⟨h1,h2⟩:=(Bool.and_eq_true _ _).mp hx'
  show(Nat.beq sz 3&& Nat.beq n (Ad ops)&& (match c' b o (Nat.mul n 3)with |some l=>lEq l (EH ops) |none=>false))=true
  split at h2
  ·rename_i l hl;rw[h _ _ _ _ hl,h1];exact h2
  ·cases h2
 |_=>cases hx
theorem Kx {c c':Nat→Nat→Nat→Option (List S)}(h:∀x o n l,c x o n=some l→c' x o n=some l):∀ {fs:List Bs}{l:List S},Bn c fs l=true→Bn c' fs l=true
 | [],[],_=>rfl
 |f::fs,.i n::x::l,hx=>by
  have hx':(ieq n f.1&& DO c f.2 x&& Bn c fs l)=true:=hx;obtain⟨h1,h3⟩:=(Bool.and_eq_true _ _).mp hx';obtain⟨h1,h2⟩:=(Bool.and_eq_true _ _).mp h1
  show(ieq n f.1&& DO c' f.2 x&& Bn c' fs l)=true
  rw[h1,Oo h h2,Kx h h3];rfl
 | [],_::_,hx=>by simp[Bn]at hx
 |_::_,[],hx=>by simp[Bn]at hx
 |_::_,[_],hx=>by simp[Bn]at hx
 |f::fs,x::y::l,hx=>by
  cases x with
  |i n=>
   have hx':(ieq n f.1&& DO c f.2 y&& Bn c fs l)=true:=hx;obtain⟨h1,h3⟩:=(Bool.and_eq_true _ _).mp hx';obtain⟨h1,h2⟩:=(Bool.and_eq_true _ _).mp h1
   show(ieq n f.1&& DO c' f.2 y&& Bn c' fs l)=true
   rw[h1,Oo h h2,Kx h h3];rfl
  |_=>simp[Bn]at hx
theorem Xl {c c':Nat→Nat→Nat→Option (List S)}(h:∀x o n l,c x o n=some l→c' x o n=some l) {fs:List Bs}{x:S}(hx:GK c fs x=true):GK c' fs x=true:=by
 cases x with
 |l b o n sz fl=>
  have hx':(Nat.beq sz 2&& Nat.beq n (Ad fs)&& (match c b o (Nat.mul n 2)with |some l=>Bn c fs l |none=>false))=true:=hx;obtain⟨h1,h2⟩:=(Bool.and_eq_true _ _).mp hx'
  show(Nat.beq sz 2&& Nat.beq n (Ad fs)&& (match c' b o (Nat.mul n 2)with |some l=>Bn c' fs l |none=>false))=true
  split at h2
  ·rename_i l hl;rw[h _ _ _ _ hl,h1];exact Kx h h2
  ·cases h2
 |_=>cases hx
end Go.Ev
end
