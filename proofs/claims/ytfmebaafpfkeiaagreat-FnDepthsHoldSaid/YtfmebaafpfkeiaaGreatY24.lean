/- Parts of the proof of FnDepthsHold, FnEnds, FnMeant, FnMovedWhenever, FnSizes. -/
import Derived.Test.YtfmebaafpfkeiaaGreatRows
import Derived.Test.YtfmebaafpfkeiaaGreatY13
import Derived.Laws.BytesArg
import Derived.Test.YtfmebaafpfkeiaaGreatY23
set_option linter.unusedVariables false
set_option linter.unusedSimpArgs false
set_option maxRecDepth 1000000
set_option maxHeartbeats 16000000
namespace Go.Proofs.YtfmebaafpfkeiaaGreat
open Go.RowKit
theorem Jj {n:Nat}(h:n < 10):Utf8.encode (48+ (n:Int))=st [dig n]:=by
 obtain rfl |rfl |rfl |rfl |rfl |rfl |rfl |rfl |rfl |rfl:n=0∨n=1∨n=2∨n=3∨n=4∨n=5∨n=6∨n=7∨n=8∨n=9:=by omega
 all_goals rfl
theorem Hu:∀ (f n:Nat) (w:World),n < 10^ (f+1)→f≤30→n≤9223372036854775807→
  Calls Tryz.prog 65 #[.int .i64 n] w fun e w'=>e= .returned (.string (st (AK (f+1) n)))∧w=w':=by
 intro f;induction f with
 |zero=>
  intro n w h1 h2 h3;have h1':n < 10:=by simpa using h1
  have HD:=Lib.hid (show Utf8.encode (48+ (n:Int))=st (AK (0+1) n)by rw[Fw h1',Jj h1']);clear h1;have e0:decide ((n:Int) < 0)=false:=by simp
  have e1:decide ((n:Int) < 10)=true:=by simp;omega
  go_enter Tryz.func65,Tryz.ntmps65;go_wp2;go_ret;exact⟨by rw[←HD.out];rfl,rfl⟩
 |succ f ih=>
  intro n w h1 h2 h3;by_cases h10:n < 10
  ·have HD:=Lib.hid (show Utf8.encode (48+ (n:Int))=st (AK (f+1+1) n)by rw[Fw h10,Jj h10]);clear h1 ih;have e0:decide ((n:Int) < 0)=false:=by simp
   have e1:decide ((n:Int) < 10)=true:=by simp;omega
   go_enter Tryz.func65,Tryz.ntmps65;go_wp2;go_ret;exact⟨by rw[←HD.out];rfl,rfl⟩
  ·have HC:=Lib.hid (ih (n/10) w (by rw[Nat.pow_succ]at h1;omega) (by omega) (by omega));have hs:(st (AK (f+1) (n/10))).size≤31:=by rw[Dx];have:=Fx (f+1) (n/10);omega
   obtain⟨m,hm⟩:∃m,n/10=m:=⟨_,rfl⟩;obtain⟨d,hd⟩:∃d,n%10=d:=⟨_,rfl⟩;have hd10:d < 10:=by omega
   have he:=Jj hd10;have hst:st (AK (f+1) m)++Utf8.encode (48+ (d:Int))=st (AK (f+1+1) n):=by rw[he,CC,Ji h10,hm,hd]
   have hes:(Utf8.encode (48+ (d:Int))).size≤1:=by rw[he,Dx];simp
   have hq:(n:Int)/10= (m:Int):=by omega
   have hr:(n:Int)%10= (d:Int):=by omega
   rw[hm]at HC hs;obtain⟨S,hS⟩:∃S,st (AK (f+1) m)=S:=⟨_,rfl⟩;rw[hS]at HC hs hst;have HST:=Lib.hid hst;have HQ:=Lib.hid hq;clear h1 ih hm hd he hst hS hq;have e0:decide ((n:Int) < 0)=false:=by simp
   have e1:decide ((n:Int) < 10)=false:=by simp;omega
   have HR:=Lib.hid hr;clear hr;go_enter Tryz.func65,Tryz.ntmps65;go_wp2_with fail;rw[HQ.out];refine HC.out.mono ?_;rintro e w' ⟨rfl,rfl⟩;have hr:=HR.out;go_wp2;go_ret;exact⟨by rw[←HST.out];rfl,rfl⟩
theorem QR:∀ (f m:Nat) (w:World),m < 10^ (f+1)→f≤30→0 < m→m≤9223372036854775808→
  Calls Tryz.prog 65 #[.int .i64 (-(m:Int))] w fun e w'=>e= .returned (.string (st (45::AK (f+1) m)))∧w=w':=by
 intro f;induction f with
 |zero=>
  intro m w h1 h2 hm0 h3;have h10:m < 10:=by simpa using h1
  have HC:=Lib.hid (Hu 0 m w h1 (by omega) (by omega));have hs:(st (AK (0+1) m)).size≤31:=by rw[Dx];have:=Fx (0+1) m;omega
  have hst:(⟨#[45]⟩:ByteArray)++st (AK (0+1) m)=st (45::AK (0+1) m):=LI _;obtain⟨S,hS⟩:∃S,st (AK (0+1) m)=S:=⟨_,rfl⟩;rw[hS]at HC hs hst;have HST:=Lib.hid hst;clear hS hst h1;have e1:decide ((m:Int) < 10)=true:=by simp;omega
  have hsz:(⟨#[45]⟩:ByteArray).size+S.size≤9223372036854775807:=by show 1+S.size≤_;omega
  go_enter Tryz.func65,Tryz.ntmps65;go_wp2_with fail;refine HC.out.mono ?_;rintro e w' ⟨rfl,rfl⟩;go_wp2;go_ret;exact⟨by rw[←HST.out];rfl,rfl⟩
 |succ f ih=>
  intro m w h1 h2 hm0 h3;by_cases h10:m < 10
  ·have HC:=Lib.hid (Hu 0 m w (by simpa using h10) (by omega) (by omega));have hs:(st (AK (0+1) m)).size≤31:=by rw[Dx];have:=Fx (0+1) m;omega
   have hst:(⟨#[45]⟩:ByteArray)++st (AK (0+1) m)=st (45::AK (f+1+1) m):=by rw[LI,Fw h10,Fw h10]
   obtain⟨S,hS⟩:∃S,st (AK (0+1) m)=S:=⟨_,rfl⟩;rw[hS]at HC hs hst;have HST:=Lib.hid hst;clear hS hst h1 ih;have e1:decide ((m:Int) < 10)=true:=by simp;omega
   have hsz:(⟨#[45]⟩:ByteArray).size+S.size≤9223372036854775807:=by show 1+S.size≤_;omega
   go_enter Tryz.func65,Tryz.ntmps65;go_wp2_with fail;refine HC.out.mono ?_;rintro e w' ⟨rfl,rfl⟩;go_wp2;go_ret;exact⟨by rw[←HST.out];rfl,rfl⟩
  ·have HC:=Lib.hid (ih (m/10) w (by rw[Nat.pow_succ]at h1;omega) (by omega) (by omega) (by omega));have HN:=Lib.hid (Hu 0 (m%10) w (by simp;omega) (by omega) (by omega));have hs:(st (45::AK (f+1) (m/10))).size≤32:=by rw[Dx];have:=Fx (f+1) (m/10);simp;omega
   have hs2:(st (AK (0+1) (m%10))).size≤32:=by rw[Dx];have:=Fx (0+1) (m%10);omega
   have hst:st (45::AK (f+1) (m/10))++st (AK (0+1) (m%10))=st (45::AK (f+1+1) m):=by rw[CC,Ji h10,Fw (f:=0) (n:=m%10) (by omega)];rfl
   obtain⟨S,hS⟩:∃S,st (45::AK (f+1) (m/10))=S:=⟨_,rfl⟩;obtain⟨T,hT⟩:∃T,st (AK (0+1) (m%10))=T:=⟨_,rfl⟩;rw[hS]at HC hs hst;rw[hT]at HN hs2 hst;have HST:=Lib.hid hst;have HQ:=Lib.hid (show(m:Int)/10= ((m/10:Nat):Int)by omega);have HR:=Lib.hid (show(m:Int)%10= ((m%10:Nat):Int)by omega);clear hS hT hst h1 ih;have e1:decide ((m:Int) < 10)=false:=by simp;omega
   go_enter Tryz.func65,Tryz.ntmps65;go_wp2_with fail;rw[HQ.out];refine HC.out.mono ?_;rintro e w' ⟨rfl,rfl⟩;go_wp2_with fail;rw[HR.out];refine HN.out.mono ?_;rintro e w' ⟨rfl,rfl⟩;go_wp2;go_ret;exact⟨by rw[←HST.out];rfl,rfl⟩
theorem Hv (n:Int) (w:World) (h0:-9223372036854775808≤n) (h1:n≤9223372036854775807):
  Calls Tryz.prog 65 #[.int .i64 n] w fun e w'=>e= .returned (.string (Cq n))∧w=w':=by
 by_cases hn:0≤n
 ·obtain⟨m,rfl⟩:=Int.eq_ofNat_of_zero_le hn;have:=Hu 19 m w (by omega) (by omega) (by omega);unfold Cq;rw[QP];exact this
 ·obtain⟨m,hm⟩:∃m:Nat,n= -(m:Int):=⟨n.natAbs,by omega⟩;subst hm;have:=QR 19 m w (by omega) (by omega) (by omega) (by omega);unfold Cq;rw[QQ (by omega)];exact this
def RdT (base:Nat) (w:World):CT→Value→Prop
 | .num n,v=>v= .agg #[.int .i64 1,.int .i64 n,.string ⟨#[]⟩,.slice none 0 0]
 | .nul s,v=>v= .agg #[.int .i64 2,.int .i64 0,.string s,.slice none 0 0]
 | .one s t,v=>∃b off cap c0 c1 c2 c3,v= .agg #[.int .i64 2,.int .i64 0,.string s,.slice (some ⟨b,off,none⟩) 1 cap]∧base≤b∧b < w.heap.size∧
   (w.cell? ⟨b,off,none⟩=some c0∧w.cell? ⟨b,off+1,none⟩=some c1∧w.cell? ⟨b,off+2,none⟩=some c2∧w.cell? ⟨b,off+3,none⟩=some c3)∧RdT base w t (.agg #[c0,c1,c2,c3])
theorem RdT.form {base:Nat}{w:World}{t:CT}{v:Value}(h:RdT base w t v):∃k n s a l c,v= .agg #[.int .i64 k,.int .i64 n,.string s,.slice a l c]:=by
 cases t with
 |num n=>exact⟨_,_,_,_,_,_,h⟩
 |nul s=>exact⟨_,_,_,_,_,_,h⟩
 |one s t=>
  obtain⟨b,off,cap,c0,c1,c2,c3,rfl,_⟩:=h;exact⟨_,_,_,_,_,_,rfl⟩
theorem RdT.keep {base:Nat}{w w':World}(hs:w.heap.size≤w'.heap.size) (hb:∀b,base≤b→b < w.heap.size→w'.heap[b]?=w.heap[b]?):∀ {t:CT}{v:Value},RdT base w t v→RdT base w' t v:=by
 intro t;induction t with
 |num n=>exact fun h=>h
 |nul s=>exact fun h=>h
 |one s t ih=>
  rintro v ⟨b,off,cap,c0,c1,c2,c3,rfl,h1,h2,⟨h3,h4,h5,h6⟩,h7⟩;have e:=hb b h1 h2;exact⟨b,off,cap,c0,c1,c2,c3,rfl,h1,by omega,⟨(World.cell?_of_block e).trans h3,(World.cell?_of_block e).trans h4,(World.cell?_of_block e).trans h5,(World.cell?_of_block e).trans h6⟩,ih h7⟩
theorem RdT.below {base:Nat}{w w':World}{t:CT}{v:Value}(h:RdT base w t v) (hb:Below w.heap.size w w'):RdT base w' t v:=h.keep hb.size (fun b _ h2=>hb.block b h2)
theorem RdT.base {base base':Nat}{w:World}(hb:base'≤base):∀ {t:CT}{v:Value},RdT base w t v→RdT base' w t v:=by
 intro t;induction t with
 |num n=>exact fun h=>h
 |nul s=>exact fun h=>h
 |one s t ih=>
  rintro v ⟨b,off,cap,c0,c1,c2,c3,rfl,h1,h2,h3,h7⟩;exact⟨b,off,cap,c0,c1,c2,c3,rfl,by omega,h2,h3,ih h7⟩
theorem RdT.grown {base g:Nat}{w w':World}{t:CT}{v:Value}(h:RdT base w t v) (hg:w.grownBy w' (some g)) (hl:g < base):RdT base w' t v:=
 h.keep hg.size (fun b h1 h2=>hg.block b h2 (fun e=>by have:=Option.some.inj e;omega))
def EX:CT→ByteArray
 | .num n=>Cq n
 | .nul s=>s
 | .one s t=>(⟨#[40]⟩++ (s++ (⟨#[32]⟩++EX t)))++ ⟨#[41]⟩
def CT.len:CT→Nat
 | .num _=>21
 | .nul s=>s.size
 | .one s t=>s.size+t.len+3
def CT.okB:CT→Bool
 | .num n=>inB n (-2147483648) 2147483648
 | .nul _=>true
 | .one _ t=>t.okB
theorem PV:∀t:CT,(EX t).size≤t.len
 | .num n=>Ht n
 | .nul s=>Nat.le_refl _
 | .one s t=>by
  have:=PV t;simp only[EX,CT.len,ByteArray.size_append]
  show 1+ (s.size+ (1+ (EX t).size))+1≤_
  omega
theorem D0:∀ (t:CT) (base:Nat) (v:Value) (w:World),RdT base w t v→t.okB=true→t.len≤1000000→
  Calls Tryz.prog 20 #[v] w fun e w'=>e= .returned (.string (EX t))∧Below w.heap.size w w':=by
 intro t;induction t with
 |num n=>
  intro base v w hr ho hl;have hv:v= .agg #[.int .i64 1,.int .i64 n,.string ⟨#[]⟩,.slice none 0 0]:=hr;subst hv;have hb:=Aw.1 ho;have HD:=Lib.hid (fun(W:World)=>Hv n W (by omega) (by omega));clear hr ho hb;go_enter Tryz.func20,Tryz.ntmps20;go_wp2_with fail;generalize hx:w.alloc _=x;obtain⟨bx,k1⟩:=Bx.alloc hx;clear hx;refine(HD.out x).mono ?_;rintro e w1 ⟨rfl,rfl⟩;go_wp2;go_ret;exact⟨rfl,bx⟩
 |nul s=>
  intro base v w hr ho hl;have hv:v= .agg #[.int .i64 2,.int .i64 0,.string s,.slice none 0 0]:=hr;subst hv;clear hr ho;go_enter Tryz.func20,Tryz.ntmps20;go_wp2
  go_loopw [3,20] (fun sx i wr=>sx= .string s∧i= .int .i64 0∧Below w.heap.size w wr∧Bx wr w.heap.size #[.int .i64 2,.int .i64 0,.string s,.slice none 0 0]) (fun _ _ _=>0)
  case atStart=>
   generalize hx:w.alloc _=x;obtain⟨bx,k1⟩:=Bx.alloc hx;exact⟨rfl,rfl,bx,k1⟩
  case round=>
   obtain⟨rfl,rfl,bb,k1⟩:=hrel;have BB:=Lib.hid bb;clear bb;have ck1:=k1.2.1;have yk1:=k1.1;go_wp2;go_ret;exact⟨rfl,BB.out⟩
 |one s t ih=>
  intro base v w hr ho hl;obtain⟨b,off,cap,c0,c1,c2,c3,rfl,h1,h2,⟨h3,h4,h5,h6⟩,h7⟩:=hr;obtain⟨kk,nn,ss,aa,ll,cc,e⟩:=h7.form;cases e
  have hl':s.size+t.len+3≤1000000:=hl;have hsz:=PV t;have HI:=Lib.hid (fun(W:World) (hb:Below w.heap.size w W)=>ih base _ W (h7.below hb) ho (by omega));have HC:=Lib.hid (fun(W:World) (hb:Below w.heap.size w W)=>(⟨(hb.cell (p:=⟨b,off,none⟩) h2).trans h3,(hb.cell (p:=⟨b,off+1,none⟩) h2).trans h4,(hb.cell (p:=⟨b,off+2,none⟩) h2).trans h5,(hb.cell (p:=⟨b,off+3,none⟩) h2).trans h6⟩:W.cell? ⟨b,off,none⟩=some (.int .i64 kk)∧W.cell? ⟨b,off+1,none⟩=some (.int .i64 nn)∧W.cell? ⟨b,off+2,none⟩=some (.string ss)∧W.cell? ⟨b,off+3,none⟩=some (.slice aa ll cc)));have HTX:=Lib.hid (show EX (.one s t)= (⟨#[40]⟩++ (s++ (⟨#[32]⟩++EX t)))++ ⟨#[41]⟩from rfl);obtain⟨T,hT⟩:∃T,EX t=T:=⟨_,rfl⟩;rw[hT]at HI HTX hsz;rw[HTX.out];have s1:(⟨#[32]⟩:ByteArray).size+T.size≤9223372036854775807:=by show 1+T.size≤_;omega
  have s2:s.size+ ((⟨#[32]⟩:ByteArray)++T).size≤9223372036854775807:=by rw[ByteArray.size_append];show _+ (1+T.size)≤_;omega
  have s3:(⟨#[40]⟩:ByteArray).size+ (s++ ((⟨#[32]⟩:ByteArray)++T)).size≤9223372036854775807:=by rw[ByteArray.size_append,ByteArray.size_append];show 1+ (_+ (1+T.size))≤_;omega
  have s4:((⟨#[40]⟩:ByteArray)++ (s++ ((⟨#[32]⟩:ByteArray)++T))).size+ (⟨#[41]⟩:ByteArray).size≤9223372036854775807:=by rw[ByteArray.size_append,ByteArray.size_append,ByteArray.size_append];show 1+ (_+ (1+T.size))+1≤_;omega
  clear hT h3 h4 h5 h6 h7 hl' ih hl;go_enter Tryz.func20,Tryz.ntmps20;go_wp2
  go_loopw [3,20] (fun sx i wr=>∃k:Nat,k≤1∧i= .int .i64 k∧(k=0→sx= .string s)∧(k=1→sx= .string (s++ (⟨#[32]⟩++T)))∧Below w.heap.size w wr∧Bx wr w.heap.size #[.int .i64 2,.int .i64 0,.string s,.slice (some ⟨b,off,none⟩) 1 cap]) (fun _ i _=>1 - (intOf i).toNat)
  case atStart=>
   generalize hx:w.alloc _=x;obtain⟨bx,k1⟩:=Bx.alloc hx;exact⟨0,by omega,rfl,fun _=>rfl,fun h=>by omega,bx,k1⟩
  case round=>
   obtain⟨k,hk,rfl,hk0,hk1,bb,k1⟩:=hrel;by_cases hz:k=0
   ·subst hz;have e:=hk0 rfl;subst e;obtain⟨q0,q1,q2,q3⟩:=HC.out _ bb;clear hk0 hk1;go_wp2_with fail;generalize hx:World.alloc _ _=x;obtain⟨bx,k2⟩:=Bx.alloc hx;clear hx q0 q1 q2 q3;replace k1:=k1.below bx k1.1;replace bb:=bb.trans (bx.mono bb.size);clear bx;refine(HI.out _ bb).mono ?_;rintro e w2 ⟨rfl,b2⟩;replace k1:=k1.below b2 k1.1;replace bb:=bb.trans (b2.mono bb.size);clear b2;have BB:=Lib.hid bb;have K1:=Lib.hid k1;clear bb k1 k2;go_wp2;go_roundw
    case rel=>exact⟨1,Nat.le_refl _,rfl,fun h=>by omega,fun _=>rfl,BB.out,K1.out⟩
    case measure=>simp[intOf]
   ·have hk':k=1:=by omega
    subst hk';have e:=hk1 rfl;subst e;have BB:=Lib.hid bb;clear hk0 hk1 bb;have ck1:=k1.2.1;have yk1:=k1.1;go_wp2;go_ret;exact⟨rfl,BB.out⟩
end Go.Proofs.YtfmebaafpfkeiaaGreat
