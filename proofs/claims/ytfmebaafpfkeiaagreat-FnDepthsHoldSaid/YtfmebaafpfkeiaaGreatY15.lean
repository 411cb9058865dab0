/- Parts of the proof of FnDepthsHold, FnEnds, FnMeant, FnMovedWhenever, FnSizes. -/
import Derived.Test.YtfmebaafpfkeiaaGreatY14
import Derived.Test.YtfmebaafpfkeiaaGreatY10
import Derived.Test.YtfmebaafpfkeiaaGreatY11
import Derived.Test.YtfmebaafpfkeiaaGreatY12
import Derived.BigQuiet
import Derived.IntWalk
import Derived.Test.YtfmebaafpfkeiaaGreatY13
import Derived.Test.YtfmebaafpfkeiaaGreatRows
import Derived.Deep.QuietTactic
import Derived.Deep.RegionHeld3
import Derived.Deep.Slices
import Derived.Deep.Strs
import Derived.Deep.SlicePairs
import Derived.Lib.SmallJoins
set_option linter.unusedVariables false
set_option linter.unusedSimpArgs false
set_option maxRecDepth 1000000
set_option maxHeartbeats 16000000
section
namespace Go.Proofs.YtfmebaafpfkeiaaGreat
open Go.RowKit
def BH:List (List Nat):=[Go.Ev.src0,Go.Ev.src1,Go.Ev.src2,Go.Ev.src3,Go.Ev.src4,Go.Ev.src5,Go.Ev.src6]
def EZ (v:Value) (s:List Nat):Prop:=∃bs:ByteArray,v= .string bs∧bs.data.toList.map UInt8.toNat=s
def LK (w:World) (g:Nat) (n:Nat):Prop:=g < w.heap.size∧ ∀k,k < n→ ∃v,w.cell? ⟨g,k,none⟩=some v∧EZ v (BH.getD k [])
theorem Q7 (w:World):
  Calls Tryz.prog 81 #[] w fun e w'=>∃g,e= .returned (.slice (some ⟨g,0,none⟩) 7 7)∧w.heap.size≤g∧LK w' g 7∧Below w.heap.size w w':=by
 go_enter Tryz.func81,Tryz.ntmps81;go_wp2;go_ret;refine⟨_,rfl,Nat.le_refl _,⟨by simp,fun k hk=> ?_⟩,(Below.refl _ _).alloc (Nat.le_refl _) _⟩;have hk':k=0∨k=1∨k=2∨k=3∨k=4∨k=5∨k=6:=by omega
 rw[World.cell?_alloc_at _ _ _ _ rfl];rcases hk' with rfl |rfl |rfl |rfl |rfl |rfl |rfl
 all_goals exact⟨_,rfl,_,rfl,by decide+kernel⟩
theorem Q8 {B g b:Nat}(v:Value) (zs:List Int) (w:World) (hC:Cur w g v zs.length) (hr:Rd B .u8 w v zs) (hz:bytesIn zs) (hl:zs.length≤4294967296) (hg:B≤g)
  (hT:LK w b 7) (hne:b≠g):
  Calls Tryz.prog 80 #[.pointer (some ⟨g,0,none⟩),.slice (some ⟨b,0,none⟩) 7 7] w fun e w'=>(∃x k,e= .returned x∧k < 7∧EZ x (BH.getD k []))∧Cur w' g v zs.length∧w.grownBy w' (some g):=by
 have HB:=Lib.hid (fun(W:World) (hC:Cur W g v zs.length) (hr:Rd B .u8 W v zs)=>Hx v zs 7 W hC hr hz hl hg (by unfold Bf;omega));have HC:=Lib.hid hC;have HR:=Lib.hid hr;have HT:=Lib.hid hT;clear hC hr hT;go_enter Tryz.func80,Tryz.ntmps80;go_wp2_with fail;refine(HB.out w HC.out HR.out).mono ?_;rintro e w1 ⟨⟨r,rfl,_,hr2⟩,c1,g1⟩;obtain⟨r0,r1⟩:=hr2 (by omega);obtain⟨k,rfl⟩:=Int.eq_ofNat_of_zero_le r0;have hk:k < 7:=by omega
 obtain⟨x,c0,sx⟩:=HT.out.2 k hk;have c0:=(g1.cell_far ⟨b,k,none⟩ HT.out.1 (by intro h;exact hne (Option.some.inj h))).trans c0;have C1:=Lib.hid c1;have G1:=Lib.hid g1;obtain⟨bs,hx,hs⟩:=sx;subst hx;have HS:=Lib.hid hs;clear c1 g1 hr2 hs;go_wp2;go_ret;exact⟨⟨_,k,rfl,hk,_,rfl,HS.out⟩,C1.out,G1.out⟩
theorem Q9 {B g:Nat}(v:Value) (zs:List Int) (w:World) (hC:Cur w g v zs.length) (hr:∀W,Below w.heap.size w W→Rd B .u8 W v zs) (hz:bytesIn zs) (hl:zs.length≤4294967296) (hg:B≤g):
  Calls Tryz.prog 29 #[.pointer (some ⟨g,0,none⟩)] w fun e w'=>(∃x k,e= .returned x∧k < 7∧EZ x (BH.getD k []))∧Cur w' g v zs.length∧(∀B',B'≤g→Below B' w w'):=by
 have HP:=Lib.hid (Q7 w);have HR:=Lib.hid hr;have HC:=Lib.hid hC;have hlt:g < w.heap.size:=hC.lt;clear hr hC;go_enter Tryz.func29,Tryz.ntmps29;go_wp2_with fail;refine HP.out.mono ?_;rintro e w1 ⟨b,rfl,hb,ht,b1⟩;have HQ:=Lib.hid (Q8 v zs w1 (HC.out.below b1) (HR.out _ b1) hz hl hg ht (by omega));have B1:=Lib.hid b1;clear ht b1;go_wp2_with fail;refine HQ.out.mono ?_;rintro e w2 ⟨⟨x,k,rfl,hk,sx⟩,c2,g2⟩;have B2:=Lib.hid (fun(B':Nat) (h:B'≤g)=>(B1.out.mono (by omega)).trans (Below.of_grown (B:=B') g2 (Nat.le_trans (by omega:B'≤w.heap.size) B1.out.size) (fun k hk=>by cases hk;exact h)));have C2:=Lib.hid c2;obtain⟨bs,hx,hs⟩:=sx;subst hx;have HS:=Lib.hid hs;clear c2 g2 hs;go_wp2;go_ret;exact⟨⟨_,k,rfl,hk,_,rfl,HS.out⟩,C2.out,B2.out⟩
theorem Rc (a:Option Addr) (n c:Nat) (w:World) (hl:n≤4294967296):
  Calls Tryz.prog 33 #[.slice a n c,.int .i64 600,.int .i64 6000] w fun e w'=>(∃x,e= .returned (.int .i64 x)∧600≤x∧x≤6000)∧w'=w:=by
 go_enter Tryz.func33,Tryz.ntmps33;by_cases h:(600:Int)+ (n:Int)/4 > 6000
 ·go_wp2;go_ret;exact⟨⟨_,rfl,by omega,by omega⟩,rfl⟩
 ·go_wp2;go_ret;exact⟨⟨_,rfl,by omega,by omega⟩,rfl⟩
def Jl:List Int:=[5,12,20,30,45,80,300,1500]
theorem Gb {B:Nat}(cv:Value) (zs:List Int) (w:World) (hr:Rd B .u8 w cv zs) (hz:bytesIn zs) (hl:zs.length≤4294967296):
  Calls Tryz.prog 10 #[cv] w fun e w'=>
   (∃x k h b st,e= .returned (.tuple #[x,.int .i64 h,.bool b,.int .i64 st])∧k < 7∧EZ x (BH.getD k [])∧h∈Jl∧0≤st∧st < 6000)∧Below w.heap.size w w':=by
 have HN:=Lib.hid (QW cv zs w hr hz hl);have RR:=Lib.hid (fun(W:World) (hb:Below w.heap.size w W)=>hr.below' hb);obtain⟨a,c,rfl⟩:=hr.form;clear hr;go_enter Tryz.func10,Tryz.ntmps10;go_wp2_with fail;refine HN.out.mono ?_;rintro e w1 ⟨⟨g,rfl,hg,c1⟩,b1⟩;have HD:=Lib.hid (Q9 (.slice a zs.length c) zs w1 c1 (fun W hb=>RR.out W (b1.trans (hb.mono b1.size))) hz hl hg);have B1:=Lib.hid b1;clear c1 b1;go_wp2_with fail;refine HD.out.mono ?_;rintro e w2 ⟨⟨x,k,rfl,hk,bs,rfl,hs⟩,c2,bb2⟩;have b2:=B1.out.trans (bb2 w.heap.size hg);have HS:=Lib.hid hs;have hgw:g < w2.heap.size:=c2.lt;have C2:=Lib.hid c2;have B2:=Lib.hid b2;clear hs b2 bb2 HD HN B1;go_wp2_with fail;generalize hx:w2.alloc _=x;have ry:=Rd.made hx [5,12,20,30,45,80,300,1500] rfl (by decide);obtain⟨bx,_⟩:=Bx.alloc hx;have C3:Cur x g (.slice a zs.length c) zs.length:=C2.out.below bx;have b3:=B2.out.trans (bx.mono B2.out.size);have HC:=Lib.hid (Q0 (.slice a zs.length c) _ zs _ x C3 (RR.out _ b3) hz hl hg ry (by decide) (by decide) (fun a n c h=>by cases h;dsimp only;omega));have B3:=Lib.hid b3;have z3:=b3.size;clear hx ry bx C2 C3 b3 c2;refine HC.out.mono ?_;rintro e w4 ⟨⟨y,rfl,hy⟩,c4,g4⟩;have B4:=Lib.hid (B3.out.trans (Below.of_grown (B:=w.heap.size) g4 z3 (fun k hk=>by cases hk;exact hg)));have HY:=Lib.hid hy;have HO:=Lib.hid (Q1 (.slice a zs.length c) zs 3 w4 c4 (RR.out _ B4.out) hz hl hg (by unfold Bf;omega));clear hy c4 g4 HC B3;go_wp2_with fail;refine HO.out.mono ?_;rintro e w5 ⟨⟨b,rfl⟩,c5,g5⟩;have B5:=Lib.hid (B4.out.trans (Below.of_grown (B:=w.heap.size) g5 B4.out.size (fun k hk=>by cases hk;exact hg)));have HL:=Lib.hid (Rc a zs.length c w5 hl);have C5:=Lib.hid c5;clear c5 g5 HO B4;go_wp2_with fail;refine HL.out.mono ?_;rintro e w6 ⟨⟨m,rfl,m0,m1⟩,rfl⟩;have HW:=Lib.hid (Hx (.slice a zs.length c) zs m w6 C5.out (RR.out _ B5.out) hz hl hg (by unfold Bf;omega));go_wp2_with fail;refine HW.out.mono ?_;rintro e w7 ⟨⟨r,rfl,_,hr2⟩,c7,g7⟩;obtain⟨r0,r1⟩:=hr2 (by omega);have B7:=Lib.hid (B5.out.trans (Below.of_grown (B:=w.heap.size) g7 B5.out.size (fun k hk=>by cases hk;exact hg)));clear c7 g7 HW;go_wp2;refine bodyPost_ret (v:= .tuple #[.string bs,.int .i64 y,.bool b,.int .i64 r]) ?_ rfl ⟨⟨_,k,_,_,_,rfl,hk,⟨_,rfl,HS.out⟩,HY.out,r0,by omega⟩,B7.out⟩;simp[results,Tryz.results10,go_sem]
end Go.Proofs.YtfmebaafpfkeiaaGreat
end
section
namespace Go.Proofs.YtfmebaafpfkeiaaGreat
open Go.RowKit Go.Ev
theorem Am {v:Value}(h:v.oneCell'=true) (w:World) (a:Addr) (m:Mode):(store a v m).run Tryz.prog w=stored Tryz.prog w a v m:=run_store Tryz.prog w a v m h
theorem Lo {ρ:Rho}{p:List S}{l:List Value}(h:LR (SR ρ) p l) (hp:p.length=6):∃a0 a1 a2 a3 a4 a5,l=[a0,a1,a2,a3,a4,a5]:=by
 have hl:l.length=6:=by rw[←h.length];exact hp
 match l,hl with
 | [a0,a1,a2,a3,a4,a5],_=>exact⟨_,_,_,_,_,_,rfl⟩
theorem Fr {α:Type}{a:Array α}{l:List α}(h:a.toList=l):a=l.toArray:=by subst h;simp
theorem F1 {ρ:Rho}{p:List S}{cv:Value}(h:VR ρ (.t [.a p,.c (.i (-1))]) cv) (hp:p.length=6):
  ∃a0 a1 a2 a3 a4 a5,cv= .tuple #[.agg #[a0,a1,a2,a3,a4,a5],.int .i64 (-1)]∧LR (SR ρ) p [a0,a1,a2,a3,a4,a5]:=by
 obtain⟨arr,rfl,k⟩:=h
 match hm:arr.toList,k with
 | [x,y],k=>
  obtain⟨k1,k2,_⟩:=k;obtain⟨ar,rfl,k3⟩:=k1;obtain⟨a0,a1,a2,a3,a4,a5,e⟩:=Lo k3 hp;have k2':y= .int .i64 (-1):=k2;subst k2';rw[e]at k3;refine⟨a0,a1,a2,a3,a4,a5,?_,k3⟩;rw[Fr hm,Fr e]
 | [],k=>exact k.elim
 | [_],k=>exact k.2.elim
 |_::_::_::_,k=>exact k.2.2.elim
theorem Hm {ρ:Rho}{b:S}{cv:Value}(h:VR ρ (.t [.c b,.c (.b true)]) cv):∃x,cv= .tuple #[x,.bool true]∧SR ρ b x:=by
 obtain⟨arr,rfl,k⟩:=h
 match hm:arr.toList,k with
 | [x,y],k=>
  obtain⟨k1,k2,_⟩:=k;have k2':y= .bool true:=k2;subst k2';exact⟨x,by rw[Fr hm],k1⟩
 | [],k=>exact k.elim
 | [_],k=>exact k.2.elim
 |_::_::_::_,k=>exact k.2.2.elim
theorem Lp {ρ:Rho}{cv:Value}(h:VR ρ (unT 11) cv):∃a0 a1 a2 a3 a4 a5 a6 a7 a8 a9 a10,cv= .tuple #[.agg #[a0,a1,a2,a3,a4,a5,a6,a7,a8,a9,a10],.int .i64 0]∧ ∀x∈ [a0,a1,a2,a3,a4,a5,a6,a7,a8,a9,a10],x.oneCell'=true:=by
 obtain⟨arr,rfl,k⟩:=h
 match hm:arr.toList,k with
 | [x,y],k=>
  obtain⟨k1,k2,_⟩:=k;obtain⟨ar,rfl,k3⟩:=k1;have hl:ar.toList.length=11:=by rw[←k3.length];simp
  have k2':y= .int .i64 0:=k2;subst k2'
  match hn:ar.toList,hl with
  | [a0,a1,a2,a3,a4,a5,a6,a7,a8,a9,a10],_=>exact⟨a0,a1,a2,a3,a4,a5,a6,a7,a8,a9,a10,by rw[Fr hm,Fr hn],by rw[←hn];exact LR.one k3⟩
 | [],k=>exact k.elim
 | [_],k=>exact k.2.elim
 |_::_::_::_,k=>exact k.2.2.elim
theorem Qa {ρ:Rho}{b:S}{cv:Value}(h:SR ρ b cv) (hb:∃x o n e f,b= .l x o n e f):∃a n c,cv= .slice a n c:=by
 obtain⟨x,o,n,e,f,rfl⟩:=hb;obtain⟨cb,sh,z,a,cap,_,rfl,_⟩:=h;exact⟨_,_,_,rfl⟩
theorem Bx.left {ρ ρ':Rho}{w w':World}{g:Nat}{cur:Array Value}(h:Bx w g cur) (hf:Far ρ w g) (L:Go.Ev.Left ρ w ρ' w'):Bx w' g cur:=by
 obtain⟨⟨h1,_⟩,h2⟩:=L.keep g hf;exact⟨h1,fun j=>(World.cell?_of_block (w:=w) (a:=⟨g,j,none⟩) h2).trans (h.2.1 j),fun j=>(World.frozen?_of_block (w:=w) (a:=⟨g,j,none⟩) h2).trans (h.2.2 j)⟩
theorem Qb {src:List Nat}{L:List Bs}{p:List S}{b f:S}{uP uC uG:St}(H:PipeI src L p b f uP uC uG) (bs:ByteArray) (hs:bs.data.toList.map UInt8.toNat=src) (w:World):
  Calls Tryz.prog 83 #[.string bs] w fun e w'=>∃fv ρ,e= .returned (.tuple #[fv,.int .i64 0])∧SR ρ f fv∧Kn w ρ uG w':=by
 have HP:=Lib.hid (show Calls Tryz.prog 13 #[.string bs] w fun e w'=>∃cv ρ',e= .returned cv∧VR ρ' (.t [.a p,.c (.i (-1))]) cv∧Kn w ρ' uP w'∧Go.Ev.Left Il w ρ' w' from
  (Kn.zero w).ent H.parse (cargs:=[.string bs]) ⟨⟨bs,rfl,hs⟩,trivial⟩)
 have HH:=Lib.hid H;have hlen:=Lib.hid H.len;clear H hs;go_enter Tryz.func83,Tryz.ntmps83;go_wp2_with fail;refine HP.out.mono ?_;rintro e w1 ⟨cv,ρ,rfl,v1,n1,_⟩;obtain⟨a0,a1,a2,a3,a4,a5,rfl,lp⟩:=F1 v1 hlen.out;clear v1 HP;have N1:=Lib.hid n1;have LP:=Lib.hid lp;have so:=LR.one lp;have s0:=Am (so a0 (by simp));have s1:=Am (so a1 (by simp));have s2:=Am (so a2 (by simp));have s3:=Am (so a3 (by simp));have s4:=Am (so a4 (by simp));have s5:=Am (so a5 (by simp));clear n1 lp so;go_wp2_with fail;generalize hxx:w1.alloc _=x1;obtain⟨b1,kp⟩:=Bx.alloc hxx;clear hxx;have n2:=N1.out.later b1;have f2:Far ρ x1 w1.heap.size:=N1.out.far (Nat.le_refl _) kp.1;have HI:=Lib.hid (show Calls Tryz.prog 152 #[.agg #[a0,a1,a2,a3,a4,a5]] x1 fun e w'=>∃cv,e= .returned cv∧VR ρ (unT 11) cv∧Kn w ρ uP w'∧Go.Ev.Left ρ x1 ρ w' from
  n2.entK HH.out.infer.drop (cargs:=[.agg #[a0,a1,a2,a3,a4,a5]]) ⟨⟨_,rfl,LP.out⟩,trivial⟩)
 clear b1 N1;refine HI.out.mono ?_;rintro e w2 ⟨cv,rfl,v2,n3,l3⟩;obtain⟨t0,t1,t2,t3,t4,t5,t6,t7,t8,t9,t10,rfl,ho⟩:=Lp v2;have u0:=Am (ho t0 (by simp));have u1:=Am (ho t1 (by simp));have u2:=Am (ho t2 (by simp));have u3:=Am (ho t3 (by simp));have u4:=Am (ho t4 (by simp));have u5:=Am (ho t5 (by simp));have u6:=Am (ho t6 (by simp));have u7:=Am (ho t7 (by simp));have u8:=Am (ho t8 (by simp));have u9:=Am (ho t9 (by simp));have u10:=Am (ho t10 (by simp));replace kp:=kp.left f2 l3;replace f2:=(l3.keep _ f2).1;clear v2 HI l3 n2 ho;have ckp:=kp.2.1;have ykp:=kp.1;have zkp:=kp.2.2;go_wp2_with fail;generalize hxx:w2.alloc _=x2;obtain⟨b2,_⟩:=Bx.alloc hxx;clear hxx u0 u1 u2 u3 u4 u5 u6 u7 u8 u9 u10;clear ckp ykp zkp;replace kp:=kp.below b2 kp.1;replace f2:=f2.later b2;replace n3:=n3.later b2;have HC:=Lib.hid (show Calls Tryz.prog 153 #[.agg #[a0,a1,a2,a3,a4,a5]] x2 fun e w'=>∃cv,e= .returned cv∧VR ρ (.c (.b true)) cv∧Kn w ρ uP w'∧Go.Ev.Left ρ x2 ρ w' from
  n3.entK HH.out.covered.drop (cargs:=[.agg #[a0,a1,a2,a3,a4,a5]]) ⟨⟨_,rfl,LP.out⟩,trivial⟩)
 clear n3 b2;refine HC.out.mono ?_;rintro e w3 ⟨cv,rfl,v3,n4,l4⟩;have v3':cv= .bool true:=v3;subst v3';replace kp:=kp.left f2 l4;have HL:=Lib.hid (show Calls Tryz.prog 154 #[.agg #[a0,a1,a2,a3,a4,a5]] w3 fun e w'=>∃cv ρ',e= .returned cv∧VR ρ' (.t [.c b,.c (.b true)]) cv∧Kn w ρ' uC w'∧Go.Ev.Left ρ w3 ρ' w' from
  n4.ent HH.out.close (cargs:=[.agg #[a0,a1,a2,a3,a4,a5]]) ⟨⟨_,rfl,LP.out⟩,trivial⟩)
 clear v3 HC l4 f2 n4;have ckp:=kp.2.1;have ykp:=kp.1;have zkp:=kp.2.2;go_wp2_with fail;refine HL.out.mono ?_;rintro e w4 ⟨cv,ρ2,rfl,v4,n5,_⟩;obtain⟨bv,rfl,sb⟩:=Hm v4;have HG:=Lib.hid (show Calls Tryz.prog 155 #[bv] w4 fun e w'=>∃cv ρ',e= .returned cv∧VR ρ' (.t [.c f,.c (.b true)]) cv∧Kn w ρ' uG w'∧Go.Ev.Left ρ2 w4 ρ' w' from
  n5.ent HH.out.gen (cargs:=[bv]) ⟨sb,trivial⟩)
 clear ckp ykp zkp;clear v4 HL n5 sb kp LP s0 s1 s2 s3 s4 s5;go_wp2_with fail;refine HG.out.mono ?_;rintro e w5 ⟨cv,ρ3,rfl,v5,n6,_⟩;obtain⟨fv,rfl,sf⟩:=Hm v5;have HV:=Lib.hid (show Calls Tryz.prog 156 #[fv] w5 fun e w'=>∃cv,e= .returned cv∧VR ρ3 (.c (.b true)) cv∧Kn w ρ3 uG w'∧Go.Ev.Left ρ3 w5 ρ3 w' from
  n6.entK HH.out.verify (cargs:=[fv]) ⟨sf,trivial⟩)
 have SF:=Lib.hid sf;clear v5 HG n6 sf;go_wp2_with fail;refine HV.out.mono ?_;rintro e w6 ⟨cv,rfl,v6,n7,_⟩;have v6':cv= .bool true:=v6;subst v6';have N7:=Lib.hid n7;clear v6 n7 HV;go_wp2;refine bodyPost_ret (v:= .tuple #[fv,.int .i64 0]) ?_ rfl ⟨fv,ρ3,rfl,SF.out,N7.out⟩;simp[results,Tryz.results83,go_sem]
theorem Qc {src:List Nat}{p:List S}{b f:S}{uP uC uG:St}(H:PipeS src p b f uP uC uG) (bs:ByteArray) (hs:bs.data.toList.map UInt8.toNat=src) (w:World):
  Calls Tryz.prog 12 #[.string bs] w fun e w'=>∃fv,e= .returned (.tuple #[fv,.int .i64 0])∧Below w.heap.size w w':=by
 have HP:=Lib.hid (fun(W:World) (hb:Below w.heap.size w W)=>show Calls Tryz.prog 35 #[.string bs] W fun e w'=>∃cv ρ',e= .returned cv∧VR ρ' (.t [.a p,.c (.i (-1))]) cv∧Kn w ρ' uP w'∧Go.Ev.Left Il W ρ' w' from
  ((Kn.zero w).later hb).ent H.parse (cargs:=[.string bs]) ⟨⟨bs,rfl,hs⟩,trivial⟩)
 have HH:=Lib.hid H;have hlen:=Lib.hid H.len;clear H hs;go_enter Tryz.func12,Tryz.ntmps12;go_wp2_with fail;generalize hzz:w.alloc _=w0;obtain⟨bz,_⟩:=Bx.alloc hzz;clear hzz;refine(HP.out w0 bz).mono ?_;rintro e w1 ⟨cv,ρ,rfl,v1,n1,_⟩;obtain⟨a0,a1,a2,a3,a4,a5,rfl,lp⟩:=F1 v1 hlen.out;clear v1 HP;have N1:=Lib.hid n1;have LP:=Lib.hid lp;have so:=LR.one lp;have s0:=Am (so a0 (by simp));have s1:=Am (so a1 (by simp));have s2:=Am (so a2 (by simp));have s3:=Am (so a3 (by simp));have s4:=Am (so a4 (by simp));have s5:=Am (so a5 (by simp));clear n1 lp so;go_wp2_with fail;generalize hxx:w1.alloc _=x1;obtain⟨b1,kp⟩:=Bx.alloc hxx;clear hxx;have n2:=N1.out.later b1;have f2:Far ρ x1 w1.heap.size:=N1.out.far (Nat.le_refl _) kp.1;have HI:=Lib.hid (show Calls Tryz.prog 36 #[.agg #[a0,a1,a2,a3,a4,a5]] x1 fun e w'=>∃cv,e= .returned cv∧VR ρ (unT 11) cv∧Kn w ρ uP w'∧Go.Ev.Left ρ x1 ρ w' from
  n2.entK HH.out.infer.drop (cargs:=[.agg #[a0,a1,a2,a3,a4,a5]]) ⟨⟨_,rfl,LP.out⟩,trivial⟩)
 clear b1 N1;refine HI.out.mono ?_;rintro e w2 ⟨cv,rfl,v2,n3,l3⟩;obtain⟨t0,t1,t2,t3,t4,t5,t6,t7,t8,t9,t10,rfl,ho⟩:=Lp v2;have u0:=Am (ho t0 (by simp));have u1:=Am (ho t1 (by simp));have u2:=Am (ho t2 (by simp));have u3:=Am (ho t3 (by simp));have u4:=Am (ho t4 (by simp));have u5:=Am (ho t5 (by simp));have u6:=Am (ho t6 (by simp));have u7:=Am (ho t7 (by simp));have u8:=Am (ho t8 (by simp));have u9:=Am (ho t9 (by simp));have u10:=Am (ho t10 (by simp));replace kp:=kp.left f2 l3;replace f2:=(l3.keep _ f2).1;clear v2 HI l3 n2 ho;have ckp:=kp.2.1;have ykp:=kp.1;have zkp:=kp.2.2;go_wp2_with fail;generalize hxx:w2.alloc _=x2;obtain⟨b2,_⟩:=Bx.alloc hxx;clear hxx u0 u1 u2 u3 u4 u5 u6 u7 u8 u9 u10;clear ckp ykp zkp;replace kp:=kp.below b2 kp.1;replace f2:=f2.later b2;replace n3:=n3.later b2;have HC:=Lib.hid (show Calls Tryz.prog 37 #[.agg #[a0,a1,a2,a3,a4,a5]] x2 fun e w'=>∃cv,e= .returned cv∧VR ρ (.c (.b true)) cv∧Kn w ρ uP w'∧Go.Ev.Left ρ x2 ρ w' from
  n3.entK HH.out.covered.drop (cargs:=[.agg #[a0,a1,a2,a3,a4,a5]]) ⟨⟨_,rfl,LP.out⟩,trivial⟩)
 clear n3 b2;refine HC.out.mono ?_;rintro e w3 ⟨cv,rfl,v3,n4,l4⟩;have v3':cv= .bool true:=v3;subst v3';replace kp:=kp.left f2 l4;have HL:=Lib.hid (show Calls Tryz.prog 38 #[.agg #[a0,a1,a2,a3,a4,a5]] w3 fun e w'=>∃cv ρ',e= .returned cv∧VR ρ' (.t [.c b,.c (.b true)]) cv∧Kn w ρ' uC w'∧Go.Ev.Left ρ w3 ρ' w' from
  n4.ent HH.out.close (cargs:=[.agg #[a0,a1,a2,a3,a4,a5]]) ⟨⟨_,rfl,LP.out⟩,trivial⟩)
 clear v3 HC l4 f2 n4;have ckp:=kp.2.1;have ykp:=kp.1;have zkp:=kp.2.2;go_wp2_with fail;refine HL.out.mono ?_;rintro e w4 ⟨cv,ρ2,rfl,v4,n5,_⟩;obtain⟨bv,rfl,sb⟩:=Hm v4;have HG:=Lib.hid (show Calls Tryz.prog 39 #[bv] w4 fun e w'=>∃cv ρ',e= .returned cv∧VR ρ' (.t [.c f,.c (.b true)]) cv∧Kn w ρ' uG w'∧Go.Ev.Left ρ2 w4 ρ' w' from
  n5.ent HH.out.gen (cargs:=[bv]) ⟨sb,trivial⟩)
 clear ckp ykp zkp;clear v4 HL n5 sb kp LP s0 s1 s2 s3 s4 s5;go_wp2_with fail;refine HG.out.mono ?_;rintro e w5 ⟨cv,ρ3,rfl,v5,n6,_⟩;obtain⟨fv,rfl,sf⟩:=Hm v5;have HV:=Lib.hid (show Calls Tryz.prog 40 #[fv] w5 fun e w'=>∃cv,e= .returned cv∧VR ρ3 (.c (.b true)) cv∧Kn w ρ3 uG w'∧Go.Ev.Left ρ3 w5 ρ3 w' from
  n6.entK HH.out.verify (cargs:=[fv]) ⟨sf,trivial⟩)
 have SF:=Lib.hid sf;clear v5 HG n6 sf;go_wp2_with fail;refine HV.out.mono ?_;rintro e w6 ⟨cv,rfl,v6,n7,_⟩;have v6':cv= .bool true:=v6;subst v6';have N7:=Lib.hid n7;clear v6 n7 HV;go_wp2;refine bodyPost_ret (v:= .tuple #[fv,.int .i64 0]) ?_ rfl ⟨fv,rfl,N7.out.below⟩;simp[results,Tryz.results12,go_sem]
end Go.Proofs.YtfmebaafpfkeiaaGreat
end
section
namespace Go.Proofs.YtfmebaafpfkeiaaGreat
open Go.RowKit
def Ei (fs:List F2) (i:Nat) (o:O3):Bool:=
 let e:Int:=((fs.getD i ⟨0,[]⟩).os.length:Int) - 1
 if o.c=1 then A4 o.n&& (o.m==0)
 else if o.c=2 then inB o.n 0 2999&& (o.m==0)
 else if o.c=3 then inB o.n 0 ((fs.getD i ⟨0,[]⟩).f - 1)&& (o.m==0)
 else if o.c=4 then(decide (0 < (i:Int))&& (o.n==0))&& (o.m==0)
 else if o.c=5 then inB o.n 1 ((fs.length:Int) - 1)&& (o.m==(fs.getD o.n.toNat ⟨0,[]⟩).f)
 else if o.c=8 then inB o.n 0 59&& inB o.m 0 20
 else if o.c=9 then inB o.n 0 59&& (o.m==0)
 else if o.c=10 then inB o.n 0 59&& inB o.m 0 e
 else if o.c=11 then A4 o.n&& inB o.m 0 e
 else if o.c=18∨o.c=19 then inB o.n 0 e&& (o.m==0)
 else(inB o.c 1 21&& (o.n==0))&& (o.m==0)
def opG (len e f g i c n m:Int):Bool:=
 if c=1 then A4 n&& (m==0)
 else if c=2 then inB n 0 2999&& (m==0)
 else if c=3 then inB n 0 (f - 1)&& (m==0)
 else if c=4 then(decide (0 < i)&& (n==0))&& (m==0)
 else if c=5 then inB n 1 (len - 1)&& (m==g)
 else if c=8 then inB n 0 59&& inB m 0 20
 else if c=9 then inB n 0 59&& (m==0)
 else if c=10 then inB n 0 59&& inB m 0 (e - 1)
 else if c=11 then A4 n&& inB m 0 (e - 1)
 else if c=18∨c=19 then inB n 0 (e - 1)&& (m==0)
 else(inB c 1 21&& (n==0))&& (m==0)
theorem YQ {B:Nat}(v:Value) (fs:List F2) (i:Nat) (o:O3) (w:World) (hr:RdF B w v fs) (hi:i < fs.length) (ho:FU o) (hfr:0≤fs[i].f∧fs[i].f≤20) (hn:fs.length≤60) (hm:fs[i].os.length≤3000):
  Calls Tryz.prog 120 #[v,.int .i64 i,.agg #[.int .i64 o.c,.int .i64 o.n,.int .i64 o.m]] w fun e w'=>e= .returned (.bool (Ei fs i o))∧Below w.heap.size w w':=by
 obtain⟨c,n,m⟩:=o;obtain⟨⟨hc0,hc1⟩,⟨hn0,hn1⟩,⟨hm0,hm1⟩⟩:=ho;dsimp only at hc0 hc1 hn0 hn1 hm0 hm1 ⊢;have hgi:fs.getD i ⟨0,[]⟩=fs[i]:=by rw[List.getD_eq_getElem?_getD,List.getElem?_eq_getElem hi];rfl
 have hil:(i:Int) < (fs.length:Int):=by omega
 have HR5:=Lib.hid (fun(k:Nat) (hk:k < fs.length)=>hr.at_ hk);obtain⟨b,off,cap,lv,rfl,hB,hbs,hcap,q0,q1,ro⟩:=hr.at_ hi;obtain⟨la,lc,rfl⟩:=ro.form;have bx:Below w.heap.size w (w.alloc (.cells #[.int .i64 c,.int .i64 n,.int .i64 m] 65)):=(Below.refl _ _).alloc (Nat.le_refl _) _;obtain⟨F,hF⟩:∃F,fs[i].f=F:=⟨_,rfl⟩;obtain⟨E,hE⟩:∃E,fs[i].os.length=E:=⟨_,rfl⟩;rw[hE]at hm q1;rw[hF]at q0 hfr;have hop:Ei fs i ⟨c,n,m⟩=opG (fs.length:Int) (E:Int) F (fs.getD n.toNat ⟨0,[]⟩).f (i:Int) c n m:=by
  unfold Ei opG;dsimp only;rw[hgi,hF,hE]
 rw[hop];obtain⟨G,hG⟩:∃G,(fs.getD n.toNat ⟨0,[]⟩).f=G:=⟨_,rfl⟩;rw[hG];have HG:=Lib.hid hG;have e0:IntKind.i64.wrap ((E:Int) - 1)= (E:Int) - 1:=IntWalk.i64_in _ (by omega);have e1:IntKind.i64.wrap (F - 1)=F - 1:=IntWalk.i64_in _ (by omega);have e2:IntKind.i64.wrap ((fs.length:Int) - 1)= (fs.length:Int) - 1:=IntWalk.i64_in _ (by omega);have HW:=Lib.hid (fun(a b c:Int) (W:World)=>(AT a b c W).mono (fun e w' h=>And.intro h.1 h.2.symm));clear hr hgi hop hG hF hE ro;by_cases hk1:c=1
 ·subst hk1;obtain⟨q3,hq3⟩:∃q,A4 n=q:=⟨_,rfl⟩;cases q3
  all_goals go_enter Tryz.func120,Tryz.ntmps120
  all_goals go_wp2_with (first | (go_at_call 54;refine(AT _ _ _ _).mono ?_;simp only[hq3];rintro e w' ⟨rfl,rfl⟩) | (go_at_call 58;refine(CF _ _).mono ?_;simp only[hq3];rintro e w' ⟨rfl,rfl⟩))
  all_goals go_ret
  all_goals exact⟨Aq (by first | (simp[opG,hq3];done) | (simp_all[opG];done)),by first |exact bx |exact(Below.refl _ _).alloc (Nat.le_refl _) _ |exact below_drewN ((Below.refl _ _).alloc (Nat.le_refl _) _) _⟩
 by_cases hk2:c=2
 ·subst hk2;obtain⟨q3,hq3⟩:∃q,inB n 0 2999=q:=⟨_,rfl⟩;cases q3
  all_goals go_enter Tryz.func120,Tryz.ntmps120
  all_goals go_wp2_with (first | (go_at_call 54;refine(AT _ _ _ _).mono ?_;simp only[hq3];rintro e w' ⟨rfl,rfl⟩) | (go_at_call 58;refine(CF _ _).mono ?_;simp only[hq3];rintro e w' ⟨rfl,rfl⟩))
  all_goals go_ret
  all_goals exact⟨Aq (by first | (simp[opG,hq3];done) | (simp_all[opG];done)),by first |exact bx |exact(Below.refl _ _).alloc (Nat.le_refl _) _ |exact below_drewN ((Below.refl _ _).alloc (Nat.le_refl _) _) _⟩
 by_cases hk3:c=3
 ·subst hk3;obtain⟨q3,hq3⟩:∃q,inB n 0 (F - 1)=q:=⟨_,rfl⟩;cases q3
  all_goals have HQ3:=Lib.hid (fun(W:World)=>(by have:=HW.out n 0 (F - 1) W;rw[hq3]at this;exact this:Calls Tryz.prog 54 #[.int .i64 n,.int .i64 0,.int .i64 (F - 1)] W _))
  all_goals go_enter Tryz.func120,Tryz.ntmps120
  all_goals go_wp2_with fail
  all_goals go_quiet ((go_at_call 54;exact Calls.quiet_of_same (HQ3.out _)))
  all_goals go_wp2
  all_goals go_ret
  all_goals exact⟨Aq (by first | (simp[opG,hq3];done) | (simp_all[opG];done)),by first |exact bx |exact(Below.refl _ _).alloc (Nat.le_refl _) _ |exact below_drewN ((Below.refl _ _).alloc (Nat.le_refl _) _) _⟩
 by_cases hk4:c=4
 ·subst hk4
  all_goals go_enter Tryz.func120,Tryz.ntmps120
  all_goals go_wp2_with (first | (go_at_call 54;refine(AT _ _ _ _).mono ?_;simp only[Bool.true_and];rintro e w' ⟨rfl,rfl⟩) | (go_at_call 58;refine(CF _ _).mono ?_;simp only[Bool.true_and];rintro e w' ⟨rfl,rfl⟩))
  all_goals go_ret
  all_goals exact⟨Aq (by first | (simp[opG,Bool.true_and];done) | (simp_all[opG];done)),by first |exact bx |exact(Below.refl _ _).alloc (Nat.le_refl _) _ |exact below_drewN ((Below.refl _ _).alloc (Nat.le_refl _) _) _⟩
 by_cases hk5:c=5
 ·subst hk5;obtain⟨q3,hq3⟩:∃q,inB n 1 ((fs.length:Int) - 1)=q:=⟨_,rfl⟩;cases q3
  ·have HQ3:=Lib.hid (fun(W:World)=>(by have:=HW.out n 1 ((fs.length:Int) - 1) W;rw[hq3]at this;exact this:Calls Tryz.prog 54 #[.int .i64 n,.int .i64 1,.int .i64 ((fs.length:Int) - 1)] W _));go_enter Tryz.func120,Tryz.ntmps120;go_wp2_with fail;go_quiet ((go_at_call 54;exact Calls.quiet_of_same (HQ3.out _)));go_wp2
   all_goals go_ret
   all_goals exact⟨Aq (by first | (simp[opG,hq3];done) | (simp_all[opG];done)),by first |exact bx |exact(Below.refl _ _).alloc (Nat.le_refl _) _ |exact below_drewN ((Below.refl _ _).alloc (Nat.le_refl _) _) _⟩
  ·have hb5:=Aw.1 hq3;obtain⟨kn,rfl⟩:∃k:Nat,n= (k:Int):=⟨n.toNat,by omega⟩;have hkn:kn < fs.length:=by omega
   obtain⟨b',off',cap',lv',hs',_,_,_,c5,_,_⟩:=HR5.out kn hkn;cases hs'
   have hgg:=HG.out;rw[Int.toNat_natCast,List.getD_eq_getElem?_getD,List.getElem?_eq_getElem hkn]at hgg;change fs[kn].f=G at hgg;rw[hgg]at c5;have hkl:(kn:Int) < (fs.length:Int):=by omega
   have hk0:(0:Int)≤ (kn:Int):=by omega
   clear hgg hb5;have HQ3:=Lib.hid (fun(W:World)=>(by have:=HW.out (kn:Int) 1 ((fs.length:Int) - 1) W;rw[hq3]at this;exact this:Calls Tryz.prog 54 #[.int .i64 (kn:Int),.int .i64 1,.int .i64 ((fs.length:Int) - 1)] W _));go_enter Tryz.func120,Tryz.ntmps120;go_wp2_with fail;go_quiet ((go_at_call 54;exact Calls.quiet_of_same (HQ3.out _)));go_wp2
   all_goals go_ret
   all_goals exact⟨Aq (by first | (simp[opG,hq3];done) | (simp_all[opG];done)),by first |exact bx |exact(Below.refl _ _).alloc (Nat.le_refl _) _ |exact below_drewN ((Below.refl _ _).alloc (Nat.le_refl _) _) _⟩
 by_cases hk8:c=8
 ·subst hk8;obtain⟨q3,hq3⟩:∃q,inB n 0 59=q:=⟨_,rfl⟩;obtain⟨q4,hq4⟩:∃q,inB m 0 20=q:=⟨_,rfl⟩;cases q3
  all_goals cases q4
  all_goals go_enter Tryz.func120,Tryz.ntmps120
  all_goals go_wp2_with (first | (go_at_call 54;refine(AT _ _ _ _).mono ?_;simp only[hq3,hq4];rintro e w' ⟨rfl,rfl⟩) | (go_at_call 58;refine(CF _ _).mono ?_;simp only[hq3,hq4];rintro e w' ⟨rfl,rfl⟩))
  all_goals go_ret
  all_goals exact⟨Aq (by first | (simp[opG,hq3,hq4];done) | (simp_all[opG];done)),by first |exact bx |exact(Below.refl _ _).alloc (Nat.le_refl _) _ |exact below_drewN ((Below.refl _ _).alloc (Nat.le_refl _) _) _⟩
 by_cases hk9:c=9
 ·subst hk9;obtain⟨q3,hq3⟩:∃q,inB n 0 59=q:=⟨_,rfl⟩;cases q3
  all_goals go_enter Tryz.func120,Tryz.ntmps120
  all_goals go_wp2_with (first | (go_at_call 54;refine(AT _ _ _ _).mono ?_;simp only[hq3];rintro e w' ⟨rfl,rfl⟩) | (go_at_call 58;refine(CF _ _).mono ?_;simp only[hq3];rintro e w' ⟨rfl,rfl⟩))
  all_goals go_ret
  all_goals exact⟨Aq (by first | (simp[opG,hq3];done) | (simp_all[opG];done)),by first |exact bx |exact(Below.refl _ _).alloc (Nat.le_refl _) _ |exact below_drewN ((Below.refl _ _).alloc (Nat.le_refl _) _) _⟩
 by_cases hk10:c=10
 ·subst hk10;obtain⟨q3,hq3⟩:∃q,inB n 0 59=q:=⟨_,rfl⟩;obtain⟨q4,hq4⟩:∃q,inB m 0 ((E:Int) - 1)=q:=⟨_,rfl⟩;cases q3
  all_goals cases q4
  all_goals go_enter Tryz.func120,Tryz.ntmps120
  all_goals go_wp2_with (first | (go_at_call 54;refine(AT _ _ _ _).mono ?_;simp only[hq3,hq4];rintro e w' ⟨rfl,rfl⟩) | (go_at_call 58;refine(CF _ _).mono ?_;simp only[hq3,hq4];rintro e w' ⟨rfl,rfl⟩))
  all_goals go_ret
  all_goals exact⟨Aq (by first | (simp[opG,hq3,hq4];done) | (simp_all[opG];done)),by first |exact bx |exact(Below.refl _ _).alloc (Nat.le_refl _) _ |exact below_drewN ((Below.refl _ _).alloc (Nat.le_refl _) _) _⟩
 by_cases hk11:c=11
 ·subst hk11;obtain⟨q3,hq3⟩:∃q,A4 n=q:=⟨_,rfl⟩;obtain⟨q4,hq4⟩:∃q,inB m 0 ((E:Int) - 1)=q:=⟨_,rfl⟩;cases q3
  all_goals cases q4
  all_goals go_enter Tryz.func120,Tryz.ntmps120
  all_goals go_wp2_with (first | (go_at_call 54;refine(AT _ _ _ _).mono ?_;simp only[hq3,hq4];rintro e w' ⟨rfl,rfl⟩) | (go_at_call 58;refine(CF _ _).mono ?_;simp only[hq3,hq4];rintro e w' ⟨rfl,rfl⟩))
  all_goals go_ret
  all_goals exact⟨Aq (by first | (simp[opG,hq3,hq4];done) | (simp_all[opG];done)),by first |exact bx |exact(Below.refl _ _).alloc (Nat.le_refl _) _ |exact below_drewN ((Below.refl _ _).alloc (Nat.le_refl _) _) _⟩
 by_cases hk18:c=18
 ·subst hk18;obtain⟨q3,hq3⟩:∃q,inB n 0 ((E:Int) - 1)=q:=⟨_,rfl⟩;cases q3
  all_goals go_enter Tryz.func120,Tryz.ntmps120
  all_goals go_wp2_with (first | (go_at_call 54;refine(AT _ _ _ _).mono ?_;simp only[hq3];rintro e w' ⟨rfl,rfl⟩) | (go_at_call 58;refine(CF _ _).mono ?_;simp only[hq3];rintro e w' ⟨rfl,rfl⟩))
  all_goals go_ret
  all_goals exact⟨Aq (by first | (simp[opG,hq3];done) | (simp_all[opG];done)),by first |exact bx |exact(Below.refl _ _).alloc (Nat.le_refl _) _ |exact below_drewN ((Below.refl _ _).alloc (Nat.le_refl _) _) _⟩
 by_cases hk19:c=19
 ·subst hk19;obtain⟨q3,hq3⟩:∃q,inB n 0 ((E:Int) - 1)=q:=⟨_,rfl⟩;cases q3
  all_goals go_enter Tryz.func120,Tryz.ntmps120
  all_goals go_wp2_with (first | (go_at_call 54;refine(AT _ _ _ _).mono ?_;simp only[hq3];rintro e w' ⟨rfl,rfl⟩) | (go_at_call 58;refine(CF _ _).mono ?_;simp only[hq3];rintro e w' ⟨rfl,rfl⟩))
  all_goals go_ret
  all_goals exact⟨Aq (by first | (simp[opG,hq3];done) | (simp_all[opG];done)),by first |exact bx |exact(Below.refl _ _).alloc (Nat.le_refl _) _ |exact below_drewN ((Below.refl _ _).alloc (Nat.le_refl _) _) _⟩
 obtain⟨q3,hq3⟩:∃q,inB c 1 21=q:=⟨_,rfl⟩;have d1:(c==(1:Int))=false:=by simp;omega
 have d2:(c==(2:Int))=false:=by simp;omega
 have d3:(c==(3:Int))=false:=by simp;omega
 have d4:(c==(4:Int))=false:=by simp;omega
 have d5:(c==(5:Int))=false:=by simp;omega
 have d8:(c==(8:Int))=false:=by simp;omega
 have d9:(c==(9:Int))=false:=by simp;omega
 have d10:(c==(10:Int))=false:=by simp;omega
 have d11:(c==(11:Int))=false:=by simp;omega
 have d18:(c==(18:Int))=false:=by simp;omega
 have d19:(c==(19:Int))=false:=by simp;omega
 cases q3
 all_goals go_enter Tryz.func120,Tryz.ntmps120
 all_goals go_wp2_with (first | (go_at_call 54;refine(AT _ _ _ _).mono ?_;simp only[hq3];rintro e w' ⟨rfl,rfl⟩) | (go_at_call 58;refine(CF _ _).mono ?_;simp only[hq3];rintro e w' ⟨rfl,rfl⟩))
 all_goals go_ret
 all_goals exact⟨Aq (by first | (simp[opG,hq3,hk1,hk2,hk3,hk4,hk5,hk8,hk9,hk10,hk11,hk18,hk19];done) | (simp_all[opG];done)),by first |exact bx |exact(Below.refl _ _).alloc (Nat.le_refl _) _ |exact below_drewN ((Below.refl _ _).alloc (Nat.le_refl _) _) _⟩
def fn0:F2:=⟨0,[]⟩
def DI (x:F2):Bool:=inB x.f 0 20&& inB (x.os.length:Int) 1 3000
def FI (x:F2):Int:=(x.os.getD (x.os.length - 1) ⟨0,0,0⟩).c
def Gw (x:F2):Bool:=(FI x==7) || (FI x==19) || (FI x==21)
def Dp (fs:List F2) (i:Nat):Bool:=(fs.getD i fn0).os.all (Ei fs i)&& Gw (fs.getD i fn0)
def A3 (fs:List F2):Bool:=(inB (fs.length:Int) 1 60&& ((fs.getD 0 fn0).f==0))&& (fs.all DI&& (List.range fs.length).all (Dp fs))
theorem DJ {fs:List F2}{i:Nat}(h:i < fs.length):fs.getD i fn0=fs[i]:=by rw[List.getD_eq_getElem?_getD,List.getElem?_eq_getElem h];rfl
theorem MX {fs:List F2}(h:(inB (fs.length:Int) 1 60&& ((fs.getD 0 fn0).f==0))=false):A3 fs=false:=by unfold A3;rw[h];rfl
theorem MY {fs:List F2}{i:Nat}(hi:i < fs.length) (h:DI fs[i]=false):A3 fs=false:=by
 have:fs.all DI=false:=by
  rw[List.all_eq_false];exact⟨_,List.getElem_mem hi,by simp[h]⟩
 unfold A3;rw[this];simp
theorem MZ {fs:List F2}{i:Nat}(hi:i < fs.length) (h:Dp fs i=false):A3 fs=false:=by
 have:(List.range fs.length).all (Dp fs)=false:=by
  rw[List.all_eq_false];exact⟨i,List.mem_range.2 hi,by simp[h]⟩
 unfold A3;rw[this];simp
theorem U8 {fs:List F2}{i k:Nat}(hi:i < fs.length) (hk:k < fs[i].os.length) (h:Ei fs i fs[i].os[k]=false):Dp fs i=false:=by
 unfold Dp;rw[DJ hi];have:fs[i].os.all (Ei fs i)=false:=by
  rw[List.all_eq_false];exact⟨_,List.getElem_mem hk,by simp[h]⟩
 rw[this];rfl
theorem U9 {fs:List F2}{i:Nat}(hi:i < fs.length) (h:Gw fs[i]=false):Dp fs i=false:=by
 unfold Dp;rw[DJ hi,h];simp
theorem Va {fs:List F2}(h0:(inB (fs.length:Int) 1 60&& ((fs.getD 0 fn0).f==0))=true) (h1:∀j (h:j < fs.length),DI fs[j]=true) (h2:∀j,j < fs.length→Dp fs j=true):A3 fs=true:=by
 unfold A3;rw[h0,Bool.true_and,Bool.and_eq_true,List.all_eq_true,List.all_eq_true];refine⟨fun x hx=> ?_,fun j hj=>h2 j (List.mem_range.1 hj)⟩;obtain⟨j,hj,rfl⟩:=List.mem_iff_getElem.1 hx;exact h1 j hj
theorem Vb {fs:List F2}{i:Nat}(hi:i < fs.length) (h:∀k (hk:k < fs[i].os.length),Ei fs i fs[i].os[k]=true) (hl:Gw fs[i]=true):Dp fs i=true:=by
 unfold Dp;rw[DJ hi,hl,Bool.and_true,List.all_eq_true];intro x hx;obtain⟨k,hk,rfl⟩:=List.mem_iff_getElem.1 hx;exact h k hk
theorem Vc {x:F2}{E:Nat}(hE:x.os.length=E) (h:0 < E):∃hk:E - 1 < x.os.length,(x.os[E - 1]).c=FI x:=by
 subst hE;refine⟨by omega,?_⟩;unfold FI;rw[List.getD_eq_getElem?_getD,List.getElem?_eq_getElem (by omega)];rfl
theorem Tryz.infoFun:(Tryz.prog.info? 68).map (fun i=>(i.zero,i.size,i.bytes))=some (some (.agg #[.int .i64 0,.slice none 0 0]),2,32):=by kernel_rfl
def OwnH (base hi:Nat) (w:World) (v:Value) (fs:List F2):Prop:=∃fl:List (Int×Value),(w.ownsRow base 68 2 v fs.length (flat Cu fl)∧fl.length=fs.length∧
 (∀j (h:j < fl.length) (h':j < fs.length),fl[j].1=fs[j].f∧w.ownsRow base 65 3 fl[j].2 fs[j].os.length (flat O3.enc fs[j].os))∧(∀x∈fl,Blk v x.2)∧fl.Pairwise (fun x y=>Blk x.2 y.2))∧
 (∀q,v.ownBlock=some q→q < hi)∧ ∀x∈fl,∀q,x.2.ownBlock=some q→q < hi
theorem OwnF.to_h {base:Nat}{w:World}{v:Value}{fs:List F2}(h:OwnF base w v fs):OwnH base w.heap.size w v fs:=by
 obtain⟨fl,h1,h2,h3,h4⟩:=h;refine⟨fl,⟨h1,h2,h3,h4⟩,Af h1,fun x hx q hq=> ?_⟩;obtain⟨j,hj,rfl⟩:=List.mem_iff_getElem.1 hx;exact Af (h3 j hj (by omega)).2 q hq
theorem OwnH.to_f {base hi:Nat}{w:World}{v:Value}{fs:List F2}(h:OwnH base hi w v fs):OwnF base w v fs:=by
 obtain⟨fl,h1,_⟩:=h;exact⟨fl,h1⟩
theorem Pa {base hi:Nat}{e:TypeId}{sz n:Nat}{w w':World}{v:Value}{xs:List Value}(h:w.ownsRow base e sz v n xs) (hv:∀q,v.ownBlock=some q→q < hi) (hs:∀k,base≤k→k < hi→w'.heap[k]?=w.heap[k]?):w'.ownsRow base e sz v n xs:=by
 refine⟨h.1,?_⟩;rcases h.2 with hn |⟨b,cap,cur,rfl,hbs,hg,rest⟩
 ·exact .inl hn
 ·exact .inr ⟨b,cap,cur,rfl,hbs,by rw[hs b hbs (hv b rfl)];exact hg,rest⟩
theorem OwnH.same {base hi:Nat}{w w':World}{v:Value}{fs:List F2}(h:OwnH base hi w v fs) (hs:∀k,base≤k→k < hi→w'.heap[k]?=w.heap[k]?):OwnH base hi w' v fs:=by
 obtain⟨fl,⟨h1,h2,h3,h4⟩,h5,h6⟩:=h;exact⟨fl,⟨Pa h1 h5 hs,h2,fun j a b=>⟨(h3 j a b).1,Pa (h3 j a b).2 (h6 _ (List.getElem_mem a)) hs⟩,h4⟩,h5,h6⟩
theorem OwnH.mono {base hi hi':Nat}{w:World}{v:Value}{fs:List F2}(h:OwnH base hi w v fs) (hh:hi≤hi'):OwnH base hi' w v fs:=by
 obtain⟨fl,h1,h5,h6⟩:=h;exact⟨fl,h1,fun q hq=>Nat.lt_of_lt_of_le (h5 q hq) hh,fun x hx q hq=>Nat.lt_of_lt_of_le (h6 x hx q hq) hh⟩
theorem OwnH.row {base hi:Nat}{w:World}{v:Value}{fs:List F2}(h:OwnH base hi w v fs):∃xs,w.ownsRow base 68 2 v fs.length xs∧ ∀q,v.ownBlock=some q→base≤q∧q < hi:=by
 obtain⟨fl,⟨h1,_⟩,h5,_⟩:=h;exact⟨_,h1,fun q hq=>⟨(h1.lt q hq).1,h5 q hq⟩⟩
theorem OwnH.form {base hi:Nat}{w:World}{v:Value}{fs:List F2}(h:OwnH base hi w v fs):∃a cap,v= .slice a fs.length cap:=by
 obtain⟨xs,h1,_⟩:=h.row;exact AC h1
theorem OwnH.nil {base hi:Nat}{w:World}{v:Value}(h:w.ownsRow base 68 2 v 0 []) (hv:∀q,v.ownBlock=some q→q < hi):OwnH base hi w v []:=
 ⟨[],⟨h,rfl,fun j a=>absurd a (by simp),fun x hx=>by simp at hx,List.Pairwise.nil⟩,hv,fun x hx=>by simp at hx⟩
theorem YS {base:Nat}{e:TypeId}{sz n:Nat}{w:World}{v:Value}{xs ys:List Value}(h:w.ownsRow base e sz v n xs) (k:w.ownsRow base e sz v n ys):xs=ys:=by
 have hl:=h.1;have kl:=k.1;rcases h.2 with ⟨rfl,h0⟩ |⟨g,cap,cur,hv,hb,hg,hn,hm,hc,ht⟩
 ·subst h0;rw[Nat.zero_mul]at hl kl;rw[List.eq_nil_of_length_eq_zero hl,List.eq_nil_of_length_eq_zero kl]
 ·rcases k.2 with ⟨kv,_⟩ |⟨g',cap',cur',kv,kb,kg,kn,km,kc,kt⟩
  ·rw[hv]at kv;cases kv
  ·rw[hv]at kv;cases kv
   rw[hg]at kg;cases kg
   rw[←ht,←kt]
theorem OwnH.snoc {base hi:Nat}{W W':World}{v v' u:Value}{fs:List F2}{x:F2}(h:OwnH base hi W v fs) (ho:W.ownsRow base 65 3 u x.os.length (flat O3.enc x.os)) (hu:∀q,u.ownBlock=some q→hi≤q)
  (hhi:hi≤W.heap.size) (hg:W.grownBy W' v.ownBlock) (hr:∀xs,W.ownsRow base 68 2 v fs.length xs→W'.ownsRow base 68 2 v' (fs.length+1) (xs++ [.int .i64 x.f,u]))
  (hv':v'.ownBlock=v.ownBlock∨v'.ownBlock=some (W.heap.size+1)):OwnH base W'.heap.size W' v' (fs++ [x]):=by
 obtain⟨fl,⟨h1,h2,h3,h4,h5⟩,h6,h7⟩:=h;have hoc:=Af ho;have hnew:W'.ownsRow base 68 2 v' (fs++ [x]).length (flat Cu (fl++ [(x.f,u)])):=by
  rw[LL,List.length_append];exact hr _ h1
 have hvu:Blk v u:=fun p q hp hq=>by have:=h6 p hp;have:=hu q hq;omega
 have hko:W'.ownsRow base 65 3 u x.os.length (flat O3.enc x.os):=ho.kept hg (by
  cases hq:u.ownBlock with
  |none=>exact .inl rfl
  |some k=>exact .inr (fun hh=>hvu k k hh.symm hq rfl))
 have hke:∀j (h:j < fl.length) (h':j < fs.length),W'.ownsRow base 65 3 fl[j].2 fs[j].os.length (flat O3.enc fs[j].os):=fun j a b=>(h3 j a b).2.kept hg (by
  cases hq:fl[j].2.ownBlock with
  |none=>exact .inl rfl
  |some k=>exact .inr (fun hh=>h4 _ (List.getElem_mem a) k k hh.symm hq rfl))
 have hsz:=hg.size;have hblk:∀y∈fl++ [(x.f,u)],Blk v' y.2∧ ∀q,y.2.ownBlock=some q→q < W.heap.size:=by
  intro y hy;have:Blk v y.2∧ ∀q,y.2.ownBlock=some q→q < W.heap.size:=by
   rcases List.mem_append.1 hy with hy |hy
   ·exact⟨h4 y hy,fun q hq=>Nat.lt_of_lt_of_le (h7 y hy q hq) hhi⟩
   ·rw[List.mem_singleton]at hy;subst hy;exact⟨hvu,hoc⟩
  refine⟨fun p q hp hq=> ?_,this.2⟩;rcases hv' with e |e
  ·exact this.1 p q (e▸hp) hq
  ·rw[e]at hp;cases hp
   have:=this.2 q hq;omega
 refine⟨fl++ [(x.f,u)],⟨hnew,by simp[h2],fun j a b=> ?_,fun y hy=>(hblk y hy).1,?_⟩,Af hnew,fun y hy q hq=>Nat.lt_of_lt_of_le ((hblk y hy).2 q hq) hsz⟩
 ·by_cases hj:j < fl.length
  ·have hj':j < fs.length:=by omega
   rw[List.getElem_append_left hj,List.getElem_append_left hj'];exact⟨(h3 j hj hj').1,hke j hj hj'⟩
  ·have e1:j=fl.length:=by simp at a;omega
   subst e1;rw[List.getElem_append_right (Nat.le_refl _),List.getElem_append_right (by omega)];simp only[h2,Nat.sub_self,List.getElem_cons_zero];exact⟨trivial,hko⟩
 ·rw[List.pairwise_append];refine⟨h5,List.pairwise_singleton _ _,fun a ha b hb p q hp hq=> ?_⟩;rw[List.mem_singleton]at hb;subst hb;have:=h7 a ha p hp;have:=hu q hq;omega
theorem OwnH.grown {base hi:Nat}{w w':World}{row:Option Nat}{v:Value}{fs:List F2}(h:OwnH base hi w v fs) (g:w.grownBy w' row) (hh:hi≤w.heap.size) (hr:∀r,row=some r→r < base∨hi≤r):OwnH base hi w' v fs:=
 h.same (fun q h1 h2=>g.block q (by omega) (fun e=>by have:=hr q e.symm;omega))
theorem OwnH.below {base hi B:Nat}{w w':World}{v:Value}{fs:List F2}(h:OwnH base hi w v fs) (b:Below B w w') (hh:hi≤B):OwnH base hi w' v fs:=
 h.same (fun q h1 h2=>b.block q (by omega))
theorem Bx.put {w:World}{g:Nat}{cur:Array Value}(h:Bx w g cur) (i:Nat) (hi:i < cur.size) (u:Value):Bx (w.setCell ⟨g,i,none⟩ u) g (cur.setIfInBounds i u):=by
 refine⟨by rw[World.size_setCell];exact h.1,fun j=> ?_,fun j=>by rw[World.frozen?_setCell];exact h.2.2 j⟩;by_cases hj:i=j
 ·subst hj;rw[World.cell?_setCell_same _ _ _ ((h.2.1 i).trans (Array.getElem?_eq_getElem hi))];simp[hi]
 ·rw[World.cell?_setCell_other _ _ _ _ (by intro he;injection he;exact hj (by assumption)),h.2.1 j,Array.getElem?_setIfInBounds_ne hj]
theorem Tryz.infoCall:(Tryz.prog.info? 63).map (fun i=>(i.zero,i.size,i.bytes))=some (some (.agg #[.int .i64 0,.int .i64 0,.int .i64 0]),3,24):=by kernel_rfl
structure VmL where
 fs:List F2
 zs:List Int
 h:Int
 b:Int
 n:Int
 ss:List Int
 cs:List O3
 os:List Int
 code:Int
 each:Bool
structure RdV (B:Nat) (w:World) (fv hv sv cv ov:Value) (L:VmL):Prop where
 f:RdF B w fv L.fs
 z:Rd B .i64 w hv L.zs
 s:Rd B .i64 w sv L.ss
 c:RdO B w cv L.cs
 o:Rd B .i64 w ov L.os
theorem RdV.below' {B:Nat}{w w':World}{fv hv sv cv ov:Value}{L:VmL}(h:RdV B w fv hv sv cv ov L) (hb:Below w.heap.size w w'):RdV w.heap.size w' fv hv sv cv ov L:=
 ⟨h.f.below' hb,h.z.below' hb,h.s.below' hb,RdE.below' h.c hb,h.o.below' hb⟩
theorem RdV.below {B B':Nat}{w w':World}{fv hv sv cv ov:Value}{L:VmL}(h:RdV B w fv hv sv cv ov L) (hb:Below B' w w') (hB:B≤B'):RdV B w' fv hv sv cv ov L:=
 ⟨h.f.below hb hB,h.z.below hb hB,h.s.below hb hB,RdE.below h.c hb hB,h.o.below hb hB⟩
def vmV (fv hv sv cv ov:Value) (L:VmL):Value:= .agg #[fv,hv,.int .i64 L.h,.int .i64 L.b,.int .i64 L.n,sv,cv,ov,.int .i64 L.code,.bool L.each]
def CA (L:VmL):Nat:=(L.fs.length+tot L.fs)+L.zs.length+L.ss.length+L.cs.length+L.os.length
end Go.Proofs.YtfmebaafpfkeiaaGreat
end
section
namespace Go.Proofs.YtfmebaafpfkeiaaGreat
open Go.ChangeShapes Go.WideShapes Go.ChangeAt Go.RowKit
def EQ (L:VmL):Prop:=(∀x∈L.fs,Gv x)∧GT L.zs∧(-9223372036854775808≤L.h∧L.h≤9223372036854775807)∧(-9223372036854775808≤L.b∧L.b≤9223372036854775807)∧(-9223372036854775808≤L.n∧L.n≤9223372036854775807)∧
 GT L.ss∧(∀x∈L.cs,FU x)∧GT L.os∧(-9223372036854775808≤L.code∧L.code≤9223372036854775807)
end Go.Proofs.YtfmebaafpfkeiaaGreat
end
section
namespace Go.Proofs.YtfmebaafpfkeiaaGreat
open Go.RowKit
def c0:O3:=⟨0,0,0⟩
def CI (fs:List F2) (ns:Nat) (cs:List O3) (i:Nat):Bool:=
 (inB (cs.getD i c0).c 0 ((fs.length:Int) - 1)&& inB (cs.getD i c0).n 0 (((fs.getD (cs.getD i c0).c.toNat fn0).os.length:Int) - 1))&& (inB (cs.getD i c0).m 1 ((ns:Int) - 1)&& (decide (i=0) || decide ((cs.getD (i - 1) c0).m < (cs.getD i c0).m)))
def En (fs:List F2) (ns:Nat) (cs:List O3):Bool:=(List.range cs.length).all (CI fs ns cs)
def BY (fs:List F2) (ns:Nat) (cs:List O3) (code:Int):Bool:=En fs ns cs&& (decide (cs.length≤120)&& ((code !=0) || decide (0 < cs.length)))
theorem Ho {fs:List F2}{ns:Nat}{cs:List O3}{i:Nat}(hi:i < cs.length) (h:CI fs ns cs i=false):En fs ns cs=false:=by
 unfold En;rw[List.all_eq_false];exact⟨i,List.mem_range.2 hi,by simp[h]⟩
theorem Qi {fs:List F2}{ns:Nat}{cs:List O3}(h:∀j,j < cs.length→CI fs ns cs j=true):En fs ns cs=true:=by
 unfold En;rw[List.all_eq_true];exact fun j hj=>h j (List.mem_range.1 hj)
theorem Lu {cs:List O3}{i:Nat}(h:i < cs.length):cs.getD i c0=cs[i]:=by rw[List.getD_eq_getElem?_getD,List.getElem?_eq_getElem h];rfl
theorem Qj {B:Nat}(fv hv sv cv ov:Value) (L:VmL) (w:World) (hr:RdV B w fv hv sv cv ov L) (hl:CA L≤1048576):
  Calls Tryz.prog 55 #[vmV fv hv sv cv ov L] w fun e w'=>e= .returned (.bool (BY L.fs L.ss.length L.cs L.code))∧Below w.heap.size w w':=by
 obtain⟨fs,zs,h,b,n,ss,cs,os,code,each⟩:=L;unfold CA at hl;dsimp only at hl ⊢;have RF:=Lib.hid (fun(W:World) (hb:Below w.heap.size w W)=>hr.f.below' hb);have RC:=Lib.hid (fun(W:World) (hb:Below w.heap.size w W)=>RdE.below' hr.c hb);obtain⟨fa,fc,rfl⟩:=hr.f.form;obtain⟨ha,hc,rfl⟩:=hr.z.form;obtain⟨sa,sc,rfl⟩:=hr.s.form;obtain⟨ca,cc,rfl⟩:=hr.c.form;obtain⟨oa,oc,rfl⟩:=hr.o.form;clear hr;unfold vmV;dsimp only at RF RC ⊢;have e1:IntKind.i64.wrap ((fs.length:Int) - 1)= (fs.length:Int) - 1:=IntWalk.i64_in _ (by omega);have e2:IntKind.i64.wrap ((ss.length:Int) - 1)= (ss.length:Int) - 1:=IntWalk.i64_in _ (by omega);have HW:=Lib.hid (fun(a b c:Int) (W:World)=>(AT a b c W).mono (fun e w' h=>And.intro h.1 h.2.symm));go_enter Tryz.func55,Tryz.ntmps55;go_wp2_with fail;generalize hx:w.alloc _=x;obtain⟨bx,k1⟩:=Bx.alloc hx;clear hx;have qx:=k1.2.1;have BX:=Lib.hid bx;have K1:=Lib.hid k1;have hxz:=bx.size;clear bx k1;go_wp2;clear qx
 go_loopw [8] (fun i wr=>∃k:Nat,k≤cs.length∧i= .int .i64 k∧Below x.heap.size x wr∧Hid (∀j,j < k→CI fs ss.length cs j=true)) (fun i _=>cs.length - (intOf i).toNat)
 case atStart=>exact⟨0,Nat.zero_le _,rfl,Below.refl _ _,Lib.hid (fun j h=>absurd h (by omega))⟩
 case round=>
  obtain⟨k,hk,rfl,hb,hd⟩:=hrel;have hbw:=BX.out.trans (hb.mono hxz);have k1:=K1.out.below hb K1.out.1;have q1:=k1.2.1;have y1:=k1.1;by_cases hlt:k < cs.length
  ·obtain⟨bo,offo,capo,hso,_,hbso,_,d0,d1,d2⟩:=RdO.at_ (RC.out _ hbw) hlt;cases hso
   have hkl:(k:Int) < (cs.length:Int):=by omega
   obtain⟨o,ho⟩:∃o,cs[k]=o:=⟨_,rfl⟩;have hog:cs.getD k c0=o:=by rw[Lu hlt,ho]
   rw[ho]at d0 d1 d2;obtain⟨a,p,m⟩:=o;dsimp only at d0 d1 d2;have HOG:=Lib.hid hog;have HB:=Lib.hid hb;have HBW:=Lib.hid hbw;have hbz:=hb.size;have HRF:=Lib.hid (fun(W:World) (h:Below wr.heap.size wr W)=>RF.out W (HBW.out.trans (h.mono (by have:=HBW.out.size;omega))));clear ho hog hb hbw k1;go_wp2_with fail;generalize hz:wr.alloc _=z;obtain⟨bz,kz⟩:=Bx.alloc hz;clear hz;replace q1:∀j:Nat,z.cell? ⟨w.heap.size,j,none⟩=_:=fun j=>(bz.cell (p:=⟨w.heap.size,j,none⟩) y1).trans (q1 j);have qz:=kz.2.1;have HD0:=Lib.hid (fun(t:Nat)=>bz.cell (p:=⟨bo,t,none⟩) hbso);have BZ:=Lib.hid bz;have hzz:=bz.size;clear bz kz d0 d1 d2;have HB4:=Lib.hid (HB.out.trans (BZ.out.mono HB.out.size));by_cases ha:inB a 0 ((fs.length:Int) - 1)=true
   ·have ha2:=Aw.1 ha;obtain⟨ka,rfl⟩:∃k:Nat,a= (k:Int):=⟨a.toNat,by omega⟩;have hka:ka < fs.length:=by omega
    obtain⟨bf,offf,capf,lv,hsf,_,hbsf,_,_,c1,ro⟩:=(HRF.out _ BZ.out).at_ hka;cases hsf
    obtain⟨la,lc,rfl⟩:=ro.form;obtain⟨E,hE⟩:∃E,fs[ka].os.length=E:=⟨_,rfl⟩;rw[hE]at c1;have hEb:E≤1048576:=by have:=MW (List.getElem_mem hka);omega
    have hFE:(fs.getD (ka:Int).toNat fn0).os.length=E:=by rw[Int.toNat_natCast,DJ hka,hE]
    have HFE:=Lib.hid hFE;have e3:IntKind.i64.wrap ((E:Int) - 1)= (E:Int) - 1:=IntWalk.i64_in _ (by omega);have hka0:(0:Int)≤ (ka:Int):=by omega
    have hka1:(ka:Int) < (fs.length:Int):=by omega
    have H1:=Lib.hid (fun(W:World)=>(by have:=HW.out (ka:Int) 0 ((fs.length:Int) - 1) W;rw[ha]at this;exact this:Calls Tryz.prog 54 #[.int .i64 (ka:Int),.int .i64 0,.int .i64 ((fs.length:Int) - 1)] W _));have HA:=Lib.hid ha;clear ro hE hFE ha2 ha;by_cases hp:inB p 0 ((E:Int) - 1)=true
    ·have H2:=Lib.hid (fun(W:World)=>(by have:=HW.out p 0 ((E:Int) - 1) W;rw[hp]at this;exact this:Calls Tryz.prog 54 #[.int .i64 p,.int .i64 0,.int .i64 ((E:Int) - 1)] W _));have HP:=Lib.hid hp;clear hp;by_cases hm:inB m 1 ((ss.length:Int) - 1)=true
     ·have H3:=Lib.hid (fun(W:World)=>(by have:=HW.out m 1 ((ss.length:Int) - 1) W;rw[hm]at this;exact this:Calls Tryz.prog 54 #[.int .i64 m,.int .i64 1,.int .i64 ((ss.length:Int) - 1)] W _));have HM:=Lib.hid hm;clear hm;by_cases hk0:k=0
      ·subst hk0;go_quiet ((go_at_call 54;first | (with_reducible exact Calls.quiet_of_same (H1.out _)) | (with_reducible exact Calls.quiet_of_same (H2.out _)) | (with_reducible exact Calls.quiet_of_same (H3.out _))));go_wp2;go_roundw
       case rel=>exact⟨1,hlt,by go_num,below_drewN HB4.out nq,Lib.hid (fun j hj=>by
        obtain rfl:j=0:=by omega
        unfold CI;rw[HOG.out];dsimp only;rw[HFE.out,HA.out,HP.out,HM.out];rfl)⟩
       case measure=>simp[intOf];omega
      ·obtain⟨kp,rfl⟩:∃kp,k=kp+1:=⟨k - 1,by omega⟩;obtain⟨b2,off2,cap2,hs2,_,_,_,_,_,c5⟩:=RdO.at_ (RC.out _ (HBW.out.trans (BZ.out.mono (by have:=HBW.out.size;omega)))) (show kp < cs.length by omega);cases hs2
       obtain⟨pm,hpm⟩:∃pm,cs[kp].m=pm:=⟨_,rfl⟩;rw[hpm]at c5;have HPM:=Lib.hid (show(cs.getD kp c0).m=pm by rw[Lu (by omega),hpm]);have e4:IntKind.i64.wrap (((kp+1:Nat):Int) - 1)= (kp:Int):=by rw[IntWalk.i64_in _ (by omega)];omega
       have e5:IntKind.i64.wrap ((kp:Int)+1 - 1)= (kp:Int):=by rw[IntWalk.i64_in _ (by omega)];omega
       have hg0:(0:Int) < (kp:Int)+1:=by omega
       have hkp:(kp:Int) < (cs.length:Int):=by omega
       by_cases hlm:m≤pm
       ·have HBAD:=Lib.hid (Ho (fs:=fs) (ns:=ss.length) hlt (by
         unfold CI;rw[HOG.out,Nat.add_sub_cancel,HPM.out];dsimp only;rw[show decide (pm < m)=false by simp;omega];simp))
        clear hpm;go_quiet ((go_at_call 54;first | (with_reducible exact Calls.quiet_of_same (H1.out _)) | (with_reducible exact Calls.quiet_of_same (H2.out _)) | (with_reducible exact Calls.quiet_of_same (H3.out _))));go_wp2;go_ret;exact⟨Aq (by unfold BY;rw[HBAD.out];rfl),BX.out.trans ((below_drewN HB4.out nq).mono hxz)⟩
       ·have hlm2:¬(m≤pm):=hlm;clear hpm;go_quiet ((go_at_call 54;first | (with_reducible exact Calls.quiet_of_same (H1.out _)) | (with_reducible exact Calls.quiet_of_same (H2.out _)) | (with_reducible exact Calls.quiet_of_same (H3.out _))));go_wp2;go_roundw
        case rel=>exact⟨kp+1+1,hlt,by go_num,below_drewN HB4.out nq,Lib.hid (fun j hj=>by
         by_cases e:j=kp+1
         ·subst e;unfold CI;rw[HOG.out,Nat.add_sub_cancel,HPM.out];dsimp only;rw[HFE.out,HA.out,HP.out,HM.out,show decide (pm < m)=true by simp;omega];simp
         ·exact hd.out j (by omega))⟩
        case measure=>simp[intOf];omega
     ·have hm:inB m 1 ((ss.length:Int) - 1)=false:=by simpa using hm
      have H3:=Lib.hid (fun(W:World)=>(by have:=HW.out m 1 ((ss.length:Int) - 1) W;rw[hm]at this;exact this:Calls Tryz.prog 54 #[.int .i64 m,.int .i64 1,.int .i64 ((ss.length:Int) - 1)] W _));have HBAD:=Lib.hid (Ho (fs:=fs) (ns:=ss.length) hlt (by
       unfold CI;rw[HOG.out];dsimp only;rw[hm];simp))
      clear hm;go_quiet ((go_at_call 54;first | (with_reducible exact Calls.quiet_of_same (H1.out _)) | (with_reducible exact Calls.quiet_of_same (H2.out _)) | (with_reducible exact Calls.quiet_of_same (H3.out _))));go_wp2;go_ret;exact⟨Aq (by unfold BY;rw[HBAD.out];rfl),BX.out.trans ((below_drewN HB4.out nq).mono hxz)⟩
    ·have hp:inB p 0 ((E:Int) - 1)=false:=by simpa using hp
     have H2:=Lib.hid (fun(W:World)=>(by have:=HW.out p 0 ((E:Int) - 1) W;rw[hp]at this;exact this:Calls Tryz.prog 54 #[.int .i64 p,.int .i64 0,.int .i64 ((E:Int) - 1)] W _));have H3:=H2;have HBAD:=Lib.hid (Ho (fs:=fs) (ns:=ss.length) hlt (by
      unfold CI;rw[HOG.out];dsimp only;rw[HFE.out,hp];simp))
     clear hp;go_quiet ((go_at_call 54;first | (with_reducible exact Calls.quiet_of_same (H1.out _)) | (with_reducible exact Calls.quiet_of_same (H2.out _)) | (with_reducible exact Calls.quiet_of_same (H3.out _))));go_wp2;go_ret;exact⟨Aq (by unfold BY;rw[HBAD.out];rfl),BX.out.trans ((below_drewN HB4.out nq).mono hxz)⟩
   ·have ha:inB a 0 ((fs.length:Int) - 1)=false:=by simpa using ha
    have H1:=Lib.hid (fun(W:World)=>(by have:=HW.out a 0 ((fs.length:Int) - 1) W;rw[ha]at this;exact this:Calls Tryz.prog 54 #[.int .i64 a,.int .i64 0,.int .i64 ((fs.length:Int) - 1)] W _));have H2:=H1;have H3:=H1;have HBAD:=Lib.hid (Ho (fs:=fs) (ns:=ss.length) hlt (by
     unfold CI;rw[HOG.out];dsimp only;rw[ha];rfl))
    clear ha;go_quiet ((go_at_call 54;first | (with_reducible exact Calls.quiet_of_same (H1.out _)) | (with_reducible exact Calls.quiet_of_same (H2.out _)) | (with_reducible exact Calls.quiet_of_same (H3.out _))));go_wp2;go_ret;exact⟨Aq (by unfold BY;rw[HBAD.out];rfl),BX.out.trans ((below_drewN HB4.out nq).mono hxz)⟩
  ·obtain rfl:k=cs.length:=by omega
   have HYES:=Lib.hid (Qi (fun j hj=>hd.out j hj));have HBW:=Lib.hid hbw;clear hb hbw k1;by_cases hc1:cs.length≤120
   ·have c1:(cs.length:Int)≤120:=by omega
    by_cases hc2:code=0
    ·subst hc2;by_cases hc3:0 < cs.length
     ·have c3:(0:Int) < (cs.length:Int):=by omega
      go_wp2;go_ret;exact⟨Aq (by unfold BY;rw[HYES.out,decide_eq_true hc1,decide_eq_true hc3];rfl),HBW.out⟩
     ·have c3:¬((0:Int) < (cs.length:Int)):=by omega
      go_wp2;go_ret;exact⟨Aq (by unfold BY;rw[HYES.out,decide_eq_true hc1,decide_eq_false hc3];rfl),HBW.out⟩
    ·have c2:(code !=0)=true:=by simp[hc2]
     go_wp2;go_ret;exact⟨Aq (by unfold BY;rw[HYES.out,decide_eq_true hc1,c2];rfl),HBW.out⟩
   ·have c1:¬((cs.length:Int)≤120):=by omega
    go_wp2;go_ret;exact⟨Aq (by unfold BY;rw[HYES.out,decide_eq_false hc1];rfl),HBW.out⟩
end Go.Proofs.YtfmebaafpfkeiaaGreat
end
