/- Parts of the proof of FnDepthsHold. -/
import Derived.Test.YtfmebaafpfkeiaaGreatY32
import Derived.Test.YtfmebaafpfkeiaaGreatY16
import Derived.Test.YtfmebaafpfkeiaaGreatY33
import Derived.Test.YtfmebaafpfkeiaaGreatY46
import Derived.Test.YtfmebaafpfkeiaaGreatY11
import Derived.Test.YtfmebaafpfkeiaaGreatY40
import Derived.Test.YtfmebaafpfkeiaaGreatY17
set_option linter.unusedVariables false
set_option linter.unusedSimpArgs false
set_option maxRecDepth 1000000
set_option maxHeartbeats 16000000
namespace Go.Proofs.YtfmebaafpfkeiaaGreat
open Go.RowKit
def Jg (os:List O3) (r:List Int):Bool:=decide (0 < os.length)&& decide (Fv fol os 200 (F9 os) [0]=some (some r))
theorem QM (k:Nat) (hk:k < 7):∀i,i < (pfs.getD k []).length→Jg ((pfs.getD k []).getD i fn0).os ((pds.getD k []).getD i [])=true:=by
 have key:((List.range 7).all fun k=>(List.range (pfs.getD k []).length).all fun i=>Jg ((pfs.getD k []).getD i fn0).os ((pds.getD k []).getD i []))=true:=by decide+kernel
 intro i hi;rw[List.all_eq_true]at key;have:=key k (List.mem_range.2 hk);rw[List.all_eq_true]at this;exact this i (List.mem_range.2 hi)
def MoZ (k half:Nat) (R:VmL):Prop:=∃j L0,Mo k half j L0∧(R=L0∨R= {L0 with code:=2})
section
variable {k half:Nat}{R:VmL}
theorem MoZ.seen (hk:k < 7) (h:MoZ k half R):SeenR k R:=by
 obtain⟨j,L0,M,rfl |rfl⟩:=h
 ·exact M.seen hk (c:=R.code) (.inl rfl)
 ·exact M.seen hk (.inr rfl)
theorem MoZ.runOk (hk:k < 7) (h:MoZ k half R) (hh:2≤half) (N:Nat):RunOk R N:=by
 have S:=h.seen hk;obtain⟨j,L0,M,rfl |rfl⟩:=h
 ·exact M.runOk hk hh N
 ·exact KD (by show(2:Int)≠0;decide) S.ok S.vin S.sz (M.zlen hh) N
theorem MoZ.next (hk:k < 7) (h:MoZ k half R) (N:Nat):MoZ k half (Ak N R):=by
 obtain⟨j,L0,M,rfl |rfl⟩:=h
 ·obtain⟨j2,L2,no,X⟩:=M.run hk N;rcases X.how with ⟨e,_⟩ |⟨e,_⟩
  ·exact⟨j2,L2,X.mo,.inl e⟩
  ·exact⟨j2,L2,X.mo,.inr e⟩
 ·rw[DX (by show(2:Int)≠0;decide)];exact⟨j,L0,M,.inr rfl⟩
theorem MoZ.start (hk:k < 7) (h1:1≤half) (h2:half≤3000) (each:Bool) (N:Nat):MoZ k half (Ak N (Ba (pfs.getD k []) half each)):=
 MoZ.next hk ⟨0,_,IZ k h1 h2 each,.inl rfl⟩ N
theorem MoZ.z4 (hh:2≤half) (h:MoZ k half R):4≤R.zs.length:=by
 obtain⟨j,L0,M,rfl |rfl⟩:=h
 ·exact M.zlen hh
 ·exact M.zlen hh
structure Going (k:Nat) (R:VmL) (f p:Nat):Prop where
 fs:R.fs=pfs.getD k []
 calls:0 < R.cs.length∧R.cs.length≤120
 fun_:(Ay R).c=f∧f < R.fs.length
 pc:(Ay R).n=p∧p < (R.fs.getD f fn0).os.length
 base:1≤ (Ay R).m∧(Ay R).m≤ (R.ss.length:Int) - 1
 dep:((pds.getD k []).getD f []).getD p (-1)= (R.ss.length:Int) - (Ay R).m
 sl:R.ss.length≤600
theorem MoZ.going (hk:k < 7) (h:MoZ k half R) (hc:R.code=0):∃f p,Going k R f p:=by
 obtain⟨j,L0,M,rfl |rfl⟩:=h
 ·have Q:=M.moment hk;obtain⟨ha,E,b,n,ps,S⟩:=M;have hc':(As (pfs.getD k []) j AG).code=0:=by rw[←S.code];exact hc
  obtain⟨c1,⟨f,p,f1,f2,f3,f4⟩,c3⟩:=Pi Q.ok hc';have et:Ay R=Ah (As (pfs.getD k []) j AG):=by unfold Ay Ah;rw[S.cs]
  have hd:=(Q.go hc').2;unfold Ld at hd;rw[decide_eq_true_eq,f1,f3,Int.toNat_natCast,Int.toNat_natCast]at hd;have hok:=Q.ok;simp only[okA,Bool.and_eq_true,decide_eq_true_eq]at hok;refine⟨f,p,S.lf,by rw[S.cs];exact c1,by rw[et,S.lf];exact⟨f1,f2⟩,by rw[et,S.lf];exact⟨f3,f4⟩,by rw[et,S.ss.1];exact c3,by rw[et,S.ss.1];exact hd,by rw[S.ss.1];exact hok.1.1⟩
 ·exact absurd hc (by show ¬(2:Int)=0;decide)
end
theorem QS (os:List O3) (p:Nat) (hp:p < os.length):opT os p∈os:=by
 unfold opT;rw[Int.toNat_natCast,List.getD_eq_getElem?_getD,List.getElem?_eq_getElem hp];exact List.getElem_mem hp
def opB (o:O3):Bool:=inB o.c 1 21&& (inB o.n (-2147483648) 2147483648&& inB o.m (-2147483648) 2147483648)
theorem QT (k:Nat) (hk:k < 7):(pfs.getD k []).all (fun x=>x.os.all opB)=true∧(List.range (pfs.getD k []).length).all (fun i=>decide (((pds.getD k []).getD i []).length= ((pfs.getD k []).getD i fn0).os.length)&& decide (((pfs.getD k []).getD i fn0).os.length≤3000))=true:=by
 have hk':k=0∨k=1∨k=2∨k=3∨k=4∨k=5∨k=6:=by omega
 rcases hk' with rfl |rfl |rfl |rfl |rfl |rfl |rfl <;> decide+kernel
theorem QU (k:Nat) (hk:k < 7) (f:Nat) (hf:f < (pfs.getD k []).length) {B:Nat}(fv:Value) (w:World) (hr:RdF B w fv (pfs.getD k [])):
  ((pds.getD k []).getD f []).length= ((pfs.getD k []).getD f fn0).os.length∧
  Calls Tryz.prog 26 #[fv,.int .i64 f] w fun e w'=>∃v,e= .returned (.tuple #[v,.bool true])∧Rd w'.heap.size .i64 w' v ((pds.getD k []).getD f [])∧Below w.heap.size w w':=by
 obtain⟨_,_,p3⟩:=DY k hk;obtain⟨o1,o2⟩:=QT k hk;rw[List.all_eq_true]at o1 o2 p3;have hfl:=KL (Dc k hk).2;have hd:=QM k hk f hf;unfold Jg at hd;rw[Bool.and_eq_true,decide_eq_true_eq,decide_eq_true_eq]at hd;have h2:=o2 f (List.mem_range.2 hf);rw[Bool.and_eq_true,decide_eq_true_eq,decide_eq_true_eq]at h2;refine⟨h2.1,?_⟩;have hm:(pfs.getD k []).getD f fn0∈pfs.getD k []:=by rw[DJ hf];exact List.getElem_mem hf
 have h3:=o1 _ hm;rw[List.all_eq_true]at h3;have:=QL fv (pfs.getD k []) f w hr (fun x hx=>Lf (p3 x hx)) hf hfl.1 (Dc k hk).2 ((pfs.getD k []).getD f fn0).os rfl hd.1 h2.2 (fun p hp=>by
  have h4:=h3 (opT ((pfs.getD k []).getD f fn0).os p) (QS _ p hp);unfold opB at h4;rw[Bool.and_eq_true,Bool.and_eq_true]at h4;exact⟨Aw.1 h4.1,Aw.1 h4.2.1,Aw.1 h4.2.2⟩) _ 200 hd.2
 exact this.mono fun e w' ⟨⟨v,h1,h2⟩,h3⟩=>⟨v,h1,h2,h3⟩
theorem ax (k:Nat) (hk:k < 7) (bs:ByteArray) (hs:bs.data.toList.map UInt8.toNat=BH.getD k []) (half:Nat) (h1:2≤half) (h2:half≤3000) (each:Bool) (n:Int):∃M:VmL,MoZ k half M∧
  ∀w:World,Calls Tryz.prog 11 #[.string bs,.int .i64 half,.bool each,.int .i64 n] w fun e w'=>∃fv hv sv cv ov,e= .returned (.tuple #[vmV fv hv sv cv ov M,.int .i64 0])∧RdV w'.heap.size w' fv hv sv cv ov M∧Below w.heap.size w w':=
 ⟨_,MoZ.start hk (by omega) h2 each (stepsOf n),fun w=>G0 k hk bs ⟨bs,rfl,hs⟩ half h1 h2 each n w⟩
theorem PW {k:Nat}{A:VmL}(Sn:SeenR k A) (fv hv sv cv ov:Value) (w:World):Calls Tryz.prog 15 #[.agg #[fv,hv,.int .i64 A.h,.int .i64 A.b,.int .i64 A.n,sv,cv,ov,.int .i64 A.code,.bool A.each]] w fun e w'=>e= .returned (.bool true)∧Below w.heap.size w w':=by
 have:=Nk fv hv sv cv ov A w;rw[show Iy A.code=true by rcases Sn.code with h |h |h <;> rw[h] <;> rfl]at this;exact this
theorem RdV.put {base g:Nat}{w W:World}{fv hv sv cv ov:Value}{L:VmL}(rd:RdV w.heap.size w fv hv sv cv ov L) (ap:Apt base w fv sv cv ov L.fs) (hg:g < base) (gT:w.grownBy W (some g)) {a0 a1 a5 a6 a7:Option Addr}{l0 l1 l5 l6 l7 c0 c1 c5 c6 c7:Nat}{x2 x3 x4 x8:Int}{x9:Bool}
  (k:Bx w g #[.slice a0 l0 c0,.slice a1 l1 c1,.int .i64 x2,.int .i64 x3,.int .i64 x4,.slice a5 l5 c5,.slice a6 l6 c6,.slice a7 l7 c7,.int .i64 x8,.bool x9]) (hz:4≤L.zs.length):RdV W.heap.size W fv hv sv cv ov L:=by
 have lo:∀i,(sv.ownBlock=some i∨cv.ownBlock=some i∨ov.ownBlock=some i)→some i≠some g:=fun i hi e=>by
  have:=ap.lo i hi;have:=Option.some.inj e;omega
 exact⟨RdF.of_own (ap.f.to_h.same (fun q h1 h2=>gT.block q h2 (fun e=>by have:=Option.some.inj e;omega))).to_f,rd.z.grow gT (fun i hi e=>G7 rd.z hz k i hi (Option.some.inj e)),rd.s.grow gT (fun i hi=>lo i (.inl hi)),RdO.grow rd.c gT (fun i hi=>lo i (.inr (.inl hi))),rd.o.grow gT (fun i hi=>lo i (.inr (.inr hi)))⟩
def PX (k half:Nat) (w:World) (g:Nat) (W:World):Prop:=w.heap.size≤g∧
 ∃ (R:VmL) (fv hv sv cv ov:Value),MoZ k half R∧RdV W.heap.size W fv hv sv cv ov R∧Bx W g #[fv,hv,.int .i64 R.h,.int .i64 R.b,.int .i64 R.n,sv,cv,ov,.int .i64 R.code,.bool R.each]∧Below w.heap.size w W
theorem az (w:World) (u0:Value) (z0:List Int) (r0:Rd w.heap.size .u8 w u0 z0) (i0:bytesIn z0):
  Calls Tryz.prog 8 #[u0] w fun e w'=>e= .returned (.bool true)∧Below w.heap.size w w':=by
 by_cases hbig:1048576 < z0.length
 ·have HB:=Lib.hid (Dy u0 z0 w r0);rw[decide_eq_true hbig]at HB;obtain⟨a0,c0,rfl⟩:=r0.form;clear r0 i0;go_enter Tryz.func8,Tryz.ntmps8;go_wp2_with fail;refine HB.out.mono ?_;rintro e w1 ⟨rfl,rfl⟩;go_wp2;go_ret;exact⟨rfl,Below.refl _ _⟩
 ·have HB:=Lib.hid (Dy u0 z0 w r0);rw[decide_eq_false hbig]at HB;have HD:=Lib.hid (Gb u0 z0 w r0 i0 (by omega));have HAT:=Lib.hid (fun(W:World) (hb:Below w.heap.size w W) (i:Nat) (hi:i≤1048576)=>P8 u0 z0 W (r0.below' hb) i0 (by omega) i hi);obtain⟨a0,c0,rfl⟩:=r0.form;clear r0 i0;go_enter Tryz.func8,Tryz.ntmps8;go_wp2_with fail;refine HB.out.mono ?_;rintro e w1 ⟨rfl,rfl⟩;clear HB hbig;go_wp2_with fail;refine HD.out.mono ?_;rintro e w1 ⟨⟨x,k,h,b,st,rfl,hk,⟨bs,rfl,hbs⟩,hh,s0,s1⟩,bb⟩;obtain⟨half,rfl,hf1,hf2,hf3⟩:=Is hh;obtain⟨A,hA,hOA⟩:=ax k hk bs hbs half hf1 hf2 b st;have HOA:=Lib.hid hOA;have HS:=Lib.hid (fun(W:World)=>Gx k hk bs hbs W);have HA:=Lib.hid hA;clear HD hh hbs hOA hA;go_wp2_with fail;refine(HOA.out _).mono ?_;rintro e w2 ⟨fv,hv,sv,cv,ov,rfl,rd,b2⟩;obtain⟨fa,fc,ha,hc,sa,sc,ca,cc,oa,oc,rfl,rfl,rfl,rfl,rfl⟩:=rd.forms;replace bb:=bb.trans (b2.mono bb.size);have RA:=Lib.hid rd;have bz2:w.heap.size≤w2.heap.size:=bb.size;clear rd b2 HOA;unfold vmV;go_wp2_with fail;generalize hxx:w2.alloc _=w3;obtain⟨b3,k7⟩:=Bx.alloc hxx;clear hxx;have RA3:=Lib.hid (RA.out.below' b3);replace bb:=bb.trans (b3.mono bb.size);clear RA b3;refine(HS.out _).mono ?_;rintro e w4 ⟨fv6,rfl,b4⟩;have hs:PX k half w w2.heap.size w4:=⟨bz2,A,_,_,_,_,_,HA.out,(RA3.out.below' b4).below' (Below.refl _ _),k7.below b4 k7.1,bb.trans (b4.mono bb.size)⟩;have HST:=Lib.hid hs;clear RA3 b4 HS hs k7 bb;obtain⟨g7,hg⟩:∃g,w2.heap.size=g:=⟨_,rfl⟩;rw[hg]at HST ⊢;clear hg;go_wp2
  go_loopw [11] (fun i W=>∃c:Nat,c≤12∧i= .int .i64 c∧PX k half w g7 W) (fun i _=>12 - (intOf i).toNat)
  case atStart=>exact⟨0,by omega,rfl,HST.out⟩
  case round=>
   clear HST;obtain⟨c,hc,rfl,⟨hgw0,R,fv,hv,sv,cv,ov,hM,rd,k7,hb⟩⟩:=hrel;obtain⟨fa,fc,ha,hcp,sa,sc,ca,cc,oa,oc,rfl,rfl,rfl,rfl,rfl⟩:=rd.forms;have Sn:=Lib.hid (hM.seen hk);have HM:=Lib.hid hM;have BB:=Lib.hid hb;have RD:=Lib.hid rd;clear rd hb;obtain⟨lc,hlc⟩:∃z,R.code=z:=⟨_,rfl⟩;by_cases hgo:c < 12∧lc=0
   ·obtain⟨h12,rfl⟩:=hgo;obtain⟨f,p,G⟩:=hM.going hk hlc;have hci:(c:Int) < 12:=by omega
    rw[hlc]at k7;have HLC:=Lib.hid hlc;clear hlc;obtain⟨i,hi⟩:∃i,R.cs.length - 1=i:=⟨_,rfl⟩;have hil:i < R.cs.length:=by have:=G.calls.1;omega
    have htop:Ay R=R.cs[i]:=by unfold Ay;rw[hi,List.getD_eq_getElem?_getD,List.getElem?_eq_getElem hil];rfl
    have e1:IntKind.i64.wrap ((R.cs.length:Int) - 1)= (i:Int):=by rw[IntWalk.i64_in _ (by have:=G.calls.2;omega)];omega
    obtain⟨cb,coff,ccap,hcv,hcb1,hcb2,hcb3,hcells⟩:=RdE.at_ RD.out.c hil;cases hcv
    obtain⟨tm,htm⟩:∃z,(Ay R).m=z:=⟨_,rfl⟩;rw[←htop]at hcells;have d0:wr.cell? ⟨cb,coff+i*3,none⟩=some (.int .i64 (f:Int)):=by rw[←G.fun_.1];exact hcells 0 (by decide)
    have d1:wr.cell? ⟨cb,coff+i*3+1,none⟩=some (.int .i64 (p:Int)):=by rw[←G.pc.1];exact hcells 1 (by decide)
    have d2:wr.cell? ⟨cb,coff+i*3+2,none⟩=some (.int .i64 tm):=by rw[←htm];exact hcells 2 (by decide)
    have hil':(i:Int) < (R.cs.length:Int):=by omega
    obtain⟨ds,hds⟩:∃ds,(pds.getD k []).getD f []=ds:=⟨_,rfl⟩;have hfl:f < (pfs.getD k []).length:=by rw[←G.fs];exact G.fun_.2
    have hpl:p < ((pfs.getD k []).getD f fn0).os.length:=by rw[←G.fs];exact G.pc.2
    have hdep:=G.dep;have hbs:=G.base;rw[htm]at hdep hbs;have hsl:=G.sl;have HFS:=Lib.hid G.fs;have HDEP:=Lib.hid hdep;clear hcells htop htm hi G hdep;have ck7:=k7.2.1;have yk7:=k7.1;have zk7:=k7.2.2;go_wp2_with fail;clear ck7 yk7 zk7;generalize hxx:wr.alloc _=w5;obtain⟨b5,k12⟩:=Bx.alloc hxx;clear hxx d0 d1 d2;have k75:=k7.below b5 k7.1;have RD5:=Lib.hid (RD.out.below' b5);have bb5:=BB.out.trans (b5.mono BB.out.size);have hdp:=QU k hk f hfl (.slice fa R.fs.length fc) w5 (by rw[←HFS.out];exact RD5.out.f);rw[hds]at hdp;have hdl:p < ds.length:=by rw[hdp.1];exact hpl
    refine hdp.2.mono ?_;rintro e w6 ⟨v,rfl,rv,b6⟩;obtain⟨va,vc,rfl⟩:=rv.form;have k76:=k75.below b6 k75.1;have k126:=k12.below b6 k12.1;have RD6:=Lib.hid (RD5.out.below' b6);have bb6:=bb5.trans (b6.mono bb5.size);have hdv:ds.getD p 0= (R.ss.length:Int) - tm:=by
     have:=HDEP.out;rw[hds]at this;rw[←this,List.getD_eq_getElem?_getD,List.getD_eq_getElem?_getD,List.getElem?_eq_getElem hdl];rfl
    rcases rv with ⟨h',_⟩ |⟨vb,voff,vc',hvv,_,hvb,_,vcell⟩
    ·rw[h']at hdl;simp at hdl
    cases hvv
    have dc:=vcell p hdl;rw[hdv]at dc;have hpi:(p:Int) < (ds.length:Int):=by omega
    have e2:IntKind.i64.wrap ((R.ss.length:Int) - tm)= (R.ss.length:Int) - tm:=IntWalk.i64_in _ (by omega);obtain⟨g12,hg12⟩:∃g,wr.heap.size=g:=⟨_,rfl⟩;rw[hg12]at k126 ⊢;have q5:=k76.2.1 5;have t1:=k126.2.1 1;have t2:=k126.2.1 2;simp at q5 t1 t2;have K76:=Lib.hid k76;have BB6:=Lib.hid bb6;clear k12 k75 b5 b6 RD RD5 bb5 BB hdp vcell HDEP hds hfl hpl hdv hg12 HFS hdl k7 k126 bb6 k76;go_wp2_with fail;refine wp_region_held_drew (S:=(fun w'=>w'.cell? ⟨g7,5,none⟩=some (.slice sa R.ss.length sc)∧w'.cell? ⟨g12,1,none⟩=some (.int .i64 (p:Int))∧w'.cell? ⟨g12,2,none⟩=some (.int .i64 tm)∧w'.cell? ⟨vb,voff+p,none⟩=some (.int .i64 ((R.ss.length:Int) - tm)))) (by kernel_rfl) (by first | (dsimp only;exact⟨q5,t1,t2,dc⟩) | (exact⟨q5,t1,t2,dc⟩)) (fun hHeld=> ?_);refine tkH (i:=0) ?_;refine tkH (i:=1) ?_;refine tkH (i:=2) ?_;refine tkH (i:=3) ?_;refine tkH (i:=4) ?_;refine tkH (i:=5) ?_;refine tkH (i:=6) ?_;refine tkH (i:=7) ?_;refine tkH (i:=8) ?_;refine tkH (i:=9) ?_;refine tkH (i:=11) ?_;refine tkH (i:=12) ?_;refine tkH (i:=10) ?_;refine tkH (i:=13) ?_;refine tkH (i:=14) ?_;refine tkH (i:=15) ?_;refine wpAnyH_done (by kernel_rfl) ?_ _;clear q5 t1 t2 dc;generalize hxd:w6.drew=w7;have hd:Below w6.heap.size w6 w7:=by rw[←hxd];exact(Below.refl _ _).drew
    have k77:=K76.out.below hd K76.out.1;have RD7:=Lib.hid (RD6.out.below' hd);have BB7:=Lib.hid (BB6.out.trans (hd.mono BB6.out.size));clear hxd hd K76 RD6 BB6;have HNX:=Lib.hid (fun(n:Int)=>HM.out.next hk (stepsOf n));have HRK:=Lib.hid (fun(n:Int)=>HM.out.runOk hk hf1 (stepsOf n));go_wp2_with fail;refine AV 7 (S:=(fun w'=>∀j,w'.cell? ⟨g7,j,none⟩= #[.slice fa R.fs.length fc,.slice ha R.zs.length hcp,.int .i64 R.h,.int .i64 R.b,.int .i64 R.n,.slice sa R.ss.length sc,.slice (some ⟨cb,coff,none⟩) R.cs.length cc,.slice oa R.os.length oc,.int .i64 0,.bool R.each][j]?)) (by kernel_rfl) (by kernel_rfl) (by first | (dsimp only;exact k77.2.1) | (exact k77.2.1)) (fun hHeld=> ?_);refine tkT (i:=0) ?_;refine tkT (i:=1) ?_;refine tkT (i:=2) ?_;generalize hxd:w7.drew=w8 at hHeld;have hd:Below w7.heap.size w7 w8:=by rw[←hxd];exact(Below.refl _ _).drew
    have k78:=k77.below hd k77.1;have RD8:=Lib.hid (RD7.out.below' hd);have bb8:=BB7.out.trans (hd.mono BB7.out.size);clear hxd hd k77 RD7 BB7;refine rdT (i:=3) (fun K hK=> ?_);go_simp;refine(HAT.out w8 bb8 c (by omega)).mono ?_;rintro e w9 ⟨y,rfl,hy,rfl⟩;refine bkT hK (by first | (dsimp only;exact hHeld) | (exact hHeld)) (fun hHeld=> ?_);clear hK K;refine tkT (i:=4) ?_;refine tkT (i:=5) ?_;have HV:Hid (∀n:Int,Calls Tryz.prog 24 #[.agg #[.slice fa R.fs.length fc,.slice ha R.zs.length hcp,.int .i64 R.h,.int .i64 R.b,.int .i64 R.n,.slice sa R.ss.length sc,.slice (some ⟨cb,coff,none⟩) R.cs.length cc,.slice oa R.os.length oc,.int .i64 0,.bool R.each],.int .i64 n] w8 fun e w'=>∃ (R':VmL) (fv' hv' sv' cv' ov':Value),MoZ k half R'∧e= .returned (vmV fv' hv' sv' cv' ov' R')∧RdV w'.heap.size w' fv' hv' sv' cv' ov' R'∧Below w8.heap.size w8 w'∧Apt w8.heap.size w' fv' sv' cv' ov' R'.fs):=Lib.hid (fun n=>by
     have:=KO _ _ _ _ _ R n w8 RD8.out (HRK.out n);unfold vmV at this;rw[HLC.out]at this;refine this.mono ?_;rintro e w' ⟨fv',hv',sv',cv',ov',h1,h2,h3,h4⟩;exact⟨_,fv',hv',sv',cv',ov',HNX.out n,h1,h2,h3,by rw[Ej];exact h4⟩)
    refine rdT (i:=6) (fun K hK=> ?_);go_simp;refine(HV.out _).mono ?_;rintro e w10 ⟨R',fv',hv',sv',cv',ov',hM',rfl,rd',b10,ap⟩;obtain⟨fa',fc',ha',hc',sa',sc',ca',cc',oa',oc',rfl,rfl,rfl,rfl,rfl⟩:=rd'.forms;unfold vmV;refine bkT hK (by first | (dsimp only;exact(k78.below b10 k78.1).2.1) | (exact(k78.below b10 k78.1).2.1)) (fun hHeld=> ?_);clear hK K;have hg8:=k78.1;have k710:=k78.below b10 k78.1;have bb10:=bb8.trans (b10.mono bb8.size);have RD':=Lib.hid rd';have AP:=Lib.hid ap;have HM':=Lib.hid hM';have hgw:w.heap.size≤g7:=hgw0;clear k78 rd' ap b10 bb8 RD8 HV hHeld HNX HRK;refine AU (by kernel_rfl) ?_;dsimp only[List.drop];have ck710:=k710.2.1;have yk710:=k710.1;have zk710:=k710.2.2;go_wp2;clear ck710 yk710 zk710;obtain⟨kq,gq⟩:=k710.set10g (.slice fa' R'.fs.length fc') (.slice ha' R'.zs.length hc') (.int .i64 R'.h) (.int .i64 R'.b) (.int .i64 R'.n) (.slice sa' R'.ss.length sc') (.slice ca' R'.cs.length cc') (.slice oa' R'.os.length oc') (.int .i64 R'.code) (.bool R'.each);generalize hxx:World.setCell _ _ _=wy at kq gq ⊢;have rdn:=RD'.out.put AP.out hg8 gq k710 (HM'.out.z4 hf1);have bn:=bb10.trans (Below.of_grown gq bb10.size (fun k hk=>by have:=Option.some.inj hk;omega));go_roundw
    case rel=>exact⟨c+1,by omega,by go_num,⟨hgw,R',_,_,_,_,_,HM'.out,rdn,kq,bn⟩⟩
    case measure=>simp[intOf];omega
   ·by_cases h12:c < 12
    ·have hcn:(lc==0)=false:=by simp;omega
     have hci:(c:Int) < 12:=by omega
     have hl0:¬lc=0:=by omega
     rw[hlc]at k7;have HLC:=Lib.hid hlc;clear hlc;have ck7:=k7.2.1;have yk7:=k7.1;have zk7:=k7.2.2;go_wp2_with fail;clear ck7 yk7 zk7;rw[←HLC.out];refine(PW Sn.out _ _ _ _ _ wr).mono ?_;rintro e w9 ⟨rfl,b9⟩;go_wp2;go_ret;exact⟨rfl,BB.out.trans (b9.mono BB.out.size)⟩
    ·have hci:¬(c:Int) < 12:=by omega
     clear hlc;have ck7:=k7.2.1;have yk7:=k7.1;have zk7:=k7.2.2;go_wp2_with fail;clear ck7 yk7 zk7;refine(PW Sn.out _ _ _ _ _ wr).mono ?_;rintro e w9 ⟨rfl,b9⟩;go_wp2;go_ret;exact⟨rfl,BB.out.trans (b9.mono BB.out.size)⟩
end Go.Proofs.YtfmebaafpfkeiaaGreat
