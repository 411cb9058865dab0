/- Parts of the proof of FnDepthsHold, FnEnds, FnMeant, FnMovedWhenever, FnSizes. -/
import Derived.Test.YtfmebaafpfkeiaaGreatY15
import Derived.Test.YtfmebaafpfkeiaaGreatY17
import Derived.Test.YtfmebaafpfkeiaaGreatY23
import Derived.Test.YtfmebaafpfkeiaaGreatY25
import Derived.Test.YtfmebaafpfkeiaaGreatY26
import Derived.Test.YtfmebaafpfkeiaaGreatY27
import Derived.Test.YtfmebaafpfkeiaaGreatY28
import Derived.Test.YtfmebaafpfkeiaaGreatY29
import Derived.Test.YtfmebaafpfkeiaaGreatY30
import Derived.Test.YtfmebaafpfkeiaaGreatY31
import Derived.Test.YtfmebaafpfkeiaaGreatY24
set_option linter.unusedVariables false
set_option linter.unusedSimpArgs false
set_option maxRecDepth 1000000
set_option maxHeartbeats 16000000
section
namespace Go.Proofs.YtfmebaafpfkeiaaGreat
open Go.RowKit Go.Ev
def pfs:List (List F2):=[pf0,pf1,pf2,pf3,pf4,pf5,pf6]
def GV:List (List Bs):=[Ot,Ou,Ov,Ow,Ox,Oy,Oz]
theorem YX (k:Nat) (hk:k < 7):(GV.getD k []).map Lr=pfs.getD k []∧(GV.getD k []).length≤maxLen∧(∀f∈GV.getD k [],f.2.length≤maxLen)∧0 < (GV.getD k []).length:=by
 have hk':k=0∨k=1∨k=2∨k=3∨k=4∨k=5∨k=6:=by omega
 rcases hk' with rfl |rfl |rfl |rfl |rfl |rfl |rfl <;> decide+kernel
theorem YY (k:Nat) (hk:k < 7):∃p b f uP uC uG,PipeI (BH.getD k []) (GV.getD k []) p b f uP uC uG:=by
 have hk':k=0∨k=1∨k=2∨k=3∨k=4∨k=5∨k=6:=by omega
 rcases hk' with rfl |rfl |rfl |rfl |rfl |rfl |rfl
 ·exact Fj Xo Xv
 ·exact Fj Xp Xw
 ·exact Fj Xq Xx
 ·exact Fj Xr Xy
 ·exact Fj Xs Xz
 ·exact Fj Xt XA
 ·exact Fj Xu XB
theorem YZ (k:Nat) (hk:k < 7):∃p b f uP uC uG,PipeS (BH.getD k []) p b f uP uC uG:=by
 have hk':k=0∨k=1∨k=2∨k=3∨k=4∨k=5∨k=6:=by omega
 rcases hk' with rfl |rfl |rfl |rfl |rfl |rfl |rfl
 ·exact Fk XC XJ
 ·exact Fk XD XK
 ·exact Fk XE XL
 ·exact Fk XF XM
 ·exact Fk XG XN
 ·exact Fk XH XO
 ·exact Fk XI XP
theorem Y0 (k:Nat) (hk:k < 7) (x:Value) (hx:EZ x (BH.getD k [])) (w:World):
  Calls Tryz.prog 83 #[x] w fun e w'=>∃fv,e= .returned (.tuple #[fv,.int .i64 0])∧Below w.heap.size w w'∧RdF w'.heap.size w' fv (pfs.getD k [])∧
   ∀W,Below w'.heap.size w' W→Calls Tryz.prog 156 #[fv] W fun e W'=>e= .returned (.bool true)∧Kp w.heap.size w' fv (pfs.getD k []) W'∧Ke w' W W':=by
 obtain⟨p,b,f,uP,uC,uG,H⟩:=YY k hk;obtain⟨e1,e2,e3,e4⟩:=YX k hk;obtain⟨bs,rfl,hs⟩:=hx;refine(Qb H bs hs w).mono ?_;rintro e w' ⟨fv,ρ,rfl,sf,n⟩;have hB:∀x cb sh z,ρ x=some (cb,sh,z)→cb < w'.heap.size:=fun x cb sh z e=>by
  obtain⟨cs,el,f1,_⟩:=n.rel.blk x cb sh z e;rcases Nat.lt_or_ge cb w'.heap.size with h |h
  ·exact h
  ·rw[Array.getElem?_eq_none h]at f1;cases f1
 have rd:∀W,Kn w ρ uG W→RdF w'.heap.size W fv (pfs.getD k []):=fun W N=>by rw[←e1];exact Qh N.rel sf hB H.funs e2 e3 e4
 refine⟨fv,rfl,n.below,rd w' n,fun W hb=> ?_⟩;have N:=n.later hb;refine(show Calls Tryz.prog 156 #[fv] W fun e w'=>∃cv,e= .returned cv∧VR ρ (.c (.b true)) cv∧Kn w ρ uG w'∧Go.Ev.Left ρ W ρ w' from
  N.entK H.verify (cargs:=[fv]) ⟨sf,trivial⟩).mono ?_
 rintro e W' ⟨cv,rfl,hv,N',L⟩;have hv':cv= .bool true:=hv;subst hv';exact⟨rfl,⟨n.below.size,⟨N'.below.os.trans n.below.os.symm,N'.below.tape.trans n.below.tape.symm,N'.below.output.trans n.below.output.symm,Nat.le_trans hb.size L.size,fun c hc=>(N'.below.block c hc).trans (n.below.block c hc).symm⟩,rd W' N'⟩,⟨L.size,fun c h1 h2=>(L.keep c (n.far h1 h2)).2⟩⟩
theorem Ye (k:Nat) (hk:k < 7):(pfs.getD k []).length≤1000∧tot (pfs.getD k [])≤4294967296:=by
 have hk':k=0∨k=1∨k=2∨k=3∨k=4∨k=5∨k=6:=by omega
 rcases hk' with rfl |rfl |rfl |rfl |rfl |rfl |rfl <;> decide+kernel
theorem OwnV.setCell {base:Nat}{w:World}{fv hv sv cv ov:Value}{L:VmL}(h:OwnV base w fv hv sv cv ov L) {a:Addr}(ha:a.block < base) (u:Value):OwnV base (w.setCell a u) fv hv sv cv ov L:=
 ⟨OwnF.setCell h.f ha u,ownsRow_setCell_below h.z ha u,ownsRow_setCell_below h.s ha u,ownsRow_setCell_below h.c ha u,ownsRow_setCell_below h.o ha u⟩
theorem Bx.set10 {w:World}{g:Nat}{z0 z1 z2 z3 z4 z5 z6 z7 z8 z9:Value}(k:Bx w g #[z0,z1,z2,z3,z4,z5,z6,z7,z8,z9]) (a0 a1 a2 a3 a4 a5 a6 a7 a8 a9:Value) {fv hv sv cv ov:Value}{L:VmL}(h:OwnV (g+1) w fv hv sv cv ov L):
  Bx ((((((((((w.setCell ⟨g,0,none⟩ a0).setCell ⟨g,1,none⟩ a1).setCell ⟨g,2,none⟩ a2).setCell ⟨g,3,none⟩ a3).setCell ⟨g,4,none⟩ a4).setCell ⟨g,5,none⟩ a5).setCell ⟨g,6,none⟩ a6).setCell ⟨g,7,none⟩ a7).setCell ⟨g,8,none⟩ a8).setCell ⟨g,9,none⟩ a9) g #[a0,a1,a2,a3,a4,a5,a6,a7,a8,a9]∧Below g w ((((((((((w.setCell ⟨g,0,none⟩ a0).setCell ⟨g,1,none⟩ a1).setCell ⟨g,2,none⟩ a2).setCell ⟨g,3,none⟩ a3).setCell ⟨g,4,none⟩ a4).setCell ⟨g,5,none⟩ a5).setCell ⟨g,6,none⟩ a6).setCell ⟨g,7,none⟩ a7).setCell ⟨g,8,none⟩ a8).setCell ⟨g,9,none⟩ a9)∧OwnV (g+1) ((((((((((w.setCell ⟨g,0,none⟩ a0).setCell ⟨g,1,none⟩ a1).setCell ⟨g,2,none⟩ a2).setCell ⟨g,3,none⟩ a3).setCell ⟨g,4,none⟩ a4).setCell ⟨g,5,none⟩ a5).setCell ⟨g,6,none⟩ a6).setCell ⟨g,7,none⟩ a7).setCell ⟨g,8,none⟩ a8).setCell ⟨g,9,none⟩ a9) fv hv sv cv ov L:=by
 have:=((((((((((k.set_ 0 (by simp) a0).set_ 1 (by simp) a1).set_ 2 (by simp) a2).set_ 3 (by simp) a3).set_ 4 (by simp) a4).set_ 5 (by simp) a5).set_ 6 (by simp) a6).set_ 7 (by simp) a7).set_ 8 (by simp) a8).set_ 9 (by simp) a9);exact⟨by simpa using this,((((((((((Below.refl g w).setCell (p:=⟨g,0,none⟩) (Nat.le_refl g) a0).setCell (p:=⟨g,1,none⟩) (Nat.le_refl g) a1).setCell (p:=⟨g,2,none⟩) (Nat.le_refl g) a2).setCell (p:=⟨g,3,none⟩) (Nat.le_refl g) a3).setCell (p:=⟨g,4,none⟩) (Nat.le_refl g) a4).setCell (p:=⟨g,5,none⟩) (Nat.le_refl g) a5).setCell (p:=⟨g,6,none⟩) (Nat.le_refl g) a6).setCell (p:=⟨g,7,none⟩) (Nat.le_refl g) a7).setCell (p:=⟨g,8,none⟩) (Nat.le_refl g) a8).setCell (p:=⟨g,9,none⟩) (Nat.le_refl g) a9,((((((((((h.setCell (a:=⟨g,0,none⟩) (Nat.lt_succ_self g) a0).setCell (a:=⟨g,1,none⟩) (Nat.lt_succ_self g) a1).setCell (a:=⟨g,2,none⟩) (Nat.lt_succ_self g) a2).setCell (a:=⟨g,3,none⟩) (Nat.lt_succ_self g) a3).setCell (a:=⟨g,4,none⟩) (Nat.lt_succ_self g) a4).setCell (a:=⟨g,5,none⟩) (Nat.lt_succ_self g) a5).setCell (a:=⟨g,6,none⟩) (Nat.lt_succ_self g) a6).setCell (a:=⟨g,7,none⟩) (Nat.lt_succ_self g) a7).setCell (a:=⟨g,8,none⟩) (Nat.lt_succ_self g) a8).setCell (a:=⟨g,9,none⟩) (Nat.lt_succ_self g) a9)⟩
theorem Yf (k:Nat) (hk:k < 7) (bs:ByteArray) (hx:EZ (.string bs) (BH.getD k [])) (half:Nat) (h1:1≤half) (h2:half≤3000) (each:Bool) (w:World):
  Calls Tryz.prog 34 #[.string bs,.int .i64 half,.bool each] w fun e w'=>∃fv hv sv cv ov,e= .returned (.tuple #[vmV fv hv sv cv ov (Ba (pfs.getD k []) half each),.int .i64 0])∧OwnV (w.heap.size+1) w' fv hv sv cv ov (Ba (pfs.getD k []) half each)∧Below w.heap.size w w':=by
 obtain⟨z1,z2⟩:=Ye k hk;have HB:=Lib.hid (fun(W:World)=>Y0 k hk (.string bs) hx W);clear hx;obtain⟨fs,hfs⟩:∃fs,pfs.getD k []=fs:=⟨_,rfl⟩;rw[hfs]at z1 z2 HB ⊢;clear hfs;obtain⟨L,hL⟩:∃L,Ba fs half each=L:=⟨_,rfl⟩;rw[hL];have HL:=Lib.hid hL;clear hL;go_enter Tryz.func34,Tryz.ntmps34;go_wp2_with fail;generalize hxx:w.alloc _=w0;obtain⟨bz,k6⟩:=Bx.alloc hxx;have zz0:w0.heap.size=w.heap.size+1:=by rw[←hxx,World.size_alloc]
 clear hxx;refine(HB.out w0).mono ?_;rintro e w1 ⟨fv,rfl,b1,rd,hv⟩;have HN:=Zd (B0:=w0.heap.size) fv fs half each w1 rd z1 z2 h1 h2 hv;rw[HL.out]at HN;replace HN:=Lib.hid HN;replace k6:=k6.below b1 (by omega);replace bz:=bz.trans (b1.mono (by omega));have b1s:=b1.size;clear rd hv b1 HB;have ck6:=k6.2.1;have yk6:=k6.1;have zk6:=k6.2.2;go_wp2_with fail;refine HN.out.mono ?_;rintro e w2 ⟨fv2,hv2,sv2,cv2,ov2,rfl,rv,b2⟩;obtain⟨fa,fc,ha,hc,sa,sc,ca,cc,oa,oc,rfl,rfl,rfl,rfl,rfl⟩:=(RdV.of_own rv).forms;clear ck6 yk6 zk6;replace k6:=k6.below b2 (by omega);replace bz:=bz.trans (b2.mono (by omega));have RV:=Lib.hid (rv.base (show w.heap.size+1≤w1.heap.size+1 by have:=b1s;omega));clear rv b2 HN;have ck6:=k6.2.1;have yk6:=k6.1;have zk6:=k6.2.2;unfold vmV;go_wp2;clear ck6 yk6 zk6;obtain⟨kq,b3,o3⟩:=k6.set10 (.slice fa L.fs.length fc) (.slice ha L.zs.length hc) (.int .i64 L.h) (.int .i64 L.b) (.int .i64 L.n) (.slice sa L.ss.length sc) (.slice ca L.cs.length cc) (.slice oa L.os.length oc) (.int .i64 L.code) (.bool L.each) RV.out;generalize hxx:World.setCell _ _ _=y at kq b3 o3 ⊢;generalize hyy:y.alloc _=y2;obtain⟨b4,_⟩:=Bx.alloc hyy;have kq:=kq.below b4 kq.1;have o3:=o3.below b4;have b5:=b3.trans (b4.mono (by have:=kq.1;have:=b3.size;have:=k6.1;omega));have q4:=kq.2.1;refine bodyPost_ret (v:= .tuple #[.agg #[.slice fa L.fs.length fc,.slice ha L.zs.length hc,.int .i64 L.h,.int .i64 L.b,.int .i64 L.n,.slice sa L.ss.length sc,.slice ca L.cs.length cc,.slice oa L.os.length oc,.int .i64 L.code,.bool L.each],.int .i64 0]) ?_ rfl ⟨_,_,_,_,_,rfl,o3,bz.trans b5⟩;simp[results,Tryz.results34,go_sem,q4]
def pds:List (List (List Int)):=[pd0,pd1,pd2,pd3,pd4,pd5,pd6]
def pes:List (List Int):=[pe0,pe1,pe2,pe3,pe4,pe5,pe6]
def inO (o:O3):Bool:=inB o.c (-1000000) 1000000&& (inB o.n (-1000000) 1000000&& inB o.m (-1000000) 1000000)
def inF (x:F2):Bool:=inB x.f (-1000000) 1000000&& x.os.all inO
theorem Lf {x:F2}(h:inF x=true):Gv x:=by
 unfold inF at h;rw[Bool.and_eq_true,List.all_eq_true]at h;refine⟨by have:=Aw.1 h.1;omega,fun o ho=> ?_⟩;have:=h.2 o ho;unfold inO at this;rw[Bool.and_eq_true,Bool.and_eq_true]at this;have h1:=Aw.1 this.1;have h2:=Aw.1 this.2.1;have h3:=Aw.1 this.2.2;exact⟨by omega,by omega,by omega⟩
theorem Dc (k:Nat) (hk:k < 7):BD (pfs.getD k []) (pds.getD k []) (pes.getD k []) 600 AG=true∧A3 (pfs.getD k [])=true:=by
 have hk':k=0∨k=1∨k=2∨k=3∨k=4∨k=5∨k=6:=by omega
 rcases hk' with rfl |rfl |rfl |rfl |rfl |rfl |rfl
 ·exact⟨tr0,fo0⟩
 ·exact⟨tr1,fo1⟩
 ·exact⟨tr2,fo2⟩
 ·exact⟨tr3,fo3⟩
 ·exact⟨tr4,fo4⟩
 ·exact⟨tr5,fo5⟩
 ·exact⟨tr6,fo6⟩
theorem DY (k:Nat) (hk:k < 7):(pes.getD k []).length≤1000∧(pfs.getD k []).length+tot (pfs.getD k [])≤100000∧(pfs.getD k []).all inF=true:=by
 have hk':k=0∨k=1∨k=2∨k=3∨k=4∨k=5∨k=6:=by omega
 rcases hk' with rfl |rfl |rfl |rfl |rfl |rfl |rfl <;> decide+kernel
theorem Z8 (k:Nat) (hk:k < 7) {half:Nat}(h2:half≤3000) (each:Bool):EQ (Ba (pfs.getD k []) half each)∧CA (Ba (pfs.getD k []) half each)≤1048576:=by
 obtain⟨_,h3,h4⟩:=DY k hk;rw[List.all_eq_true]at h4;have i2:GT [1,1]:=fun j=>by
  match j with
  |0=>exact⟨by decide,by decide⟩
  |1=>exact⟨by decide,by decide⟩
  |j+2=>exact⟨by simp,by simp⟩
 refine⟨⟨fun x hx=>Lf (h4 x hx),CB (fun x hx=>by rw[List.eq_of_mem_replicate hx];omega),?_,?_,?_,i2,?_,?_,?_⟩,?_⟩
 ·show(-9223372036854775808:Int)≤ (half:Int)∧(half:Int)≤9223372036854775807
  omega
 ·show(-9223372036854775808:Int)≤0∧(0:Int)≤9223372036854775807
  omega
 ·show(-9223372036854775808:Int)≤0∧(0:Int)≤9223372036854775807
  omega
 ·intro x hx;have hx':x∈ [(⟨0,0,1⟩:O3)]:=hx;rw[List.mem_singleton.1 hx'];exact⟨by decide,by decide,by decide⟩
 ·intro j
  show(-9223372036854775808:Int)≤ ([]:List Int).getD j 0∧([]:List Int).getD j 0≤9223372036854775807
  simp
 ·show(-9223372036854775808:Int)≤0∧(0:Int)≤9223372036854775807
  omega
 ·unfold CA Ba;dsimp only;rw[List.length_replicate];simp only[List.length_cons,List.length_nil];omega
theorem Z9 (k:Nat) (hk:k < 7) {half:Nat}(h1:2≤half) (h2:half≤3000) (each:Bool) (N:Nat):RunOk (Ba (pfs.getD k []) half each) N:=by
 obtain⟨t1,t2⟩:=Dc k hk;obtain⟨i1,i2⟩:=Z8 k hk h2 each;have S:=Le (pfs.getD k []) (show 1≤half by omega) h2 each;exact Pk t1 t2 (DY k hk).1 S h1 (S.vmOk t2 (I9 t1).1.ok (.inl rfl) 0 (.inl rfl)) i1 i2 N
theorem Bx.set10g {w:World}{g:Nat}{z0 z1 z2 z3 z4 z5 z6 z7 z8 z9:Value}(k:Bx w g #[z0,z1,z2,z3,z4,z5,z6,z7,z8,z9]) (a0 a1 a2 a3 a4 a5 a6 a7 a8 a9:Value):
  Bx ((((((((((w.setCell ⟨g,0,none⟩ a0).setCell ⟨g,1,none⟩ a1).setCell ⟨g,2,none⟩ a2).setCell ⟨g,3,none⟩ a3).setCell ⟨g,4,none⟩ a4).setCell ⟨g,5,none⟩ a5).setCell ⟨g,6,none⟩ a6).setCell ⟨g,7,none⟩ a7).setCell ⟨g,8,none⟩ a8).setCell ⟨g,9,none⟩ a9) g #[a0,a1,a2,a3,a4,a5,a6,a7,a8,a9]∧w.grownBy ((((((((((w.setCell ⟨g,0,none⟩ a0).setCell ⟨g,1,none⟩ a1).setCell ⟨g,2,none⟩ a2).setCell ⟨g,3,none⟩ a3).setCell ⟨g,4,none⟩ a4).setCell ⟨g,5,none⟩ a5).setCell ⟨g,6,none⟩ a6).setCell ⟨g,7,none⟩ a7).setCell ⟨g,8,none⟩ a8).setCell ⟨g,9,none⟩ a9) (some g):=by
 have:=((((((((((k.set_ 0 (by simp) a0).set_ 1 (by simp) a1).set_ 2 (by simp) a2).set_ 3 (by simp) a3).set_ 4 (by simp) a4).set_ 5 (by simp) a5).set_ 6 (by simp) a6).set_ 7 (by simp) a7).set_ 8 (by simp) a8).set_ 9 (by simp) a9);exact⟨by simpa using this,((((((((((grownBy.setCell w g 0 a0).trans' (grownBy.setCell _ g 1 a1)).trans' (grownBy.setCell _ g 2 a2)).trans' (grownBy.setCell _ g 3 a3)).trans' (grownBy.setCell _ g 4 a4)).trans' (grownBy.setCell _ g 5 a5)).trans' (grownBy.setCell _ g 6 a6)).trans' (grownBy.setCell _ g 7 a7)).trans' (grownBy.setCell _ g 8 a8)).trans' (grownBy.setCell _ g 9 a9))⟩
theorem RdV.stored {base g:Nat}{w W:World}{fv hv sv cv ov:Value}{L:VmL}(rd:RdV w.heap.size w fv hv sv cv ov L) (ap:Apt base w fv sv cv ov L.fs) (hg:g < base) (gT:w.grownBy W (some g))
  (k:Bx w g #[.slice none 0 0,.slice none 0 0,.int .i64 0,.int .i64 0,.int .i64 0,.slice none 0 0,.slice none 0 0,.slice none 0 0,.int .i64 0,.bool false]) (hz:4≤L.zs.length):RdV W.heap.size W fv hv sv cv ov L:=by
 have lo:∀i,(sv.ownBlock=some i∨cv.ownBlock=some i∨ov.ownBlock=some i)→some i≠some g:=fun i hi e=>by
  have:=ap.lo i hi;have:=Option.some.inj e;omega
 exact⟨RdF.of_own (ap.f.to_h.same (fun q h1 h2=>gT.block q h2 (fun e=>by have:=Option.some.inj e;omega))).to_f,rd.z.grow gT (fun i hi e=>G7 rd.z hz k i hi (Option.some.inj e)),rd.s.grow gT (fun i hi=>lo i (.inl hi)),RdO.grow rd.c gT (fun i hi=>lo i (.inr (.inl hi))),rd.o.grow gT (fun i hi=>lo i (.inr (.inr hi)))⟩
theorem G0 (k:Nat) (hk:k < 7) (bs:ByteArray) (hx:EZ (.string bs) (BH.getD k [])) (half:Nat) (h1:2≤half) (h2:half≤3000) (each:Bool) (n:Int) (w:World):
  Calls Tryz.prog 11 #[.string bs,.int .i64 half,.bool each,.int .i64 n] w fun e w'=>∃fv hv sv cv ov,e= .returned (.tuple #[vmV fv hv sv cv ov (Ak (stepsOf n) (Ba (pfs.getD k []) half each)),.int .i64 0])∧RdV w'.heap.size w' fv hv sv cv ov (Ak (stepsOf n) (Ba (pfs.getD k []) half each))∧Below w.heap.size w w':=by
 have HM:=Lib.hid (fun(W:World)=>Yf k hk bs hx half (by omega) h2 each W);have HO:=Lib.hid (Z9 k hk h1 h2 each (stepsOf n));clear hx;obtain⟨fs,hfs⟩:∃fs,pfs.getD k []=fs:=⟨_,rfl⟩;rw[hfs]at HM HO ⊢;clear hfs;obtain⟨L,hL⟩:∃L,Ba fs half each=L:=⟨_,rfl⟩;rw[hL]at HM HO ⊢;clear hL;obtain⟨R,hR⟩:∃R,Ak (stepsOf n) L=R:=⟨_,rfl⟩;rw[hR];have HV:=Lib.hid (fun(W:World) {B:Nat} {fv hv sv cv ov:Value} (hr:RdV B W fv hv sv cv ov L)=>(by have:=KO fv hv sv cv ov L n W hr HO.out;rw[hR]at this;exact this:Calls Tryz.prog 24 #[vmV fv hv sv cv ov L,.int .i64 n] W _));have HF:=Lib.hid (show R.fs=L.fs by rw[←hR];exact Ej _ _);have HZ:=Lib.hid (show 4≤R.zs.length by rw[←hR];exact HO.out.z4 _ (Nat.le_refl _));clear hR;go_enter Tryz.func11,Tryz.ntmps11;go_wp2_with fail;generalize hxx:w.alloc _=w0;obtain⟨bz,k6⟩:=Bx.alloc hxx;have zz0:w0.heap.size=w.heap.size+1:=by rw[←hxx,World.size_alloc]
 clear hxx;refine(HM.out w0).mono ?_;rintro e w1 ⟨fv,hv,sv,cv,ov,rfl,o1,b1⟩;obtain⟨fa,fc,ha,hc,sa,sc,ca,cc,oa,oc,rfl,rfl,rfl,rfl,rfl⟩:=(RdV.of_own o1).forms;replace k6:=k6.below b1 (by omega);replace bz:=bz.trans (b1.mono (by omega));have b1s:=b1.size;have R1:=Lib.hid (RdV.of_own o1);clear o1 b1 HM;unfold vmV;go_wp2_with fail;generalize hxx:w1.alloc _=w2;obtain⟨b2,k2⟩:=Bx.alloc hxx;clear hxx;have b2s:=b2.size;replace k6:=k6.below b2 k6.1;replace bz:=bz.trans (b2.mono (by omega));refine(HV.out w2 (R1.out.below b2 (Nat.le_refl _))).mono ?_;rintro e w3 ⟨fv3,hv3,sv3,cv3,ov3,rfl,rd3,b3,ap3⟩;obtain⟨fa3,fc3,ha3,hc3,sa3,sc3,ca3,cc3,oa3,oc3,rfl,rfl,rfl,rfl,rfl⟩:=rd3.forms;have b3s:=b3.size;have hk6:=k6.1;replace k6:=k6.below b3 k6.1;replace bz:=bz.trans (b3.mono (by omega));have RD:=Lib.hid rd3;have AP:=Lib.hid ap3;have B3:=Lib.hid b3;clear rd3 ap3 b3;have ck6:=k6.2.1;have yk6:=k6.1;have zk6:=k6.2.2;unfold vmV;go_wp2;clear ck6 yk6 zk6;obtain⟨kq,g4⟩:=k6.set10g (.slice fa3 R.fs.length fc3) (.slice ha3 R.zs.length hc3) (.int .i64 R.h) (.int .i64 R.b) (.int .i64 R.n) (.slice sa3 R.ss.length sc3) (.slice ca3 R.cs.length cc3) (.slice oa3 R.os.length oc3) (.int .i64 R.code) (.bool R.each);generalize hxx:World.setCell _ _ _=y at kq g4 ⊢;have rd4:=RD.out.stored (by have h:=AP.out;rw[←HF.out]at h;exact h) hk6 g4 k6 HZ.out;have b5:=Below.of_grown g4 (show w.heap.size≤w3.heap.size by omega) (fun k hk=>by have:=Option.some.inj hk;omega);have q4:=kq.2.1;refine bodyPost_ret (v:= .tuple #[.agg #[.slice fa3 R.fs.length fc3,.slice ha3 R.zs.length hc3,.int .i64 R.h,.int .i64 R.b,.int .i64 R.n,.slice sa3 R.ss.length sc3,.slice ca3 R.cs.length cc3,.slice oa3 R.os.length oc3,.int .i64 R.code,.bool R.each],.int .i64 0]) ?_ rfl ⟨_,_,_,_,_,rfl,rd4,bz.trans b5⟩;simp[results,Tryz.results11,go_sem,q4]
end Go.Proofs.YtfmebaafpfkeiaaGreat
end
section
namespace Go.Proofs.YtfmebaafpfkeiaaGreat
open Go.RowKit
structure Heapy (M:VmL):Prop where
 zi:Au M.zs
 zl:M.zs.length≤6000
 h:0≤M.h∧M.h≤3000
 b:0≤M.b∧M.b≤3000
 n:0≤M.n∧M.n≤6000
theorem Sim.heapy {E:Nat→Nat→Prop}{fs:List F2}{L:VmL}{A:AbS}{h b n:Nat}{ps:List Nat}(S:Sim E fs L A h b n ps):Heapy L:=by
 have F:=S.right.frame;have h1:=F.h1;have h2:=F.base;have h3:=F.n1;have h4:=F.len;have h5:b≤h:=by omega
 refine⟨S.zi,by omega,?_,?_,?_⟩
 ·rw[S.lh];omega
 ·rw[S.lb];omega
 ·rw[S.ln];omega
end Go.Proofs.YtfmebaafpfkeiaaGreat
end
section
namespace Go.Proofs.YtfmebaafpfkeiaaGreat
open Go.RowKit Go.Ev
theorem Is {h:Int}(hh:h∈Jl):∃half:Nat,h=half∧2≤half∧half≤3000∧half*2≤3000:=by
 have:h=5∨h=12∨h=20∨h=30∨h=45∨h=80∨h=300∨h=1500:=by simpa [Jl] using hh
 exact⟨h.toNat,by omega,by omega,by omega,by omega⟩
theorem Gx (k:Nat) (hk:k < 7) (bs:ByteArray) (hs:bs.data.toList.map UInt8.toNat=BH.getD k []) (w:World):
  Calls Tryz.prog 12 #[.string bs] w fun e w'=>∃fv,e= .returned (.tuple #[fv,.int .i64 0])∧Below w.heap.size w w':=by
 obtain⟨p,b,f,uP,uC,uG,H⟩:=YZ k hk;exact Qc H bs hs w
end Go.Proofs.YtfmebaafpfkeiaaGreat
end
section
namespace Go.Proofs.YtfmebaafpfkeiaaGreat
open Go.RowKit
def He:Int→Option (ByteArray×Nat):=fun t=>if t=0 then some (⟨#[90]⟩,0)else if t=1 then some (⟨#[83]⟩,1)else none
def CH (k:Nat):Int→Option (ByteArray×Nat):=if k=6 then He else fun _=>none
def Hg (k:Nat):AbS:=Hh (pfs.getD k []) 600 AG
def ctK (k:Nat):CT:=(ctA (CH k) (Hg k).st 10 ((Hg k).ss.getD 0 0)).getD (.num 0)
theorem ab (k:Nat) (hk:k < 7):(ctA (CH k) (Hg k).st 10 ((Hg k).ss.getD 0 0)).isSome=true:=by
 have hk':k=0∨k=1∨k=2∨k=3∨k=4∨k=5∨k=6:=by omega
 rcases hk' with rfl |rfl |rfl |rfl |rfl |rfl |rfl <;> decide+kernel
theorem PT (k:Nat) (hk:k < 7) {i:Nat}(ha:Along (pfs.getD k []) AG i) (hc:(As (pfs.getD k []) i AG).code≠0) {E:Nat→Nat→Prop}{L:VmL}{h b n:Nat}{ps:List Nat}(S:Sim E (pfs.getD k []) L (As (pfs.getD k []) i AG) h b n ps):
  L.code=1∧L.os=pes.getD k []∧ ∃x,L.ss=[x]∧ctL (CH k) L.zs 10 x=some (ctK k)∧Ai ps x=true:=by
 obtain⟨t1,t2⟩:=Dc k hk;have M:=Moment.of t1 ha;obtain⟨c1,c2,c3⟩:=M.done hc;have hi:=(El t1 ha).1;have he:Hg k=As (pfs.getD k []) i AG:=ae i 600 AG ha hc (by omega);have hs:=S.ss;have hl:L.ss.length=1:=by rw[hs.1];exact c3
 obtain⟨x,hx⟩:∃x,L.ss=[x]:=by
  match L.ss,hl with
  | [x],_=>exact⟨x,rfl⟩
 refine⟨by rw[S.code];exact c1,by rw[S.os];exact c2,x,hx,?_,?_⟩
 ·have hw:=hs.2 0 (by omega);rw[hx]at hw;rw[S.ct (CH k) 10 x _ hw,←he];have hs:=ab k hk;unfold ctK;rw[he]at hs ⊢;cases hq:ctA (CH k) (As (pfs.getD k []) i AG).st 10 ((As (pfs.getD k []) i AG).ss.getD 0 0)with
  |none=>rw[hq]at hs;cases hs
  |some t=>rfl
 ·have:=S.words (DW M.ok);rw[List.all_eq_true]at this;exact this x (by rw[hx];simp)
structure Ended (k:Nat) (M:VmL):Prop where
 os:M.os <+:pes.getD k []
 code:M.code=1∨M.code=2
 halt:M.code=1→M.os=pes.getD k []∧ ∃ (x:Int) (h b n:Nat) (ps:List Nat),M.ss=[x]∧M.h=h∧M.b=b∧M.n=n∧Right M.zs h b n ps∧Au M.zs∧ctL (CH k) M.zs 10 x=some (ctK k)∧Ai ps x=true
 sl:M.os.length≤1000
theorem Re (k:Nat) (hk:k < 7) {half:Nat}(h1:2≤half) (h2:half≤3000) (each:Bool) (N:Nat) (hN:600≤N):Ended k (Ak N (Ba (pfs.getD k []) half each)):=by
 obtain⟨t1,t2⟩:=Dc k hk;obtain⟨i,L',no,X⟩:=(Le (pfs.getD k []) (show 1≤half by omega) h2 each).run N t1;obtain⟨E',b',n',ps',S'⟩:=X.sim;have M:=Moment.of t1 X.along;have hi:=(El t1 X.along).1;have hp:L'.os <+:pes.getD k []:=by rw[S'.os];exact M.pre
 have hpl:L'.os.length≤1000:=Nat.le_trans hp.length_le (DY k hk).1;rcases X.how with ⟨e,h1,h2⟩ |⟨e,h1,h2,h3,_⟩
 ·have hc:(As (pfs.getD k []) i AG).code≠0:=by
   rcases h1 with h1 |h1
   ·omega
   ·exact h1
  obtain⟨c1,c2,x,c3,c4,c5⟩:=PT k hk X.along hc S';rw[e];exact⟨hp,.inl c1,fun _=>⟨c2,x,half,b',n',ps',c3,S'.lh,S'.lb,S'.ln,S'.right,S'.zi,c4,c5⟩,hpl⟩
 ·rw[e];exact⟨hp,.inr rfl,fun h=>(by cases h),hpl⟩
theorem Jm:stepsOf 60000=60000:=by unfold stepsOf;rfl
theorem LN (k:Nat) (hk:k < 7) (bs:ByteArray) (hs:bs.data.toList.map UInt8.toNat=BH.getD k []) (half:Nat) (h1:2≤half) (h2:half≤3000) (each:Bool) (n:Int) (hn:600≤stepsOf n):∃M:VmL,Ended k M∧
  ∀w:World,Calls Tryz.prog 11 #[.string bs,.int .i64 half,.bool each,.int .i64 n] w fun e w'=>∃fv hv sv cv ov,e= .returned (.tuple #[vmV fv hv sv cv ov M,.int .i64 0])∧RdV w'.heap.size w' fv hv sv cv ov M∧Below w.heap.size w w':=
 ⟨_,Re k hk h1 h2 each (stepsOf n) hn,fun w=>G0 k hk bs ⟨bs,rfl,hs⟩ half h1 h2 each n w⟩
theorem Hz (k:Nat) (hk:k < 7):(ctK k).okB=true∧(ctK k).len≤1000:=by
 have hk':k=0∨k=1∨k=2∨k=3∨k=4∨k=5∨k=6:=by omega
 rcases hk' with rfl |rfl |rfl |rfl |rfl |rfl |rfl <;> decide+kernel
end Go.Proofs.YtfmebaafpfkeiaaGreat
end
