/- Parts of the proof of FnExactJudgeSame. -/
import Derived.Test.YtifhcbeaiijkcaaGreatJ26
import Derived.Test.YtifhcbeaiijkcaaGreatJ01
import Derived.Test.YtifhcbeaiijkcaaGreatJ25
import Derived.Deep.Slices
import Derived.Deep.Strs
import Derived.Test.YtifhcbeaiijkcaaGreatJ08
import Derived.Test.YtifhcbeaiijkcaaGreatJ02
import Derived.Test.YtifhcbeaiijkcaaGreatRows
set_option linter.unusedVariables false
set_option linter.unusedSimpArgs false
set_option maxRecDepth 1000000
set_option maxHeartbeats 16000000
section
namespace Go.Proofs.YtifhcbeaiijkcaaGreat
open Go.RowKit
open _root_.Go.World renaming alloc→Wa,setCell→Ws
open _root_.Go.Proofs.Tryz renaming prog→Pq
def fn0:F2:=⟨0,[]⟩
def Dj (x:F2):Bool:=inB x.f 0 20&& inB (x.os.length:Int) 1 3000
def Fm (x:F2):Int:=(x.os.getD (x.os.length - 1) ⟨0,0,0⟩).c
def Fo (x:F2):Bool:=(Fm x==7) || (Fm x==19) || (Fm x==21)
def DL (fs:List F2) (i:Nat):Bool:=(fs.getD i fn0).os.all (Dl fs i)&& Fo (fs.getD i fn0)
def CL (fs:List F2):Bool:=(inB (fs.length:Int) 1 60&& ((fs.getD 0 fn0).f==0))&& (fs.all Dj&& (List.range fs.length).all (DL fs))
theorem EV {fs:List F2}{i:Nat}(h:i < fs.length):fs.getD i fn0=fs[i]:=by rw[List.getD_eq_getElem?_getD,Ay h];rfl
theorem Hs {fs:List F2}(h:(inB (fs.length:Int) 1 60&& ((fs.getD 0 fn0).f==0))=false):CL fs=false:=by unfold CL;rw[h];rfl
theorem Ht {fs:List F2}{i:Nat}(hi:i < fs.length) (h:Dj fs[i]=false):CL fs=false:=by
 have:fs.all Dj=false:=by
  rw[Ec];exact⟨_,An hi,by simp[h]⟩
 unfold CL;rw[this];simp
theorem Hu {fs:List F2}{i:Nat}(hi:i < fs.length) (h:DL fs i=false):CL fs=false:=by
 have:(List.range fs.length).all (DL fs)=false:=by
  rw[Ec];exact⟨i,Ed.2 hi,by simp[h]⟩
 unfold CL;rw[this];simp
theorem LD {fs:List F2}{i k:Nat}(hi:i < fs.length) (hk:k < fs[i].os.length) (h:Dl fs i fs[i].os[k]=false):DL fs i=false:=by
 unfold DL;rw[EV hi];have:fs[i].os.all (Dl fs i)=false:=by
  rw[Ec];exact⟨_,An hk,by simp[h]⟩
 rw[this];rfl
theorem LF {fs:List F2}{i:Nat}(hi:i < fs.length) (h:Fo fs[i]=false):DL fs i=false:=by
 unfold DL;rw[EV hi,h];simp
theorem LG {fs:List F2}(h0:(inB (fs.length:Int) 1 60&& ((fs.getD 0 fn0).f==0))=true) (h1:∀j (h:j < fs.length),Dj fs[j]=true) (h2:∀j,j < fs.length→DL fs j=true):CL fs=true:=by
 unfold CL;rw[h0,DH,Cd,BA,BA];refine⟨fun x hx=> ?_,fun j hj=>h2 j (Ed.1 hj)⟩;obtain⟨j,hj,rfl⟩:=Ki.1 hx;exact h1 j hj
theorem LH {fs:List F2}{i:Nat}(hi:i < fs.length) (h:∀k (hk:k < fs[i].os.length),Dl fs i fs[i].os[k]=true) (hl:Fo fs[i]=true):DL fs i=true:=by
 unfold DL;rw[EV hi,hl,Bool.and_true,BA];intro x hx;obtain⟨k,hk,rfl⟩:=Ki.1 hx;exact h k hk
theorem LI {x:F2}{E:Nat}(hE:x.os.length=E) (h:0 < E):∃hk:E - 1 < x.os.length,(x.os[E - 1]).c=Fm x:=by
 subst hE;refine⟨by omega,?_⟩;unfold Fm;rw[List.getD_eq_getElem?_getD,Ay (by omega)];rfl
end Go.Proofs.YtifhcbeaiijkcaaGreat
end
section
namespace Go.Proofs.YtifhcbeaiijkcaaGreat
open Go.ChangeShapes Go.WideShapes Go.ChangeAt Go.RowKit
open _root_.Go.World renaming alloc→Wa,setCell→Ws
open _root_.Go.Proofs.Tryz renaming prog→Pq
section
variable {H:Type}{enc:TypeId×Value→H}{P:Program}{w:World}{base:Nat}
theorem Su {t e:TypeId}{f0 f1 f2:Field}{fuel:Nat}{held:Bool}{cs:List Value}{x:DataW H×List MemPlace}(ht:P.underlying t=some (.struct #[f0,f1,f2])) (he:P.underlying e=some (.int .i64))
  (h0:f0.type=e∧f0.offset=0) (h1:f1.type=e∧f1.offset=1) (h2:f2.type=e∧f2.offset=2) (hc:P.cellsOf e=1) (hC:P.cellsOf t=3)
  (h:DataW.trod enc P w base (fun _=>true) held fuel t cs=some x):∃o:O3,cs=o.enc∧DB o:=by
 obtain⟨y0,y1,y2,n,_,hl,k0,k1,k2⟩:=Go.Deep.trod_struct3 ht h;rw[hC]at hl;obtain⟨a,b,c,rfl⟩:∃a b c,cs=[a,b,c]:=by
  match cs,hl with
  | [a,b,c],_=>exact⟨a,b,c,rfl⟩
 rw[h0.1,h0.2,hc]at k0;rw[h1.1,h1.2,hc]at k1;rw[h2.1,h2.2,hc]at k2;obtain⟨i,rfl,hi⟩:=Db he (by simpa using k0);obtain⟨j,rfl,hj⟩:=Db he (by simpa using k1);obtain⟨k,rfl,hk⟩:=Db he (by simpa using k2);exact⟨⟨i,j,k⟩,rfl,hi,hj,hk⟩
theorem MK {s t e:TypeId}{f0 f1 f2:Field}{fuel:Nat}{held:Bool}{c:Value}{x:DataW H×List MemPlace}(hs:P.underlying s=some (.slice t)) (ht:P.underlying t=some (.struct #[f0,f1,f2])) (he:P.underlying e=some (.int .i64))
  (h0:f0.type=e∧f0.offset=0) (h1:f1.type=e∧f1.offset=1) (h2:f2.type=e∧f2.offset=2) (hc:P.cellsOf e=1) (hC:P.cellsOf t=3)
  (h:DataW.trod enc P w base (fun _=>true) held fuel s [c]=some x):∃os,RdO w.heap.size w c os∧ ∀o∈os,DB o:=by
 rcases Go.Deep.open_slice hs h with ⟨hcs,_⟩ |⟨a,len,cap,m,n,D,Pl,hcs,_,hl,hm,hmm,_,hx⟩
 ·simp only[List.cons.injEq,Dg]at hcs;subst hcs;exact⟨[],.inl ⟨rfl,_,_,rfl⟩,fun o ho=>by cases ho⟩
 ·simp only[List.cons.injEq,Dg]at hcs;subst hcs;simp only[if_true]at hmm;subst hmm;have hall:∀i,i < len→ ∃o:O3,(∀q,q < 3→w.cell? ((a.add (i*3)).add q)=o.enc[q]?)∧DB o:=by
   intro i hi;obtain⟨cs,hcs,htr⟩:=hx i (by omega);obtain⟨o,rfl,ho⟩:=Su ht he h0 h1 h2 hc hC htr;rw[hC]at hcs;exact⟨o,(II hcs).2.2,ho⟩
  rcases Fy len with rfl |hpos
  ·exact⟨[],.inl ⟨rfl,_,_,rfl⟩,fun o ho=>by cases ho⟩
  ·obtain⟨f,hf⟩:∃f:Nat→O3,∀i,i < len→(∀q,q < 3→w.cell? ((a.add (i*3)).add q)= (f i).enc[q]?)∧DB (f i):=by
    haveI:Inhabited O3:=⟨⟨0,0,0⟩⟩
    exact G1 hall
   obtain⟨b,off,spot⟩:=a;have hz:=(hf 0 hpos).1 0 (by decide);have hspot:spot=none:=by
    have:w.cell? ⟨b,off,spot⟩=some (.int .i64 (f 0).c):=by simpa [Addr.add,O3.enc] using hz
    simpa using G2 this
   subst hspot;have hcell:∀i,i < len→ ∀q,q < 3→w.cell? ⟨b,off+i*3+q,none⟩= (f i).enc[q]?:=by
    intro i hi q hq;rw[← (hf i hi).1 q hq,Dv,CV,Dp]
   have hb:b < w.heap.size:=Gb w ⟨b,off,none⟩ (u:= .int .i64 (f 0).c) (by simpa [O3.enc] using hcell 0 hpos 0 (by decide));refine⟨(List.range len).map f,.inr ⟨b,off,m,by simp,hb,hb,⟨by simp;omega,by simpa using hl⟩,?_⟩,?_⟩
   ·intro j x hj t ht;simp only[GS]at hj;by_cases hjl:j < len
    ·rw[List.getElem?_range hjl]at hj;simp only[Option.map_some,F8]at hj;subst hj;exact hcell j hjl t ht
    ·rw[FB (by simp;omega)]at hj;simp at hj
   ·intro o ho;simp only[Gc,Ed]at ho;obtain⟨i,hi,rfl⟩:=ho;exact(hf i hi).2
end
end Go.Proofs.YtifhcbeaiijkcaaGreat
end
section
namespace Go.Proofs.YtifhcbeaiijkcaaGreat
open Go.RowKit
open _root_.Go.World renaming alloc→Wa,setCell→Ws
open _root_.Go.Proofs.Tryz renaming prog→Pq
theorem Qw {B:Nat}(v:Value) (fs:List F2) (left:Int) (w:World) (hr:RdF B w v fs) (h0:-1≤left) (h1:left≤4611686018427387904):
  Calls Pq 21 #[v,.int .i64 left] w fun e w'=>e= .returned (.int .i64 (Ak (fs.length+tot fs) left))∧Below w.heap.size w w':=by
 have hx:=hr.len;unfold maxLen at hx;have HR:=Aa (fun(W:World) (hb:Below w.heap.size w W)=>hr.below' hb);obtain⟨a,cap,rfl⟩:=hr.form;clear hr;by_cases hneg:left - fs.length < 0
 ·have HF:=Aa (show Ak (fs.length+tot fs) left= -1 from Af (by omega));go_enter Tryz.func21,Tryz.ntmps21;go_wp2;go_ret;exact⟨Ap HF.out.symm,Ab _ _⟩
 ·go_enter Tryz.func21,Tryz.ntmps21;go_wp2
  go_loopw [1,5] (fun l i wr=>∃k:Nat,∃L:Int,k≤fs.length∧i= .int .i64 k∧l= .int .i64 L∧Hid (L=left - fs.length - tot (fs.take k))∧0≤L∧L≤4611686018427387904∧Below w.heap.size w wr) (fun _ i _=>fs.length - (intOf i).toNat)
  case atStart=>exact⟨0,_,Ao _,rfl,rfl,Aa (by simp[tot]),by omega,by omega,Ab _ _⟩
  case round=>
   obtain⟨k,L,hk,rfl,rfl,hL,hL0,hL1,hb⟩:=hrel;by_cases hlt:k < fs.length
   ·obtain⟨b,off,cap',lv,hs,hB,hbs,hcap,c0,c1,ro⟩:=(HR.out _ hb).at_ hlt;cases hs
    obtain⟨la,lc,rfl⟩:=ro.form;have hz:=Qm fs[k].f _ fs[k].os L wr ro (by omega) hL1;have htk:=Qr hlt;obtain⟨Z,hZ⟩:∃Z,Ak fs[k].os.length L=Z:=⟨_,rfl⟩;rw[hZ]at hz;have HZ:=Aa hz;have HZZ:=Aa hZ;have HTK:=Aa htk;have BB:=Aa hb;have hkl:(k:Int) < (fs.length:Int):=by omega
    clear hz hZ htk hb ro;go_wp2_with fail;refine HZ.out.mono ?_;rintro e w2 ⟨rfl,b2⟩;have B2:=Aa (BB.out.trans (b2.mono BB.out.size));clear BB b2 c0 c1 HZ;by_cases hZn:Z < 0
    ·go_wp2;go_ret;refine⟨Ap ?_,B2.out⟩;have h1:=HZZ.out;have h2:=hL.out;have h3:tot (fs.take (k+1))≤tot fs:=by
      have e:tot fs=tot (fs.take (k+1))+tot (fs.drop (k+1)):=by
       unfold tot;rw[←List.sum_append,←List.map_append,Oj]
      omega
     have h4:=HTK.out;unfold Ak at h1 ⊢;split at h1 <;> rw[Af (by omega)] <;> omega
    ·go_wp2;go_roundw
     case rel=>
      have h1:=HZZ.out;have h2:=hL.out;have h4:=HTK.out;unfold Ak at h1;split at h1
      ·omega
      ·exact⟨k+1,Z,hlt,by go_num,rfl,Aa (by omega),by omega,by omega,B2.out⟩
     case measure=>simp[intOf];omega
   ·obtain rfl:k=fs.length:=by omega
    rw[B8]at hL;go_wp2;go_ret;refine⟨Ap ?_,hb⟩;have h2:=hL.out;unfold Ak;rw[Ae (by omega)];omega
theorem Qs {B1 B2:Nat}(va vb:Value) (fs:List F2) (w:World) (ha:RdF B1 w va fs) (hb:RdF B2 w vb fs):
  Calls Pq 41 #[va,vb] w fun e w'=>e= .returned (.bool true)∧Below w.heap.size w w':=by
 have hx:=ha.len;unfold maxLen at hx;have HA:=Aa (fun(W:World) (h:Below w.heap.size w W)=>ha.below' h);have HB:=Aa (fun(W:World) (h:Below w.heap.size w W)=>hb.below' h);obtain⟨a1,cap1,rfl⟩:=ha.form;obtain⟨a2,cap2,rfl⟩:=hb.form;clear ha hb;go_enter Tryz.func41,Tryz.ntmps41;go_wp2
 go_loopw [5] (fun i wr=>∃k:Nat,k≤fs.length∧i= .int .i64 k∧Below w.heap.size w wr) (fun i _=>fs.length - (intOf i).toNat)
 case atStart=>exact⟨0,Ao _,rfl,Ab _ _⟩
 case round=>
  obtain⟨k,hk,rfl,hb⟩:=hrel;by_cases hlt:k < fs.length
  ·obtain⟨b,off,cap',lv,hs,hB,hbs,hcap,c0,c1,ro⟩:=(HA.out _ hb).at_ hlt;cases hs
   obtain⟨b',off',cap'',lv',hs',hB',hbs',hcap',d0,d1,ro'⟩:=(HB.out _ hb).at_ hlt;cases hs'
   obtain⟨la,lc,rfl⟩:=ro.form;obtain⟨la',lc',rfl⟩:=ro'.form;have hkl:(k:Int) < (fs.length:Int):=by omega
   have hc:=fun(W:World) (h:Below wr.heap.size wr W)=>Qp fs[k].f _ _ fs[k].os W (RdE.below' ro h) (RdE.below' ro' h);have HC:=Aa hc;have BB:=Aa hb;clear hc ro ro' hb;go_wp2_with fail
   go_region_held3 (fun w'=>w'.cell? ⟨b,off+k*2,none⟩=some (.int .i64 fs[k].f)∧w'.cell? ⟨b,off+k*2+1,none⟩=some (.slice la fs[k].os.length lc)∧w'.cell? ⟨b',off'+k*2,none⟩=some (.int .i64 fs[k].f)∧w'.cell? ⟨b',off'+k*2+1,none⟩=some (.slice la' fs[k].os.length lc'))
    (first | (go_split_ands;refine⟨?_,?_,?_,?_⟩ <;> (refine(b9.cell (by simp only[Ga];omega)).trans ?_;with_reducible assumption)) | (go_keep;done)) (first | (go_at_call 85;refine(HC.out _ ((Ab _ _).drew)).mono ?_;rintro e w9 ⟨hu,b9⟩;subst hu))
   have B9:=Aa (BB.out.trans ((((Ab _ _).drew).trans b9).mono BB.out.size));clear b9 BB c0 c1 d0 d1 HC;go_wp2;go_roundw
   case rel=>exact⟨k+1,hlt,by go_num,B9.out⟩
   case measure=>simp[intOf];omega
  ·go_wp2;go_ret;exact⟨rfl,hb⟩
theorem Tryz.infoFun:(Tryz.prog.info? 130).map (fun i=>(i.zero,i.size,i.bytes))=some (some (.agg #[.int .i64 0,.slice none 0 0]),2,32):=by kernel_rfl
theorem Qu {fl:List (Int×Value)}{ys:List Value}{n k:Nat}(hk:fl.length=k) (h:ys.length=n*2) (hn:k < n) (a:Int) (u:Value):
  ((By EF fl++ys.drop (k*2)).set (k*2) (.int .i64 a)).set (k*2+1) u=By EF (fl++ [(a,u)])++ys.drop ((k+1)*2):=by
 have hf:(By EF fl).length=k*2:=by rw[Hn Jd,hk]
 have hd:ys.drop (k*2)=ys[k*2]'(by omega)::ys[k*2+1]'(by omega)::ys.drop (k*2+2):=by
  rw[List.drop_eq_getElem_cons (by omega),List.drop_eq_getElem_cons (by omega)]
 rw[hd,GY _ _ (by omega),GY _ _ (by omega),hf,FC,show k*2+1 - k*2=1 by omega,Lr,GW,show(k+1)*2=k*2+2 by omega];rfl
theorem Qv {B:Nat}(v:Value) (fs:List F2) (w:World) (hr:RdF B w v fs) (hn:fs.length≤4294967296) (hm:tot fs≤4294967296):
  Calls Pq 31 #[v] w fun e w'=>∃v',e= .returned v'∧OwnF w.heap.size w' v' fs∧Below w.heap.size w w':=by
 obtain⟨i0,hi,hz0,hz1,hz2⟩:=info_parts Tryz.infoFun;have HR:=Aa (fun(W:World) (hb:Below w.heap.size w W)=>hr.below' hb);obtain⟨a,cap,rfl⟩:=hr.form;clear hr;go_enter Tryz.func31,Tryz.ntmps31;go_wp2_with (refine Fz _ rfl (.tmp 6) (.tmp 6) 45 rfl w.heap.size 130 i0 (.agg #[.int .i64 0,.slice none 0 0]) 2 Tryz.underlying45 hi hz0 hz1 .i64 .i64 _ _ fs.length rfl rfl rfl rfl ?_ ?_ ?_ ?_)
 ·rw[hz2];omega
 ·unfold maxLen;omega
 ·exact Ad _
 ·intro w1 hown hgrow;have hb1:Below w.heap.size w w1:=(Ab _ _).grown hgrow (Ad _) (by simp);obtain⟨xs,hown,hlen⟩:∃xs,w1.ownsRow w.heap.size 130 2 (.slice (some ⟨w.heap.size,0,none⟩) fs.length fs.length) fs.length xs∧xs.length=fs.length*2:=⟨_,hown,by simpa using hown.1⟩;have HL:=Aa hlen;have hgz:=(hown.lt _ rfl).2;have HO:=Aa hown;have HB:=Aa hb1;clear hlen hgrow hown hb1;go_wp2
  go_loopw [4] (fun i wr=>∃ (k:Nat) (fl:List (Int×Value)),k≤fs.length∧i= .int .i64 k∧Hid (fl.length=k)∧wr.ownsRow w.heap.size 130 2 (.slice (some ⟨w.heap.size,0,none⟩) fs.length fs.length) fs.length (By EF fl++xs.drop (k*2))∧
   (∀j (h:j < fl.length) (h':j < fs.length),fl[j].1=fs[j].f∧wr.ownsRow (w.heap.size+1) 194 3 fl[j].2 fs[j].os.length (By O3.enc fs[j].os))∧fl.Pairwise (fun x y=>Blk x.2 y.2)∧w.heap.size+1≤wr.heap.size∧Below w.heap.size w wr) (fun i _=>fs.length - (intOf i).toNat)
  case atStart=>exact⟨0,[],Ao _,rfl,Aa rfl,by simpa [By] using HO.out,fun j h=>absurd h (by simp),List.Pairwise.nil,hgz,HB.out⟩
  case round=>
   clear HO HB;obtain⟨k,fl,hk,rfl,hfl,ho,hin,hpw,hgz2,hb⟩:=hrel;by_cases hlt:k < fs.length
   ·obtain⟨b,off,cap',lv,hs,hB,hbs,hcap,c0,c1,ro⟩:=(HR.out _ hb).at_ hlt;cases hs
    obtain⟨la,lc,rfl⟩:=ro.form;have hmem:=Hr (An hlt);have hto:=Qn fs[k].f _ fs[k].os wr ro (by omega);have hkl:(k:Int) < (fs.length:Int):=by omega
    have HT:=Aa hto;have HO:=Aa ho;have HI:=Aa hin;have HP:=Aa hpw;have HB:=Aa hb;have hbz:=hb.size;clear hto ho hin hpw hb ro hmem;go_wp2_with fail;refine HT.out.mono ?_;rintro e w2 ⟨v2,rfl,o2,b2⟩;obtain⟨a2,c2,rfl⟩:=AR o2;have ho:=Bm HO.out b2 (A5 HO.out);have hrl:(By EF fl++xs.drop (k*2)).length=fs.length*2:=by
     rw[Bl,Hn Jd,hfl.out,Kg,HL.out];omega
    have d0:=BP ho (k*2) (by omega);have d1:=BP ho (k*2+1) (by omega);rw[Ay (by omega)]at d0 d1;have f0:=Cg ho (k*2);have f1:=Cg ho (k*2+1);have b3:=b2.mono hbz;have ho3:=Ch (Ch ho (k*2) (by omega) (.int .i64 fs[k].f)) (k*2+1) (by omega) (.slice a2 fs[k].os.length c2);rw[Qu hfl.out HL.out hlt]at ho3;have hin3:∀j (h:j < (fl++ [(fs[k].f,Value.slice a2 fs[k].os.length c2)]).length) (h':j < fs.length),(fl++ [(fs[k].f,Value.slice a2 fs[k].os.length c2)])[j].1=fs[j].f∧
      ((w2.setCell ⟨w.heap.size,k*2,none⟩ (.int .i64 fs[k].f)).setCell ⟨w.heap.size,k*2+1,none⟩ (.slice a2 fs[k].os.length c2)).ownsRow (w.heap.size+1) 194 3 (fl++ [(fs[k].f,Value.slice a2 fs[k].os.length c2)])[j].2 fs[j].os.length (By O3.enc fs[j].os):=by
     intro j h h';have hset:∀ {u:Value} {n:Nat} {ys:List Value},w2.ownsRow (w.heap.size+1) 194 3 u n ys→((w2.setCell ⟨w.heap.size,k*2,none⟩ (.int .i64 fs[k].f)).setCell ⟨w.heap.size,k*2+1,none⟩ (.slice a2 fs[k].os.length c2)).ownsRow (w.heap.size+1) 194 3 u n ys:=fun h=>
      CE (CE h (by show w.heap.size < _;omega) _) (by show w.heap.size < _;omega) _
     by_cases hj:j < fl.length
     ·rw[IB hj];exact⟨(HI.out j hj h').1,hset (Bm (HI.out j hj h').2 b2 (A5 (HI.out j hj h').2))⟩
     ·have hje:j=k:=by simp at h;have:=hfl.out;omega
      subst hje;rw[Ka (by omega)];simp only[hfl.out,FC,List.getElem_cons_zero];exact⟨trivial,hset (CS o2 hgz2)⟩
    have hpw3:(fl++ [(fs[k].f,Value.slice a2 fs[k].os.length c2)]).Pairwise (fun x y=>Blk x.2 y.2):=by
     rw[List.pairwise_append];refine⟨HP.out,List.pairwise_singleton _ _,fun x hx y hy p q hp hq=> ?_⟩;obtain rfl:=List.mem_singleton.1 hy;obtain⟨j,hj,rfl⟩:=Ki.1 hx;have h1:=A5 (HI.out j hj (by have:=hfl.out;omega)).2 p hp;have h2:=(o2.lt q hq).1;omega
    have HO3:=Aa ho3;have HI3:=Aa hin3;have HP3:=Aa hpw3;have HB3:=Aa (((HB.out.trans b3).setCell (p:=⟨w.heap.size,k*2,none⟩) (Ad _) (.int .i64 fs[k].f)).setCell (p:=⟨w.heap.size,k*2+1,none⟩) (Ad _) (.slice a2 fs[k].os.length c2));have hsz2:=b2.size;clear c0 c1 HT HO HI HP HB ho ho3 hin3 hpw3 b2 b3 o2;go_wp2;go_roundw
    case rel=>exact⟨k+1,_,hlt,by go_num,Aa (by rw[Bl,hfl.out];rfl),HO3.out,HI3.out,HP3.out,by simp;omega,HB3.out⟩
    case measure=>simp[intOf];omega
   ·obtain rfl:k=fs.length:=by omega
    have hown:OwnF w.heap.size wr (.slice (some ⟨w.heap.size,0,none⟩) fs.length fs.length) fs:=by
     refine⟨fl,?_,hfl.out,fun j h h'=>⟨(hin j h h').1,CS (hin j h h').2 (AJ _)⟩,fun x hx p q hp hq=> ?_,hpw⟩
     ·rw[List.drop_eq_nil_of_le (by rw[HL.out];exact Ad _),List.append_nil]at ho;exact ho
     ·have e:w.heap.size=p:=Am hp;obtain⟨j,hj,rfl⟩:=Ki.1 hx;have:=((hin j hj (by have:=hfl.out;omega)).2.lt q hq).1;omega
    have HO:=Aa hown;have HB:=Aa hb;clear hown ho hin hpw hb;go_wp2;go_ret;exact⟨_,rfl,HO.out,HB.out⟩
def OwnH (base hi:Nat) (w:World) (v:Value) (fs:List F2):Prop:=∃fl:List (Int×Value),(w.ownsRow base 130 2 v fs.length (By EF fl)∧fl.length=fs.length∧
 (∀j (h:j < fl.length) (h':j < fs.length),fl[j].1=fs[j].f∧w.ownsRow base 194 3 fl[j].2 fs[j].os.length (By O3.enc fs[j].os))∧(∀x∈fl,Blk v x.2)∧fl.Pairwise (fun x y=>Blk x.2 y.2))∧
 (∀q,v.ownBlock=some q→q < hi)∧ ∀x∈fl,∀q,x.2.ownBlock=some q→q < hi
theorem MR {base hi:Nat}{e:TypeId}{sz n:Nat}{w w':World}{v:Value}{xs:List Value}(h:w.ownsRow base e sz v n xs) (hv:∀q,v.ownBlock=some q→q < hi) (hs:∀k,base≤k→k < hi→w'.heap[k]?=w.heap[k]?):w'.ownsRow base e sz v n xs:=by
 refine⟨h.1,?_⟩;rcases h.2 with hn |⟨b,cap,cur,rfl,hbs,hg,rest⟩
 ·exact .inl hn
 ·exact .inr ⟨b,cap,cur,rfl,hbs,by rw[hs b hbs (hv b rfl)];exact hg,rest⟩
theorem OwnH.same {base hi:Nat}{w w':World}{v:Value}{fs:List F2}(h:OwnH base hi w v fs) (hs:∀k,base≤k→k < hi→w'.heap[k]?=w.heap[k]?):OwnH base hi w' v fs:=by
 obtain⟨fl,⟨h1,h2,h3,h4⟩,h5,h6⟩:=h;exact⟨fl,⟨MR h1 h5 hs,h2,fun j a b=>⟨(h3 j a b).1,MR (h3 j a b).2 (h6 _ (An a)) hs⟩,h4⟩,h5,h6⟩
theorem OwnH.mono {base hi hi':Nat}{w:World}{v:Value}{fs:List F2}(h:OwnH base hi w v fs) (hh:hi≤hi'):OwnH base hi' w v fs:=by
 obtain⟨fl,h1,h5,h6⟩:=h;exact⟨fl,h1,fun q hq=>Ah (h5 q hq) hh,fun x hx q hq=>Ah (h6 x hx q hq) hh⟩
theorem OwnH.row {base hi:Nat}{w:World}{v:Value}{fs:List F2}(h:OwnH base hi w v fs):∃xs,w.ownsRow base 130 2 v fs.length xs∧ ∀q,v.ownBlock=some q→base≤q∧q < hi:=by
 obtain⟨fl,⟨h1,_⟩,h5,_⟩:=h;exact⟨_,h1,fun q hq=>⟨(h1.lt q hq).1,h5 q hq⟩⟩
theorem OwnH.form {base hi:Nat}{w:World}{v:Value}{fs:List F2}(h:OwnH base hi w v fs):∃a cap,v= .slice a fs.length cap:=by
 obtain⟨xs,h1,_⟩:=h.row;exact AR h1
theorem OwnH.nil {base hi:Nat}{w:World}{v:Value}(h:w.ownsRow base 130 2 v 0 []) (hv:∀q,v.ownBlock=some q→q < hi):OwnH base hi w v []:=
 ⟨[],⟨h,rfl,fun j a=>absurd a (by simp),fun x hx=>by simp at hx,List.Pairwise.nil⟩,hv,fun x hx=>by simp at hx⟩
theorem OwnH.grown {base hi:Nat}{w w':World}{row:Option Nat}{v:Value}{fs:List F2}(h:OwnH base hi w v fs) (g:w.grownBy w' row) (hh:hi≤w.heap.size) (hr:∀r,row=some r→r < base∨hi≤r):OwnH base hi w' v fs:=
 h.same (fun q h1 h2=>g.block q (by omega) (fun e=>by have:=hr q e.symm;omega))
theorem OwnH.below {base hi B:Nat}{w w':World}{v:Value}{fs:List F2}(h:OwnH base hi w v fs) (b:Below B w w') (hh:hi≤B):OwnH base hi w' v fs:=
 h.same (fun q h1 h2=>b.block q (by omega))
theorem Bx.put {w:World}{g:Nat}{cur:Array Value}(h:Bx w g cur) (i:Nat) (hi:i < cur.size) (u:Value):Bx (w.setCell ⟨g,i,none⟩ u) g (cur.setIfInBounds i u):=by
 refine⟨by rw[AP];exact h.1,fun j=> ?_,fun j=>by rw[World.frozen?_setCell];exact h.2.2 j⟩;by_cases hj:i=j
 ·subst hj;rw[World.cell?_setCell_same _ _ _ ((h.2.1 i).trans (J8 hi))];simp[hi]
 ·rw[Kh _ _ _ _ (by intro he;injection he;exact hj (by assumption)),h.2.1 j,Array.getElem?_setIfInBounds_ne hj]
theorem SI {w x:World}{A B:Array Value}{e f:TypeId}(h:(w.alloc (.cells A e)).alloc (.cells B f)=x):
  Below w.heap.size w x∧Bx x w.heap.size A∧Bx x (w.heap.size+1) B∧x.heap.size=w.heap.size+2:=by
 obtain⟨b1,k1⟩:=Bx.alloc (w:=w) (cur:=A) (e:=e) rfl;obtain⟨b2,k2⟩:=Bx.alloc (w:=w.alloc (.cells A e)) (cur:=B) (e:=f) rfl;have s1:(w.alloc (.cells A e)).heap.size=w.heap.size+1:=by simp
 rw[s1]at k2 b2;subst h;exact⟨b1.trans (b2.mono (by omega)),k1.below b2 (by omega),k2,by simp⟩
theorem OJ (c n m:Int) (w:World):
  Calls Pq 74 #[.agg #[.int .i64 c,.int .i64 n,.int .i64 m]] w fun e w'=>e= .returned (.agg #[.int .i64 c,.int .i64 n,.int .i64 m])∧Below w.heap.size w w':=by
 go_enter Tryz.func74,Tryz.ntmps74;go_wp2;refine Aq (v:= .agg #[.int .i64 c,.int .i64 n,.int .i64 m]) ?_ rfl ⟨rfl,?_⟩
 ·simp[results,Tryz.results74,go_sem]
 ·repeat(with_reducible refine Below.setCell ?_ (by dsimp only;omega) _)
  exact(((Ab _ _).alloc (Ad _) _).alloc (by simp) _).alloc (by simp;omega) _
theorem OK {B:Nat}(v:Value) (os:List O3) (left:Int) (w:World) (hr:RdO B w v os) (h0:-1≤left) (h1:left≤4611686018427387904):
  Calls Pq 24 #[v,.int .i64 left] w fun e w'=>e= .returned (.int .i64 (Ak os.length left))∧w=w':=by
 have hx:=hr.len;unfold maxLen at hx;obtain⟨a,cap,rfl⟩:=hr.form;clear hr;by_cases hneg:left - os.length < 0
 ·have HF:=Aa (show Ak os.length left= -1 from Af hneg);go_enter Tryz.func24,Tryz.ntmps24;go_wp2;go_ret;exact⟨Ap HF.out.symm,rfl⟩
 ·have HF:=Aa (show Ak os.length left=left - os.length from Ae hneg);go_enter Tryz.func24,Tryz.ntmps24;go_wp2;go_ret;exact⟨Ap HF.out.symm,rfl⟩
theorem Tryz.infoCall:(Tryz.prog.info? 127).map (fun i=>(i.zero,i.size,i.bytes))=some (some (.agg #[.int .i64 0,.int .i64 0,.int .i64 0]),3,24):=by kernel_rfl
theorem OL {B:Nat}(v:Value) (os:List O3) (w:World) (hr:RdO B w v os) (hn:os.length≤4294967296):
  Calls Pq 34 #[v] w fun e w'=>∃v',e= .returned v'∧w'.ownsRow w.heap.size 127 3 v' os.length (By O3.enc os)∧Below w.heap.size w w':=by
 obtain⟨i0,hi,hz0,hz1,hz2⟩:=info_parts Tryz.infoCall;have HR:=Aa hr;obtain⟨a,cap,rfl⟩:=hr.form;clear hr;go_enter Tryz.func34,Tryz.ntmps34;go_wp2_with (refine Fz _ rfl (.tmp 6) (.tmp 6) 47 rfl w.heap.size 127 i0 (.agg #[.int .i64 0,.int .i64 0,.int .i64 0]) 3 Tryz.underlying47 hi hz0 hz1 .i64 .i64 _ _ os.length rfl rfl rfl rfl ?_ ?_ ?_ ?_)
 ·rw[hz2];omega
 ·unfold maxLen;omega
 ·exact Ad _
 ·intro w1 hown hgrow;have hb1:Below w.heap.size w w1:=(Ab _ _).grown hgrow (Ad _) (by simp);obtain⟨xs,hown,hlen⟩:∃xs,w1.ownsRow w.heap.size 127 3 (.slice (some ⟨w.heap.size,0,none⟩) os.length os.length) os.length xs∧xs.length=os.length*3:=⟨_,hown,by simpa using hown.1⟩;have HL:=Aa hlen;clear hlen;go_wp2
  go_loopw [4] (fun i wr=>∃k:Nat,k≤os.length∧i= .int .i64 k∧wr.ownsRow w.heap.size 127 3 (.slice (some ⟨w.heap.size,0,none⟩) os.length os.length) os.length (Dy O3.enc 3 os xs k)∧Below w.heap.size w wr) (fun i _=>os.length - (intOf i).toNat)
  case atStart=>exact⟨0,Ao _,rfl,by rw[Ls];exact hown,hb1⟩
  case round=>
   obtain⟨k,hk,rfl,ho,hb⟩:=hrel;by_cases hlt:k < os.length
   ·obtain⟨b,off,cap',hs,hB,hbs,hcap,c0,c1,c2⟩:=RdO.at_ HR.out hlt;cases hs
    replace c0:=(hb.cell (p:=⟨b,off+k*3,none⟩) hbs).trans c0;replace c1:=(hb.cell (p:=⟨b,off+k*3+1,none⟩) hbs).trans c1;replace c2:=(hb.cell (p:=⟨b,off+k*3+2,none⟩) hbs).trans c2;go_wp2_with fail;refine(OJ _ _ _ _).mono ?_;rintro e w2 ⟨rfl,b2⟩;replace ho:=Bm ho b2 (A5 ho);replace hb:=hb.trans (b2.mono hb.size);clear c0 c1 c2 b2;have hrl:(Dy O3.enc 3 os xs k).length=os.length*3:=Lu O3.enc_len HL.out hk;have d0:=BP ho (k*3) (by omega);have d1:=BP ho (k*3+1) (by omega);have d2:=BP ho (k*3+2) (by omega);rw[Ay (by omega)]at d0 d1 d2;have f0:=Cg ho (k*3);have f1:=Cg ho (k*3+1);have f2:=Cg ho (k*3+2);go_wp2;go_roundw
    case rel=>
     refine⟨k+1,hlt,by go_num,?_,((hb.setCell (Ad _) _).setCell (Ad _) _).setCell (Ad _) _⟩;rw[←Lv O3.enc_len HL.out (Ay hlt) rfl];exact Ch (Ch (Ch ho _ (by omega) _) _ (by omega) _) _ (by omega) _
    case measure=>simp[intOf];omega
   ·obtain rfl:k=os.length:=by omega
    go_wp2;go_ret;refine⟨_,rfl,?_,hb⟩;rw[←Lt HL.out];exact ho
theorem OM (o p:O3) (w:World):
  Calls Pq 86 #[.agg #[.int .i64 o.c,.int .i64 o.n,.int .i64 o.m],.agg #[.int .i64 p.c,.int .i64 p.n,.int .i64 p.m]] w fun e w'=>e= .returned (.bool (decide (o=p)))∧Below w.heap.size w w':=by
 go_enter Tryz.func86,Tryz.ntmps86;go_wp2
 all_goals go_ret
 all_goals refine⟨Ac ?_,((Ab _ _).alloc (Ad _) _).alloc (by simp) _⟩
 ·exact ML (by assumption)
 ·exact MM (by assumption)
 ·exact MN (by assumption)
 ·exact MO (by assumption) (by assumption) (by assumption)
theorem ON {B1 B2:Nat}(va vb:Value) (xs ys:List O3) (w:World) (ha:RdO B1 w va xs) (hb:RdO B2 w vb ys):
  Calls Pq 44 #[va,vb] w fun e w'=>e= .returned (.bool (decide (xs=ys)))∧Below w.heap.size w w':=by
 have hx:=ha.len;have hy:=hb.len;unfold maxLen at hx hy;have HA:=Aa ha;have HB:=Aa hb;obtain⟨a1,cap1,rfl⟩:=ha.form;obtain⟨a2,cap2,rfl⟩:=hb.form;clear ha hb;by_cases hl:xs.length=ys.length
 ·have hne:((xs.length:Int) !=(ys.length:Int))=false:=by simp[hl]
  have HL:=Aa hl;clear hl;go_enter Tryz.func44,Tryz.ntmps44;go_wp2
  go_loopw [5] (fun i wr=>∃k:Nat,k≤xs.length∧i= .int .i64 k∧Below w.heap.size w wr∧Hid (∀j,j < k→xs[j]?=ys[j]?)) (fun i _=>xs.length - (intOf i).toNat)
  case atStart=>exact⟨0,Ao _,rfl,Ab _ _,fun j hj=>by omega⟩
  case round=>
   obtain⟨k,hk,rfl,hb,hd⟩:=hrel;by_cases hlt:k < xs.length
   ·have hlt2:k < ys.length:=by rw[←HL.out];exact hlt
    obtain⟨b,off,cap',hs,hB,hbs,hcap,c0,c1,c2⟩:=RdO.at_ HA.out hlt;cases hs
    obtain⟨b',off',cap'',hs',hB',hbs',hcap',d0,d1,d2⟩:=RdO.at_ HB.out hlt2;cases hs'
    replace c0:=(hb.cell (p:=⟨b,off+k*3,none⟩) hbs).trans c0;replace c1:=(hb.cell (p:=⟨b,off+k*3+1,none⟩) hbs).trans c1;replace c2:=(hb.cell (p:=⟨b,off+k*3+2,none⟩) hbs).trans c2;replace d0:=(hb.cell (p:=⟨b',off'+k*3,none⟩) hbs').trans d0;replace d1:=(hb.cell (p:=⟨b',off'+k*3+1,none⟩) hbs').trans d1;replace d2:=(hb.cell (p:=⟨b',off'+k*3+2,none⟩) hbs').trans d2;have hbz:=hb.size;have hz1:b < wr.heap.size:=by omega
    have hz2:b' < wr.heap.size:=by omega
    have BB:=Aa hb;clear hb;obtain⟨q,hq⟩:∃q,decide (xs[k]=ys[k])=q:=⟨_,rfl⟩;have hc:=fun(W:World)=>OM xs[k] ys[k] W;rw[hq]at hc;have HC:=Aa hc;have HQ:=Aa hq;clear hc hq;go_wp2_with fail
    go_region_held3 (fun w'=>w'.cell? ⟨b,off+k*3,none⟩=some (.int .i64 xs[k].c)∧w'.cell? ⟨b,off+k*3+1,none⟩=some (.int .i64 xs[k].n)∧w'.cell? ⟨b,off+k*3+2,none⟩=some (.int .i64 xs[k].m)∧w'.cell? ⟨b',off'+k*3,none⟩=some (.int .i64 ys[k].c)∧w'.cell? ⟨b',off'+k*3+1,none⟩=some (.int .i64 ys[k].n)∧w'.cell? ⟨b',off'+k*3+2,none⟩=some (.int .i64 ys[k].m))
     (first | (go_split_ands;refine⟨?_,?_,?_,?_,?_,?_⟩ <;> (refine(b9.cell (by simp only[Ga];omega)).trans ?_;with_reducible assumption)) | (go_keep;done)) (first | (go_at_call 86;refine(HC.out _).mono ?_;rintro e w9 ⟨hu,b9⟩;subst hu))
    have B9:=Aa (BB.out.trans ((((Ab _ _).drew).trans b9).mono BB.out.size));clear b9 BB c0 c1 c2 d0 d1 d2 HC;cases q
    ·go_wp2;go_ret;exact⟨Ac (by symm;rw[Dr];rintro rfl;simpa using HQ.out),B9.out⟩
    ·go_wp2;go_roundw
     case rel=>exact⟨k+1,hlt,by go_num,B9.out,Aa (MP HL.out hlt hlt2 hd.out (by simpa using HQ.out))⟩
     case measure=>simp[intOf];omega
   ·go_wp2;go_ret;exact⟨Ac (by rw[MQ HL.out (fun j hj=>hd.out j (by omega))];simp),hb⟩
 ·have hne:((xs.length:Int) !=(ys.length:Int))=true:=by simp;omega
  have hf:decide (xs=ys)=false:=by simp;intro h;exact hl (by rw[h])
  have HF:=Aa hf;clear hf hl;go_enter Tryz.func44,Tryz.ntmps44;go_wp2;go_ret;exact⟨Ac HF.out.symm,Ab _ _⟩
def hv (v:Value) (h b n:Int):Value:= .agg #[v,.int .i64 h,.int .i64 b,.int .i64 n]
theorem QG {B1 B2:Nat}(va vb:Value) (xs:List Int) (h b n:Int) (w:World) (ra:Rd B1 .i64 w va xs) (rb:Rd B2 .i64 w vb xs):
  Calls Pq 42 #[.agg #[va,.int .i64 h,.int .i64 b,.int .i64 n],.agg #[vb,.int .i64 h,.int .i64 b,.int .i64 n]] w fun e w'=>e= .returned (.bool true)∧Below w.heap.size w w':=by
 have ra':=fun(w':World) (hb:Below w.heap.size w w')=>ra.below' hb;have rb':=fun(w':World) (hb:Below w.heap.size w w')=>rb.below' hb;obtain⟨a1,c1,rfl⟩:=ra.form;obtain⟨a2,c2,rfl⟩:=rb.form;clear ra rb;go_enter Tryz.func42,Tryz.ntmps42;go_wp2_with fail;refine(Ja _ _ _ _ _ (ra' _ ?_) (rb' _ ?_)).mono ?_
 ·exact((Ab _ _).alloc (Ad _) _).alloc (by simp) _
 ·exact((Ab _ _).alloc (Ad _) _).alloc (by simp) _
 rintro e w1 ⟨rfl,n1,rfl⟩;rw[Ax rfl];go_wp2;go_ret;refine⟨rfl,?_⟩;exact AM (((Ab _ _).alloc (Ad _) _).alloc (by simp) _) _
end Go.Proofs.YtifhcbeaiijkcaaGreat
end
