/- Parts of the proof of FnExactJudgeSame. -/
import Derived.Test.YtifhcbeaiijkcaaGreatJ22
import Derived.Test.YtifhcbeaiijkcaaGreatJ43
import Derived.Test.YtifhcbeaiijkcaaGreatJ25
set_option linter.unusedVariables false
set_option linter.unusedSimpArgs false
set_option maxRecDepth 1000000
set_option maxHeartbeats 16000000
namespace Go.Proofs.YtifhcbeaiijkcaaGreat
open Go.RowKit
open _root_.Go.World renaming alloc→Wa,setCell→Ws
open _root_.Go.Proofs.Tryz renaming prog→Pq
def Keeps (lo:Nat) (w W:World):Prop:=w.heap.size≤W.heap.size∧ ∀b,lo≤b→b < w.heap.size→W.heap[b]?=w.heap[b]?
theorem Keeps.refl (lo:Nat) (w:World):Keeps lo w w:=⟨Ad _,fun _ _ _=>rfl⟩
theorem Keeps.mono {lo lo':Nat}{w W:World}(h:Keeps lo w W) (hl:lo≤lo'):Keeps lo' w W:=⟨h.1,fun b hb hw=>h.2 b (At hl hb) hw⟩
theorem Keeps.trans {lo:Nat}{w W V:World}(h:Keeps lo w W) (h':Keeps lo W V):Keeps lo w V:=⟨At h.1 h'.1,fun b hb hw=>(h'.2 b hb (Ah hw h.1)).trans (h.2 b hb hw)⟩
theorem Keeps.below {lo:Nat}{w W:World}(h:Below w.heap.size w W):Keeps lo w W:=⟨h.size,fun b _ hw=>h.block b hw⟩
theorem Keeps.set {lo b o:Nat}{w:World}(hb:b < lo) (v:Value):Keeps lo w (w.setCell ⟨b,o,none⟩ v):=
 ⟨by rw[AP];exact Ad _,fun q hq hl=>(grownBy.setCell w b o v).block q hl (fun e=>by have:=Am e;omega)⟩
def ToS (w:World) (e:Ending) (w':World) (P:World→Value→Prop):Prop:=∃v,e= .returned v∧Below w.heap.size w w'∧ ∀W,Keeps w.heap.size w' W→P W v
theorem Te (x:Tp) (a:Option Addr) (c:Nat) (w:World)
  (HS:∀ (W:World),Below w.heap.size w W→Calls Pq 220 #[.slice a x.kids.length c] W fun e W'=>ToS W e W' (fun V v=>RdTps V.heap.size V v x.kids)):
  Calls Pq 242 #[.agg #[.int .i64 x.op,.int .i64 x.n,.string x.s,.slice a x.kids.length c]] w fun e w'=>∃kv,e= .returned (.agg #[.int .i64 x.op,.int .i64 x.n,.string x.s,kv])∧Below w.heap.size w w'∧ ∀V,Keeps w.heap.size w' V→RdTps V.heap.size V kv x.kids:=by
 generalize x.op=f_op at*;generalize x.n=f_n at*;generalize x.s=f_s at*;generalize x.kids=ks at*;have HQ:=Aa HS;clear HS;go_enter Tryz.func242,Tryz.ntmps242;go_wp2_with fail;generalize hx:Wa (Wa (Wa _ _) _) _=x0;obtain⟨bb,k1,k2,k3⟩:=Gn hx;have sx:x0.heap.size=w.heap.size+3:=by rw[←hx];simp only[Bo]
 clear hx;refine(HQ.out x0 bb).mono ?_;rintro e w2 ⟨v2,rfl,b2,hst⟩;obtain⟨a2,c2,rfl⟩:=(hst w2 (Keeps.refl _ _)).form;have K2:=k2.below b2 k2.1;have K3:=k3.below b2 k3.1;have BB:=Aa (bb.trans (b2.mono bb.size));have HST:=Aa hst;have hz2:w.heap.size+3≤w2.heap.size:=by rw[←sx];exact b2.size
 have hne:w.heap.size+1≠w.heap.size+2:=by omega
 have ck2:=K2.2.1;have yk2:=K2.1;have fk2:=K2.2.2;have ck3:=K3.2.1;have yk3:=K3.1;have fk3:=K3.2.2;clear bb b2 k1 k2 k3 hst HQ;go_wp2;have k5:=(((((K2.grown (grownBy.setCell w2 (w.heap.size+2) 3 (.slice a2 ks.length c2)) (fun e=>by have:=Am e;omega)).st 0 (by simp) (.int .i64 f_op)).st 1 (by simp) (.int .i64 f_n)).st 2 (by simp) (.string f_s)).st 3 (by simp) (.slice a2 ks.length c2)).2.1;have hg5:Keeps (w.heap.size+3) w2 (((((w2.setCell ⟨w.heap.size+2,3,none⟩ (.slice a2 ks.length c2)).setCell ⟨w.heap.size+1,0,none⟩ (.int .i64 f_op)).setCell ⟨w.heap.size+1,1,none⟩ (.int .i64 f_n)).setCell ⟨w.heap.size+1,2,none⟩ (.string f_s)).setCell ⟨w.heap.size+1,3,none⟩ (.slice a2 ks.length c2)):=by
  refine Keeps.trans ?_ (Keeps.set (by omega) _);refine Keeps.trans ?_ (Keeps.set (by omega) _);refine Keeps.trans ?_ (Keeps.set (by omega) _);refine Keeps.trans ?_ (Keeps.set (by omega) _);refine Keeps.trans ?_ (Keeps.set (by omega) _);exact Keeps.refl _ _
 have hb5:Below w.heap.size w (((((w2.setCell ⟨w.heap.size+2,3,none⟩ (.slice a2 ks.length c2)).setCell ⟨w.heap.size+1,0,none⟩ (.int .i64 f_op)).setCell ⟨w.heap.size+1,1,none⟩ (.int .i64 f_n)).setCell ⟨w.heap.size+1,2,none⟩ (.string f_s)).setCell ⟨w.heap.size+1,3,none⟩ (.slice a2 ks.length c2)):=by
  repeat(with_reducible refine Df ?_ (by first |exact Eu _ _ | (show w.heap.size≤_;omega)) _)
  exact BB.out
 refine Aq (v:= .agg #[.int .i64 f_op,.int .i64 f_n,.string f_s,.slice a2 ks.length c2]) ?_ rfl ⟨_,rfl,hb5,fun V hV=>HST.out V ?_⟩
 ·simp[results,Tryz.results242,go_sem,k5]
 ·rw[sx];exact hg5.trans (hV.mono (by omega))
theorem Tryz.infoToTy:(Tryz.prog.info? 158).map (fun i=>(i.zero,i.size,i.bytes))=some (some (.agg #[.int .i64 0,.int .i64 0,.string ⟨#[]⟩,.slice none 0 0]),4,56):=by kernel_rfl
theorem Tf {B:Nat}(v:Value) (ks:List Tp) (w:World) (hr:RdTps B w v ks) (hn:ks.length≤1048576)
  (HE:∀ (k:Nat) (h:k < ks.length) (kv:Value) (B':Nat) (W:World),RdTps B' W kv ks[k].kids→Calls Pq 242 #[.agg #[.int .i64 ks[k].op,.int .i64 ks[k].n,.string ks[k].s,kv]] W fun e W'=>∃kv',e= .returned (.agg #[.int .i64 ks[k].op,.int .i64 ks[k].n,.string ks[k].s,kv'])∧Below W.heap.size W W'∧ ∀V,Keeps W.heap.size W' V→RdTps V.heap.size V kv' ks[k].kids):
  Calls Pq 220 #[v] w fun e w'=>ToS w e w' (fun V v'=>RdTps V.heap.size V v' ks):=by
 obtain⟨i0,hi,hz0,hz1,hz2⟩:=info_parts Tryz.infoToTy;have HR:=Aa (fun(W:World) (hb:Below w.heap.size w W)=>hr.later' hb);have HQ:=Aa HE;obtain⟨a,cap0,rfl⟩:=hr.form;clear hr HE;go_enter Tryz.func220,Tryz.ntmps220;go_wp2_with (refine Fz _ rfl (.tmp 6) (.tmp 6) 156 rfl w.heap.size 158 i0 (.agg #[.int .i64 0,.int .i64 0,.string ⟨#[]⟩,.slice none 0 0]) 4 Tryz.underlying156 hi hz0 hz1 .i64 .i64 _ _ ks.length rfl rfl rfl rfl ?_ ?_ ?_ ?_)
 ·rw[hz2];omega
 ·unfold maxLen;omega
 ·exact Ad _
 ·intro w1 hown hgrow;have hb1:Below w.heap.size w w1:=(Ab _ _).grown hgrow (Ad _) (by simp);obtain⟨xs,hown,hlen⟩:∃xs,w1.ownsRow w.heap.size 158 4 (.slice (some ⟨w.heap.size,0,none⟩) ks.length ks.length) ks.length xs∧xs.length=ks.length*4:=⟨_,hown,by simpa using hown.1⟩;have HL:=Aa hlen;have hgz:=(hown.lt _ rfl).2;have HO:=Aa hown;have HB:=Aa hb1;clear hlen hgrow hown hb1;go_wp2
  go_loopw [4] (fun i wr=>∃ (k:Nat) (kvs:Nat→Value) (ys:List Value),k≤ks.length∧i= .int .i64 k∧Hid (ys.length=ks.length*4)∧wr.ownsRow w.heap.size 158 4 (.slice (some ⟨w.heap.size,0,none⟩) ks.length ks.length) ks.length ys∧
   Hid (∀j (h:j < ks.length),j < k→ys[j*4]?=some (.int .i64 ks[j].op)∧ys[j*4+1]?=some (.int .i64 ks[j].n)∧ys[j*4+2]?=some (.string ks[j].s)∧ys[j*4+3]?=some (kvs j))∧Hid (∀j (h:j < ks.length),j < k→ ∀V,Keeps (w.heap.size+1) wr V→RdTps V.heap.size V (kvs j) ks[j].kids)∧w.heap.size+1≤wr.heap.size∧Below w.heap.size w wr) (fun i _=>ks.length - (intOf i).toNat)
  case atStart=>exact⟨0,fun _=> .int .i64 0,xs,Ao _,rfl,HL,HO.out,Aa (fun j h hj=>absurd hj (Aw j)),Aa (fun j h hj=>absurd hj (Aw j)),hgz,HB.out⟩
  case round=>
   clear HO HB HL;obtain⟨k,kvs,ys,hk,rfl,hyl,ho,hcs,hks,hgz2,hb⟩:=hrel;by_cases hlt:k < ks.length
   ·obtain⟨b,off,cap,kv,hv,hBc,hbsc,hcapc,⟨c0,c1,c2,c3⟩,hk2⟩:=(HR.out _ hb).at_ hlt;cases hv
    obtain⟨la,lc,rfl⟩:=hk2.form;have hkl:(k:Int) < (ks.length:Int):=by omega
    have HT:=Aa (HQ.out k hlt _ _ wr hk2);have HO:=Aa ho;have HB:=Aa hb;have hbz:=hb.size;clear ho hb hk2;go_wp2_with fail;refine HT.out.mono ?_;rintro e w2 ⟨kv2,rfl,b2,hst⟩;obtain⟨a2,cq,rfl⟩:=(hst w2 (Keeps.refl _ _)).form;have ho:=Bm HO.out b2 (A5 HO.out);have hyl2:=hyl.out;obtain⟨y0,d0⟩:∃y,w2.cell? ⟨w.heap.size,k*4,none⟩=some y:=⟨_,(BP ho (k*4) (by omega)).trans (Ay (by omega))⟩;obtain⟨y1,d1⟩:∃y,w2.cell? ⟨w.heap.size,k*4+1,none⟩=some y:=⟨_,(BP ho (k*4+1) (by omega)).trans (Ay (by omega))⟩;obtain⟨y2,d2⟩:∃y,w2.cell? ⟨w.heap.size,k*4+2,none⟩=some y:=⟨_,(BP ho (k*4+2) (by omega)).trans (Ay (by omega))⟩;obtain⟨y3,d3⟩:∃y,w2.cell? ⟨w.heap.size,k*4+3,none⟩=some y:=⟨_,(BP ho (k*4+3) (by omega)).trans (Ay (by omega))⟩;have f0:=Cg ho (k*4);have f1:=Cg ho (k*4+1);have f2:=Cg ho (k*4+2);have f3:=Cg ho (k*4+3);have HO3:=Aa (Ch (Ch (Ch (Ch (ho) (k*4) (by omega) (.int .i64 ks[k].op)) (k*4+1) (by omega) (.int .i64 ks[k].n)) (k*4+2) (by omega) (.string ks[k].s)) (k*4+3) (by omega) (.slice a2 ks[k].kids.length cq));have HY3:=Aa (show((((ys.set (k*4) (.int .i64 ks[k].op)).set (k*4+1) (.int .i64 ks[k].n)).set (k*4+2) (.string ks[k].s)).set (k*4+3) (.slice a2 ks[k].kids.length cq)).length=ks.length*4 by simp only[CK];exact hyl2);have HC3:=Aa (show ∀j (h:j < ks.length),j < k+1→((((ys.set (k*4) (.int .i64 ks[k].op)).set (k*4+1) (.int .i64 ks[k].n)).set (k*4+2) (.string ks[k].s)).set (k*4+3) (.slice a2 ks[k].kids.length cq))[j*4]?=some (.int .i64 ks[j].op)∧((((ys.set (k*4) (.int .i64 ks[k].op)).set (k*4+1) (.int .i64 ks[k].n)).set (k*4+2) (.string ks[k].s)).set (k*4+3) (.slice a2 ks[k].kids.length cq))[j*4+1]?=some (.int .i64 ks[j].n)∧((((ys.set (k*4) (.int .i64 ks[k].op)).set (k*4+1) (.int .i64 ks[k].n)).set (k*4+2) (.string ks[k].s)).set (k*4+3) (.slice a2 ks[k].kids.length cq))[j*4+2]?=some (.string ks[j].s)∧((((ys.set (k*4) (.int .i64 ks[k].op)).set (k*4+1) (.int .i64 ks[k].n)).set (k*4+2) (.string ks[k].s)).set (k*4+3) (.slice a2 ks[k].kids.length cq))[j*4+3]?=some (if j=k then .slice a2 ks[k].kids.length cq else kvs j)from fun j h hj=>by
     by_cases e:j=k
     ·subst e;simp only[if_true];exact⟨by rw[Au (by omega),Au (by omega),Au (by omega),DI (by (try simp only[CK]);omega)],by rw[Au (by omega),Au (by omega),DI (by (try simp only[CK]);omega)],by rw[Au (by omega),DI (by (try simp only[CK]);omega)],by rw[DI (by (try simp only[CK]);omega)]⟩
     ·have hc:=hcs.out j h (by omega);simp only[Ae e];exact⟨by rw[Au (by omega),Au (by omega),Au (by omega),Au (by omega)];exact hc.1,by rw[Au (by omega),Au (by omega),Au (by omega),Au (by omega)];exact hc.2.1,by rw[Au (by omega),Au (by omega),Au (by omega),Au (by omega)];exact hc.2.2.1,by rw[Au (by omega),Au (by omega),Au (by omega),Au (by omega)];exact hc.2.2.2⟩)
    have HK3:=Aa (show ∀j (h:j < ks.length),j < k+1→ ∀V,Keeps (w.heap.size+1) ((((w2.setCell ⟨w.heap.size,k*4,none⟩ (.int .i64 ks[k].op)).setCell ⟨w.heap.size,k*4+1,none⟩ (.int .i64 ks[k].n)).setCell ⟨w.heap.size,k*4+2,none⟩ (.string ks[k].s)).setCell ⟨w.heap.size,k*4+3,none⟩ (.slice a2 ks[k].kids.length cq)) V→RdTps V.heap.size V (if j=k then .slice a2 ks[k].kids.length cq else kvs j) ks[j].kids from fun j h hj V hV=>by
     have h2:Keeps (w.heap.size+1) w2 V:=by
      refine Keeps.trans ?_ hV;refine Keeps.trans ?_ (Keeps.set (by omega) _);refine Keeps.trans ?_ (Keeps.set (by omega) _);refine Keeps.trans ?_ (Keeps.set (by omega) _);refine Keeps.trans ?_ (Keeps.set (by omega) _);exact Keeps.refl _ _
     by_cases e:j=k
     ·subst e;rw[Af rfl];exact hst V (h2.mono hgz2)
     ·rw[Ae e];exact hks.out j h (by omega) V ((Keeps.below b2).trans h2))
    have HB3:=Aa (show Below w.heap.size w ((((w2.setCell ⟨w.heap.size,k*4,none⟩ (.int .i64 ks[k].op)).setCell ⟨w.heap.size,k*4+1,none⟩ (.int .i64 ks[k].n)).setCell ⟨w.heap.size,k*4+2,none⟩ (.string ks[k].s)).setCell ⟨w.heap.size,k*4+3,none⟩ (.slice a2 ks[k].kids.length cq))by
     repeat(with_reducible refine Df ?_ (by exact Ad _) _)
     exact HB.out.trans (b2.mono hbz))
    have hsz2:=b2.size;clear c0 c1 c2 c3 HT HO HB ho b2 hst hyl2;go_wp2;go_roundw
    case rel=>exact⟨k+1,_,_,hlt,by go_num,HY3,HO3.out,HC3,HK3,by simp;omega,HB3.out⟩
    case measure=>simp[intOf];omega
   ·obtain rfl:k=ks.length:=by omega
    have HO:=Aa ho;have HB:=Aa hb;have hgl:=(ho.lt _ rfl).2;clear ho hb;go_wp2;go_ret;refine⟨_,rfl,HB.out,fun V hV=> ?_⟩;have hbk:=hV.2 _ (Ad _) hgl;have hgV:w.heap.size < V.heap.size:=Ah hgl hV.1;have hcl:=fun(j:Nat) (hj:j < ks.length) (t:Nat) (ht:t < 4)=>(CD (a:=⟨w.heap.size,j*4+t,none⟩) hbk).trans (BP HO.out (j*4+t) (by omega));refine .row _ 0 _ ks kvs hgV hgV ⟨by unfold maxLen;omega,Ad _⟩ (fun j hj=> ?_) (fun j hj=>hks.out j hj hj V (hV.mono (AJ _)));have hc:=hcs.out j hj hj;exact⟨by rw[BS];exact(hcl j hj 0 (by omega)).trans hc.1,by rw[BS];exact(hcl j hj 1 (by omega)).trans hc.2.1,by rw[BS];exact(hcl j hj 2 (by omega)).trans hc.2.2.1,by rw[BS];exact(hcl j hj 3 (by omega)).trans hc.2.2.2⟩
theorem MY:∀ (N:Nat) (ks:List Tp) (v:Value) (B:Nat) (w:World),wgT.wgTs ks < N→wgT.wgTs ks≤1048576→RdTps B w v ks→
  Calls Pq 220 #[v] w fun e w'=>ToS w e w' (fun V v'=>RdTps V.heap.size V v' ks)
 |0,ks,v,B,w,hN,_,_=>absurd hN (Aw _)
 |N+1,ks,v,B,w,hN,hw,hr=>Tf v ks w hr (by have:=JF ks;omega) fun k h kv B' W hk=>by
  have a:=CJ (An h);have b:=DM ks[k];obtain⟨a1,c1,rfl⟩:=hk.form;exact Te ks[k] a1 c1 W fun W' hb=>MY N _ _ _ W' (by omega) (by omega) (hk.later' hb)
theorem Tg {B:Nat}(v:Value) (ks:List Tp) (w:World) (hr:RdTps B w v ks) (hw:wgT.wgTs ks≤1048576):
  Calls Pq 220 #[v] w fun e w'=>ToS w e w' (fun V v'=>RdTps V.heap.size V v' ks):=MY _ ks v B w (Cp _) hw hr
theorem Th (x:Cn) (a:Option Addr) (c:Nat) (w:World)
  (HS:∀ (W:World),Below w.heap.size w W→Calls Pq 220 #[.slice a x.args.length c] W fun e W'=>ToS W e W' (fun V v=>RdTps V.heap.size V v x.args)):
  Calls Pq 182 #[.agg #[.string x.name,.slice a x.args.length c]] w fun e w'=>∃kv,e= .returned (.agg #[.string x.name,kv])∧Below w.heap.size w w'∧ ∀V,Keeps w.heap.size w' V→RdTps V.heap.size V kv x.args:=by
 generalize x.name=f_name at*;generalize x.args=ks at*;have HQ:=Aa HS;clear HS;go_enter Tryz.func182,Tryz.ntmps182;go_wp2_with fail;generalize hx:Wa (Wa (Wa _ _) _) _=x0;obtain⟨bb,k1,k2,k3⟩:=Gn hx;have sx:x0.heap.size=w.heap.size+3:=by rw[←hx];simp only[Bo]
 clear hx;refine(HQ.out x0 bb).mono ?_;rintro e w2 ⟨v2,rfl,b2,hst⟩;obtain⟨a2,c2,rfl⟩:=(hst w2 (Keeps.refl _ _)).form;have K2:=k2.below b2 k2.1;have K3:=k3.below b2 k3.1;have BB:=Aa (bb.trans (b2.mono bb.size));have HST:=Aa hst;have hz2:w.heap.size+3≤w2.heap.size:=by rw[←sx];exact b2.size
 have hne:w.heap.size+1≠w.heap.size+2:=by omega
 have ck2:=K2.2.1;have yk2:=K2.1;have fk2:=K2.2.2;have ck3:=K3.2.1;have yk3:=K3.1;have fk3:=K3.2.2;clear bb b2 k1 k2 k3 hst HQ;go_wp2;have k5:=(((K2.grown (grownBy.setCell w2 (w.heap.size+2) 1 (.slice a2 ks.length c2)) (fun e=>by have:=Am e;omega)).st 0 (by simp) (.string f_name)).st 1 (by simp) (.slice a2 ks.length c2)).2.1;have hg5:Keeps (w.heap.size+3) w2 (((w2.setCell ⟨w.heap.size+2,1,none⟩ (.slice a2 ks.length c2)).setCell ⟨w.heap.size+1,0,none⟩ (.string f_name)).setCell ⟨w.heap.size+1,1,none⟩ (.slice a2 ks.length c2)):=by
  refine Keeps.trans ?_ (Keeps.set (by omega) _);refine Keeps.trans ?_ (Keeps.set (by omega) _);refine Keeps.trans ?_ (Keeps.set (by omega) _);exact Keeps.refl _ _
 have hb5:Below w.heap.size w (((w2.setCell ⟨w.heap.size+2,1,none⟩ (.slice a2 ks.length c2)).setCell ⟨w.heap.size+1,0,none⟩ (.string f_name)).setCell ⟨w.heap.size+1,1,none⟩ (.slice a2 ks.length c2)):=by
  repeat(with_reducible refine Df ?_ (by first |exact Eu _ _ | (show w.heap.size≤_;omega)) _)
  exact BB.out
 refine Aq (v:= .agg #[.string f_name,.slice a2 ks.length c2]) ?_ rfl ⟨_,rfl,hb5,fun V hV=>HST.out V ?_⟩
 ·simp[results,Tryz.results182,go_sem,k5]
 ·rw[sx];exact hg5.trans (hV.mono (by omega))
theorem Tryz.infoToCon:(Tryz.prog.info? 160).map (fun i=>(i.zero,i.size,i.bytes))=some (some (.agg #[.string ⟨#[]⟩,.slice none 0 0]),2,40):=by kernel_rfl
theorem Ti {B:Nat}(v:Value) (ks:List Cn) (w:World) (hr:RdCns B w v ks) (hn:ks.length≤1048576)
  (HE:∀ (k:Nat) (h:k < ks.length) (kv:Value) (B':Nat) (W:World),RdTps B' W kv ks[k].args→Calls Pq 182 #[.agg #[.string ks[k].name,kv]] W fun e W'=>∃kv',e= .returned (.agg #[.string ks[k].name,kv'])∧Below W.heap.size W W'∧ ∀V,Keeps W.heap.size W' V→RdTps V.heap.size V kv' ks[k].args):
  Calls Pq 135 #[v] w fun e w'=>ToS w e w' (fun V v'=>RdCns V.heap.size V v' ks):=by
 obtain⟨i0,hi,hz0,hz1,hz2⟩:=info_parts Tryz.infoToCon;have HR:=Aa (fun(W:World) (hb:Below w.heap.size w W)=>hr.later' hb);have HQ:=Aa HE;obtain⟨a,cap0,rfl⟩:=hr.form;clear hr HE;go_enter Tryz.func135,Tryz.ntmps135;go_wp2_with (refine Fz _ rfl (.tmp 6) (.tmp 6) 133 rfl w.heap.size 160 i0 (.agg #[.string ⟨#[]⟩,.slice none 0 0]) 2 Tryz.underlying133 hi hz0 hz1 .i64 .i64 _ _ ks.length rfl rfl rfl rfl ?_ ?_ ?_ ?_)
 ·rw[hz2];omega
 ·unfold maxLen;omega
 ·exact Ad _
 ·intro w1 hown hgrow;have hb1:Below w.heap.size w w1:=(Ab _ _).grown hgrow (Ad _) (by simp);obtain⟨xs,hown,hlen⟩:∃xs,w1.ownsRow w.heap.size 160 2 (.slice (some ⟨w.heap.size,0,none⟩) ks.length ks.length) ks.length xs∧xs.length=ks.length*2:=⟨_,hown,by simpa using hown.1⟩;have HL:=Aa hlen;have hgz:=(hown.lt _ rfl).2;have HO:=Aa hown;have HB:=Aa hb1;clear hlen hgrow hown hb1;go_wp2
  go_loopw [4] (fun i wr=>∃ (k:Nat) (kvs:Nat→Value) (ys:List Value),k≤ks.length∧i= .int .i64 k∧Hid (ys.length=ks.length*2)∧wr.ownsRow w.heap.size 160 2 (.slice (some ⟨w.heap.size,0,none⟩) ks.length ks.length) ks.length ys∧
   Hid (∀j (h:j < ks.length),j < k→ys[j*2]?=some (.string ks[j].name)∧ys[j*2+1]?=some (kvs j))∧Hid (∀j (h:j < ks.length),j < k→ ∀V,Keeps (w.heap.size+1) wr V→RdTps V.heap.size V (kvs j) ks[j].args)∧w.heap.size+1≤wr.heap.size∧Below w.heap.size w wr) (fun i _=>ks.length - (intOf i).toNat)
  case atStart=>exact⟨0,fun _=> .int .i64 0,xs,Ao _,rfl,HL,HO.out,Aa (fun j h hj=>absurd hj (Aw j)),Aa (fun j h hj=>absurd hj (Aw j)),hgz,HB.out⟩
  case round=>
   clear HO HB HL;obtain⟨k,kvs,ys,hk,rfl,hyl,ho,hcs,hks,hgz2,hb⟩:=hrel;by_cases hlt:k < ks.length
   ·obtain⟨b,off,cap,kv,hv,hBc,hbsc,hcapc,c0,c1,hk2⟩:=(HR.out _ hb).at_ hlt;cases hv
    obtain⟨la,lc,rfl⟩:=hk2.form;have hkl:(k:Int) < (ks.length:Int):=by omega
    have HT:=Aa (HQ.out k hlt _ _ wr hk2);have HO:=Aa ho;have HB:=Aa hb;have hbz:=hb.size;clear ho hb hk2;go_wp2_with fail;refine HT.out.mono ?_;rintro e w2 ⟨kv2,rfl,b2,hst⟩;obtain⟨a2,cq,rfl⟩:=(hst w2 (Keeps.refl _ _)).form;have ho:=Bm HO.out b2 (A5 HO.out);have hyl2:=hyl.out;obtain⟨y0,d0⟩:∃y,w2.cell? ⟨w.heap.size,k*2,none⟩=some y:=⟨_,(BP ho (k*2) (by omega)).trans (Ay (by omega))⟩;obtain⟨y1,d1⟩:∃y,w2.cell? ⟨w.heap.size,k*2+1,none⟩=some y:=⟨_,(BP ho (k*2+1) (by omega)).trans (Ay (by omega))⟩;have f0:=Cg ho (k*2);have f1:=Cg ho (k*2+1);have HO3:=Aa (Ch (Ch (ho) (k*2) (by omega) (.string ks[k].name)) (k*2+1) (by omega) (.slice a2 ks[k].args.length cq));have HY3:=Aa (show((ys.set (k*2) (.string ks[k].name)).set (k*2+1) (.slice a2 ks[k].args.length cq)).length=ks.length*2 by simp only[CK];exact hyl2);have HC3:=Aa (show ∀j (h:j < ks.length),j < k+1→((ys.set (k*2) (.string ks[k].name)).set (k*2+1) (.slice a2 ks[k].args.length cq))[j*2]?=some (.string ks[j].name)∧((ys.set (k*2) (.string ks[k].name)).set (k*2+1) (.slice a2 ks[k].args.length cq))[j*2+1]?=some (if j=k then .slice a2 ks[k].args.length cq else kvs j)from fun j h hj=>by
     by_cases e:j=k
     ·subst e;simp only[if_true];exact⟨by rw[Au (by omega),DI (by (try simp only[CK]);omega)],by rw[DI (by (try simp only[CK]);omega)]⟩
     ·have hc:=hcs.out j h (by omega);simp only[Ae e];exact⟨by rw[Au (by omega),Au (by omega)];exact hc.1,by rw[Au (by omega),Au (by omega)];exact hc.2⟩)
    have HK3:=Aa (show ∀j (h:j < ks.length),j < k+1→ ∀V,Keeps (w.heap.size+1) ((w2.setCell ⟨w.heap.size,k*2,none⟩ (.string ks[k].name)).setCell ⟨w.heap.size,k*2+1,none⟩ (.slice a2 ks[k].args.length cq)) V→RdTps V.heap.size V (if j=k then .slice a2 ks[k].args.length cq else kvs j) ks[j].args from fun j h hj V hV=>by
     have h2:Keeps (w.heap.size+1) w2 V:=by
      refine Keeps.trans ?_ hV;refine Keeps.trans ?_ (Keeps.set (by omega) _);refine Keeps.trans ?_ (Keeps.set (by omega) _);exact Keeps.refl _ _
     by_cases e:j=k
     ·subst e;rw[Af rfl];exact hst V (h2.mono hgz2)
     ·rw[Ae e];exact hks.out j h (by omega) V ((Keeps.below b2).trans h2))
    have HB3:=Aa (show Below w.heap.size w ((w2.setCell ⟨w.heap.size,k*2,none⟩ (.string ks[k].name)).setCell ⟨w.heap.size,k*2+1,none⟩ (.slice a2 ks[k].args.length cq))by
     repeat(with_reducible refine Df ?_ (by exact Ad _) _)
     exact HB.out.trans (b2.mono hbz))
    have hsz2:=b2.size;clear c0 c1 HT HO HB ho b2 hst hyl2;go_wp2;go_roundw
    case rel=>exact⟨k+1,_,_,hlt,by go_num,HY3,HO3.out,HC3,HK3,by simp;omega,HB3.out⟩
    case measure=>simp[intOf];omega
   ·obtain rfl:k=ks.length:=by omega
    have HO:=Aa ho;have HB:=Aa hb;have hgl:=(ho.lt _ rfl).2;clear ho hb;go_wp2;go_ret;refine⟨_,rfl,HB.out,fun V hV=> ?_⟩;have hbk:=hV.2 _ (Ad _) hgl;have hgV:w.heap.size < V.heap.size:=Ah hgl hV.1;have hcl:=fun(j:Nat) (hj:j < ks.length) (t:Nat) (ht:t < 2)=>(CD (a:=⟨w.heap.size,j*2+t,none⟩) hbk).trans (BP HO.out (j*2+t) (by omega));refine .inr ⟨_,0,_,kvs,rfl,hgV,hgV,⟨by unfold maxLen;omega,Ad _⟩,fun j hj=> ?_⟩;have hc:=hcs.out j hj hj;exact⟨by rw[BS];exact(hcl j hj 0 (by omega)).trans hc.1,by rw[BS];exact(hcl j hj 1 (by omega)).trans hc.2,hks.out j hj hj V (hV.mono (AJ _))⟩
theorem Tj {B:Nat}(v:Value) (ks:List Cn) (w:World) (hr:RdCns B w v ks) (hw:Dc ks≤1048576):
  Calls Pq 135 #[v] w fun e w'=>ToS w e w' (fun V v'=>RdCns V.heap.size V v' ks):=
 Ti v ks w hr (by have:=JG ks;omega) fun k h kv B' W hk=>by
  have a:=Eb (An h);unfold wgC at a;obtain⟨a1,c1,rfl⟩:=hk.form;exact Th ks[k] a1 c1 W fun W' hb=>Tg _ _ W' (hk.later' hb) (by omega)
theorem Tk (x:Dt) (a:Option Addr) (c:Nat) (w:World)
  (HS:∀ (W:World),Below w.heap.size w W→Calls Pq 135 #[.slice a x.cons.length c] W fun e W'=>ToS W e W' (fun V v=>RdCns V.heap.size V v x.cons)):
  Calls Pq 71 #[.agg #[.string x.name,.int .i64 x.vars,.slice a x.cons.length c]] w fun e w'=>∃kv,e= .returned (.agg #[.string x.name,.int .i64 x.vars,kv])∧Below w.heap.size w w'∧ ∀V,Keeps w.heap.size w' V→RdCns V.heap.size V kv x.cons:=by
 generalize x.name=f_name at*;generalize x.vars=f_vars at*;generalize x.cons=ks at*;have HQ:=Aa HS;clear HS;go_enter Tryz.func71,Tryz.ntmps71;go_wp2_with fail;generalize hx:Wa (Wa (Wa _ _) _) _=x0;obtain⟨bb,k1,k2,k3⟩:=Gn hx;have sx:x0.heap.size=w.heap.size+3:=by rw[←hx];simp only[Bo]
 clear hx;refine(HQ.out x0 bb).mono ?_;rintro e w2 ⟨v2,rfl,b2,hst⟩;obtain⟨a2,c2,rfl⟩:=(hst w2 (Keeps.refl _ _)).form;have K2:=k2.below b2 k2.1;have K3:=k3.below b2 k3.1;have BB:=Aa (bb.trans (b2.mono bb.size));have HST:=Aa hst;have hz2:w.heap.size+3≤w2.heap.size:=by rw[←sx];exact b2.size
 have hne:w.heap.size+1≠w.heap.size+2:=by omega
 have ck2:=K2.2.1;have yk2:=K2.1;have fk2:=K2.2.2;have ck3:=K3.2.1;have yk3:=K3.1;have fk3:=K3.2.2;clear bb b2 k1 k2 k3 hst HQ;go_wp2;have k5:=((((K2.grown (grownBy.setCell w2 (w.heap.size+2) 2 (.slice a2 ks.length c2)) (fun e=>by have:=Am e;omega)).st 0 (by simp) (.string f_name)).st 1 (by simp) (.int .i64 f_vars)).st 2 (by simp) (.slice a2 ks.length c2)).2.1;have hg5:Keeps (w.heap.size+3) w2 ((((w2.setCell ⟨w.heap.size+2,2,none⟩ (.slice a2 ks.length c2)).setCell ⟨w.heap.size+1,0,none⟩ (.string f_name)).setCell ⟨w.heap.size+1,1,none⟩ (.int .i64 f_vars)).setCell ⟨w.heap.size+1,2,none⟩ (.slice a2 ks.length c2)):=by
  refine Keeps.trans ?_ (Keeps.set (by omega) _);refine Keeps.trans ?_ (Keeps.set (by omega) _);refine Keeps.trans ?_ (Keeps.set (by omega) _);refine Keeps.trans ?_ (Keeps.set (by omega) _);exact Keeps.refl _ _
 have hb5:Below w.heap.size w ((((w2.setCell ⟨w.heap.size+2,2,none⟩ (.slice a2 ks.length c2)).setCell ⟨w.heap.size+1,0,none⟩ (.string f_name)).setCell ⟨w.heap.size+1,1,none⟩ (.int .i64 f_vars)).setCell ⟨w.heap.size+1,2,none⟩ (.slice a2 ks.length c2)):=by
  repeat(with_reducible refine Df ?_ (by first |exact Eu _ _ | (show w.heap.size≤_;omega)) _)
  exact BB.out
 refine Aq (v:= .agg #[.string f_name,.int .i64 f_vars,.slice a2 ks.length c2]) ?_ rfl ⟨_,rfl,hb5,fun V hV=>HST.out V ?_⟩
 ·simp[results,Tryz.results71,go_sem,k5]
 ·rw[sx];exact hg5.trans (hV.mono (by omega))
theorem Tryz.infoToData:(Tryz.prog.info? 135).map (fun i=>(i.zero,i.size,i.bytes))=some (some (.agg #[.string ⟨#[]⟩,.int .i64 0,.slice none 0 0]),3,48):=by kernel_rfl
theorem Tl {B:Nat}(v:Value) (ks:List Dt) (w:World) (hr:RdDts B w v ks) (hn:ks.length≤1048576)
  (HE:∀ (k:Nat) (h:k < ks.length) (kv:Value) (B':Nat) (W:World),RdCns B' W kv ks[k].cons→Calls Pq 71 #[.agg #[.string ks[k].name,.int .i64 ks[k].vars,kv]] W fun e W'=>∃kv',e= .returned (.agg #[.string ks[k].name,.int .i64 ks[k].vars,kv'])∧Below W.heap.size W W'∧ ∀V,Keeps W.heap.size W' V→RdCns V.heap.size V kv' ks[k].cons):
  Calls Pq 29 #[v] w fun e w'=>ToS w e w' (fun V v'=>RdDts V.heap.size V v' ks):=by
 obtain⟨i0,hi,hz0,hz1,hz2⟩:=info_parts Tryz.infoToData;have HR:=Aa (fun(W:World) (hb:Below w.heap.size w W)=>hr.later' hb);have HQ:=Aa HE;obtain⟨a,cap0,rfl⟩:=hr.form;clear hr HE;go_enter Tryz.func29,Tryz.ntmps29;go_wp2_with (refine Fz _ rfl (.tmp 6) (.tmp 6) 38 rfl w.heap.size 135 i0 (.agg #[.string ⟨#[]⟩,.int .i64 0,.slice none 0 0]) 3 Tryz.underlying38 hi hz0 hz1 .i64 .i64 _ _ ks.length rfl rfl rfl rfl ?_ ?_ ?_ ?_)
 ·rw[hz2];omega
 ·unfold maxLen;omega
 ·exact Ad _
 ·intro w1 hown hgrow;have hb1:Below w.heap.size w w1:=(Ab _ _).grown hgrow (Ad _) (by simp);obtain⟨xs,hown,hlen⟩:∃xs,w1.ownsRow w.heap.size 135 3 (.slice (some ⟨w.heap.size,0,none⟩) ks.length ks.length) ks.length xs∧xs.length=ks.length*3:=⟨_,hown,by simpa using hown.1⟩;have HL:=Aa hlen;have hgz:=(hown.lt _ rfl).2;have HO:=Aa hown;have HB:=Aa hb1;clear hlen hgrow hown hb1;go_wp2
  go_loopw [4] (fun i wr=>∃ (k:Nat) (kvs:Nat→Value) (ys:List Value),k≤ks.length∧i= .int .i64 k∧Hid (ys.length=ks.length*3)∧wr.ownsRow w.heap.size 135 3 (.slice (some ⟨w.heap.size,0,none⟩) ks.length ks.length) ks.length ys∧
   Hid (∀j (h:j < ks.length),j < k→ys[j*3]?=some (.string ks[j].name)∧ys[j*3+1]?=some (.int .i64 ks[j].vars)∧ys[j*3+2]?=some (kvs j))∧Hid (∀j (h:j < ks.length),j < k→ ∀V,Keeps (w.heap.size+1) wr V→RdCns V.heap.size V (kvs j) ks[j].cons)∧w.heap.size+1≤wr.heap.size∧Below w.heap.size w wr) (fun i _=>ks.length - (intOf i).toNat)
  case atStart=>exact⟨0,fun _=> .int .i64 0,xs,Ao _,rfl,HL,HO.out,Aa (fun j h hj=>absurd hj (Aw j)),Aa (fun j h hj=>absurd hj (Aw j)),hgz,HB.out⟩
  case round=>
   clear HO HB HL;obtain⟨k,kvs,ys,hk,rfl,hyl,ho,hcs,hks,hgz2,hb⟩:=hrel;by_cases hlt:k < ks.length
   ·obtain⟨b,off,cap,kv,hv,hBc,hbsc,hcapc,c0,c1,c2,hk2⟩:=(HR.out _ hb).at_ hlt;cases hv
    obtain⟨la,lc,rfl⟩:=hk2.form;have hkl:(k:Int) < (ks.length:Int):=by omega
    have HT:=Aa (HQ.out k hlt _ _ wr hk2);have HO:=Aa ho;have HB:=Aa hb;have hbz:=hb.size;clear ho hb hk2;go_wp2_with fail;refine HT.out.mono ?_;rintro e w2 ⟨kv2,rfl,b2,hst⟩;obtain⟨a2,cq,rfl⟩:=(hst w2 (Keeps.refl _ _)).form;have ho:=Bm HO.out b2 (A5 HO.out);have hyl2:=hyl.out;obtain⟨y0,d0⟩:∃y,w2.cell? ⟨w.heap.size,k*3,none⟩=some y:=⟨_,(BP ho (k*3) (by omega)).trans (Ay (by omega))⟩;obtain⟨y1,d1⟩:∃y,w2.cell? ⟨w.heap.size,k*3+1,none⟩=some y:=⟨_,(BP ho (k*3+1) (by omega)).trans (Ay (by omega))⟩;obtain⟨y2,d2⟩:∃y,w2.cell? ⟨w.heap.size,k*3+2,none⟩=some y:=⟨_,(BP ho (k*3+2) (by omega)).trans (Ay (by omega))⟩;have f0:=Cg ho (k*3);have f1:=Cg ho (k*3+1);have f2:=Cg ho (k*3+2);have HO3:=Aa (Ch (Ch (Ch (ho) (k*3) (by omega) (.string ks[k].name)) (k*3+1) (by omega) (.int .i64 ks[k].vars)) (k*3+2) (by omega) (.slice a2 ks[k].cons.length cq));have HY3:=Aa (show(((ys.set (k*3) (.string ks[k].name)).set (k*3+1) (.int .i64 ks[k].vars)).set (k*3+2) (.slice a2 ks[k].cons.length cq)).length=ks.length*3 by simp only[CK];exact hyl2);have HC3:=Aa (show ∀j (h:j < ks.length),j < k+1→(((ys.set (k*3) (.string ks[k].name)).set (k*3+1) (.int .i64 ks[k].vars)).set (k*3+2) (.slice a2 ks[k].cons.length cq))[j*3]?=some (.string ks[j].name)∧(((ys.set (k*3) (.string ks[k].name)).set (k*3+1) (.int .i64 ks[k].vars)).set (k*3+2) (.slice a2 ks[k].cons.length cq))[j*3+1]?=some (.int .i64 ks[j].vars)∧(((ys.set (k*3) (.string ks[k].name)).set (k*3+1) (.int .i64 ks[k].vars)).set (k*3+2) (.slice a2 ks[k].cons.length cq))[j*3+2]?=some (if j=k then .slice a2 ks[k].cons.length cq else kvs j)from fun j h hj=>by
     by_cases e:j=k
     ·subst e;simp only[if_true];exact⟨by rw[Au (by omega),Au (by omega),DI (by (try simp only[CK]);omega)],by rw[Au (by omega),DI (by (try simp only[CK]);omega)],by rw[DI (by (try simp only[CK]);omega)]⟩
     ·have hc:=hcs.out j h (by omega);simp only[Ae e];exact⟨by rw[Au (by omega),Au (by omega),Au (by omega)];exact hc.1,by rw[Au (by omega),Au (by omega),Au (by omega)];exact hc.2.1,by rw[Au (by omega),Au (by omega),Au (by omega)];exact hc.2.2⟩)
    have HK3:=Aa (show ∀j (h:j < ks.length),j < k+1→ ∀V,Keeps (w.heap.size+1) (((w2.setCell ⟨w.heap.size,k*3,none⟩ (.string ks[k].name)).setCell ⟨w.heap.size,k*3+1,none⟩ (.int .i64 ks[k].vars)).setCell ⟨w.heap.size,k*3+2,none⟩ (.slice a2 ks[k].cons.length cq)) V→RdCns V.heap.size V (if j=k then .slice a2 ks[k].cons.length cq else kvs j) ks[j].cons from fun j h hj V hV=>by
     have h2:Keeps (w.heap.size+1) w2 V:=by
      refine Keeps.trans ?_ hV;refine Keeps.trans ?_ (Keeps.set (by omega) _);refine Keeps.trans ?_ (Keeps.set (by omega) _);refine Keeps.trans ?_ (Keeps.set (by omega) _);exact Keeps.refl _ _
     by_cases e:j=k
     ·subst e;rw[Af rfl];exact hst V (h2.mono hgz2)
     ·rw[Ae e];exact hks.out j h (by omega) V ((Keeps.below b2).trans h2))
    have HB3:=Aa (show Below w.heap.size w (((w2.setCell ⟨w.heap.size,k*3,none⟩ (.string ks[k].name)).setCell ⟨w.heap.size,k*3+1,none⟩ (.int .i64 ks[k].vars)).setCell ⟨w.heap.size,k*3+2,none⟩ (.slice a2 ks[k].cons.length cq))by
     repeat(with_reducible refine Df ?_ (by exact Ad _) _)
     exact HB.out.trans (b2.mono hbz))
    have hsz2:=b2.size;clear c0 c1 c2 HT HO HB ho b2 hst hyl2;go_wp2;go_roundw
    case rel=>exact⟨k+1,_,_,hlt,by go_num,HY3,HO3.out,HC3,HK3,by simp;omega,HB3.out⟩
    case measure=>simp[intOf];omega
   ·obtain rfl:k=ks.length:=by omega
    have HO:=Aa ho;have HB:=Aa hb;have hgl:=(ho.lt _ rfl).2;clear ho hb;go_wp2;go_ret;refine⟨_,rfl,HB.out,fun V hV=> ?_⟩;have hbk:=hV.2 _ (Ad _) hgl;have hgV:w.heap.size < V.heap.size:=Ah hgl hV.1;have hcl:=fun(j:Nat) (hj:j < ks.length) (t:Nat) (ht:t < 3)=>(CD (a:=⟨w.heap.size,j*3+t,none⟩) hbk).trans (BP HO.out (j*3+t) (by omega));refine .inr ⟨_,0,_,kvs,rfl,hgV,hgV,⟨by unfold maxLen;omega,Ad _⟩,fun j hj=> ?_⟩;have hc:=hcs.out j hj hj;exact⟨by rw[BS];exact(hcl j hj 0 (by omega)).trans hc.1,by rw[BS];exact(hcl j hj 1 (by omega)).trans hc.2.1,by rw[BS];exact(hcl j hj 2 (by omega)).trans hc.2.2,hks.out j hj hj V (hV.mono (AJ _))⟩
theorem Tm {B:Nat}(v:Value) (ks:List Dt) (w:World) (hr:RdDts B w v ks) (hw:AN ks≤1048576):
  Calls Pq 29 #[v] w fun e w'=>ToS w e w' (fun V v'=>RdDts V.heap.size V v' ks):=
 Tl v ks w hr (by have:=JH ks;omega) fun k h kv B' W hk=>by
  have a:=Dm (An h);unfold wgD at a;obtain⟨a1,c1,rfl⟩:=hk.form;exact Tk ks[k] a1 c1 W fun W' hb=>Tj _ _ W' (hk.later' hb) (by omega)
theorem MZ (x:Nd) (a:Option Addr) (c:Nat) (w:World)
  (HS:∀ (W:World),Below w.heap.size w W→Calls Pq 72 #[.slice a x.kids.length c] W fun e W'=>ToS W e W' (fun V v=>RdNs V.heap.size V v x.kids)):
  Calls Pq 30 #[.agg #[.int .i64 x.op,.int .i64 x.n,.string x.s,.string x.t,.slice a x.kids.length c]] w fun e w'=>∃kv,e= .returned (.agg #[.int .i64 x.op,.int .i64 x.n,.string x.s,.string x.t,kv])∧Below w.heap.size w w'∧ ∀V,Keeps w.heap.size w' V→RdNs V.heap.size V kv x.kids:=by
 generalize x.op=f_op at*;generalize x.n=f_n at*;generalize x.s=f_s at*;generalize x.t=f_t at*;generalize x.kids=ks at*;have HQ:=Aa HS;clear HS;go_enter Tryz.func30,Tryz.ntmps30;go_wp2_with fail;generalize hx:Wa (Wa (Wa _ _) _) _=x0;obtain⟨bb,k1,k2,k3⟩:=Gn hx;have sx:x0.heap.size=w.heap.size+3:=by rw[←hx];simp only[Bo]
 clear hx;refine(HQ.out x0 bb).mono ?_;rintro e w2 ⟨v2,rfl,b2,hst⟩;obtain⟨a2,c2,rfl⟩:=(hst w2 (Keeps.refl _ _)).form;have K2:=k2.below b2 k2.1;have K3:=k3.below b2 k3.1;have BB:=Aa (bb.trans (b2.mono bb.size));have HST:=Aa hst;have hz2:w.heap.size+3≤w2.heap.size:=by rw[←sx];exact b2.size
 have hne:w.heap.size+1≠w.heap.size+2:=by omega
 have ck2:=K2.2.1;have yk2:=K2.1;have fk2:=K2.2.2;have ck3:=K3.2.1;have yk3:=K3.1;have fk3:=K3.2.2;clear bb b2 k1 k2 k3 hst HQ;go_wp2;have k5:=((((((K2.grown (grownBy.setCell w2 (w.heap.size+2) 4 (.slice a2 ks.length c2)) (fun e=>by have:=Am e;omega)).st 0 (by simp) (.int .i64 f_op)).st 1 (by simp) (.int .i64 f_n)).st 2 (by simp) (.string f_s)).st 3 (by simp) (.string f_t)).st 4 (by simp) (.slice a2 ks.length c2)).2.1;have hg5:Keeps (w.heap.size+3) w2 ((((((w2.setCell ⟨w.heap.size+2,4,none⟩ (.slice a2 ks.length c2)).setCell ⟨w.heap.size+1,0,none⟩ (.int .i64 f_op)).setCell ⟨w.heap.size+1,1,none⟩ (.int .i64 f_n)).setCell ⟨w.heap.size+1,2,none⟩ (.string f_s)).setCell ⟨w.heap.size+1,3,none⟩ (.string f_t)).setCell ⟨w.heap.size+1,4,none⟩ (.slice a2 ks.length c2)):=by
  refine Keeps.trans ?_ (Keeps.set (by omega) _);refine Keeps.trans ?_ (Keeps.set (by omega) _);refine Keeps.trans ?_ (Keeps.set (by omega) _);refine Keeps.trans ?_ (Keeps.set (by omega) _);refine Keeps.trans ?_ (Keeps.set (by omega) _);refine Keeps.trans ?_ (Keeps.set (by omega) _);exact Keeps.refl _ _
 have hb5:Below w.heap.size w ((((((w2.setCell ⟨w.heap.size+2,4,none⟩ (.slice a2 ks.length c2)).setCell ⟨w.heap.size+1,0,none⟩ (.int .i64 f_op)).setCell ⟨w.heap.size+1,1,none⟩ (.int .i64 f_n)).setCell ⟨w.heap.size+1,2,none⟩ (.string f_s)).setCell ⟨w.heap.size+1,3,none⟩ (.string f_t)).setCell ⟨w.heap.size+1,4,none⟩ (.slice a2 ks.length c2)):=by
  repeat(with_reducible refine Df ?_ (by first |exact Eu _ _ | (show w.heap.size≤_;omega)) _)
  exact BB.out
 refine Aq (v:= .agg #[.int .i64 f_op,.int .i64 f_n,.string f_s,.string f_t,.slice a2 ks.length c2]) ?_ rfl ⟨_,rfl,hb5,fun V hV=>HST.out V ?_⟩
 ·simp[results,Tryz.results30,go_sem,k5]
 ·rw[sx];exact hg5.trans (hV.mono (by omega))
theorem Tryz.infoToNode:(Tryz.prog.info? 41).map (fun i=>(i.zero,i.size,i.bytes))=some (some (.agg #[.int .i64 0,.int .i64 0,.string ⟨#[]⟩,.string ⟨#[]⟩,.slice none 0 0]),5,72):=by kernel_rfl
theorem Tn {B:Nat}(v:Value) (ks:List Nd) (w:World) (hr:RdNs B w v ks) (hn:ks.length≤1048576)
  (HE:∀ (k:Nat) (h:k < ks.length) (kv:Value) (B':Nat) (W:World),RdNs B' W kv ks[k].kids→Calls Pq 30 #[.agg #[.int .i64 ks[k].op,.int .i64 ks[k].n,.string ks[k].s,.string ks[k].t,kv]] W fun e W'=>∃kv',e= .returned (.agg #[.int .i64 ks[k].op,.int .i64 ks[k].n,.string ks[k].s,.string ks[k].t,kv'])∧Below W.heap.size W W'∧ ∀V,Keeps W.heap.size W' V→RdNs V.heap.size V kv' ks[k].kids):
  Calls Pq 72 #[v] w fun e w'=>ToS w e w' (fun V v'=>RdNs V.heap.size V v' ks):=by
 obtain⟨i0,hi,hz0,hz1,hz2⟩:=info_parts Tryz.infoToNode;have HR:=Aa (fun(W:World) (hb:Below w.heap.size w W)=>hr.later' hb);have HQ:=Aa HE;obtain⟨a,cap0,rfl⟩:=hr.form;clear hr HE;go_enter Tryz.func72,Tryz.ntmps72;go_wp2_with (refine Fz _ rfl (.tmp 6) (.tmp 6) 39 rfl w.heap.size 41 i0 (.agg #[.int .i64 0,.int .i64 0,.string ⟨#[]⟩,.string ⟨#[]⟩,.slice none 0 0]) 5 Tryz.underlying39 hi hz0 hz1 .i64 .i64 _ _ ks.length rfl rfl rfl rfl ?_ ?_ ?_ ?_)
 ·rw[hz2];omega
 ·unfold maxLen;omega
 ·exact Ad _
 ·intro w1 hown hgrow;have hb1:Below w.heap.size w w1:=(Ab _ _).grown hgrow (Ad _) (by simp);obtain⟨xs,hown,hlen⟩:∃xs,w1.ownsRow w.heap.size 41 5 (.slice (some ⟨w.heap.size,0,none⟩) ks.length ks.length) ks.length xs∧xs.length=ks.length*5:=⟨_,hown,by simpa using hown.1⟩;have HL:=Aa hlen;have hgz:=(hown.lt _ rfl).2;have HO:=Aa hown;have HB:=Aa hb1;clear hlen hgrow hown hb1;go_wp2
  go_loopw [4] (fun i wr=>∃ (k:Nat) (kvs:Nat→Value) (ys:List Value),k≤ks.length∧i= .int .i64 k∧Hid (ys.length=ks.length*5)∧wr.ownsRow w.heap.size 41 5 (.slice (some ⟨w.heap.size,0,none⟩) ks.length ks.length) ks.length ys∧
   Hid (∀j (h:j < ks.length),j < k→ys[j*5]?=some (.int .i64 ks[j].op)∧ys[j*5+1]?=some (.int .i64 ks[j].n)∧ys[j*5+2]?=some (.string ks[j].s)∧ys[j*5+3]?=some (.string ks[j].t)∧ys[j*5+4]?=some (kvs j))∧Hid (∀j (h:j < ks.length),j < k→ ∀V,Keeps (w.heap.size+1) wr V→RdNs V.heap.size V (kvs j) ks[j].kids)∧w.heap.size+1≤wr.heap.size∧Below w.heap.size w wr) (fun i _=>ks.length - (intOf i).toNat)
  case atStart=>exact⟨0,fun _=> .int .i64 0,xs,Ao _,rfl,HL,HO.out,Aa (fun j h hj=>absurd hj (Aw j)),Aa (fun j h hj=>absurd hj (Aw j)),hgz,HB.out⟩
  case round=>
   clear HO HB HL;obtain⟨k,kvs,ys,hk,rfl,hyl,ho,hcs,hks,hgz2,hb⟩:=hrel;by_cases hlt:k < ks.length
   ·obtain⟨b,off,cap,kv,hv,hBc,hbsc,hcapc,⟨c0,c1,c2,c3,c4⟩,hk2⟩:=(HR.out _ hb).at_ hlt;cases hv
    obtain⟨la,lc,rfl⟩:=hk2.form;have hkl:(k:Int) < (ks.length:Int):=by omega
    have HT:=Aa (HQ.out k hlt _ _ wr hk2);have HO:=Aa ho;have HB:=Aa hb;have hbz:=hb.size;clear ho hb hk2;go_wp2_with fail;refine HT.out.mono ?_;rintro e w2 ⟨kv2,rfl,b2,hst⟩;obtain⟨a2,cq,rfl⟩:=(hst w2 (Keeps.refl _ _)).form;have ho:=Bm HO.out b2 (A5 HO.out);have hyl2:=hyl.out;obtain⟨y0,d0⟩:∃y,w2.cell? ⟨w.heap.size,k*5,none⟩=some y:=⟨_,(BP ho (k*5) (by omega)).trans (Ay (by omega))⟩;obtain⟨y1,d1⟩:∃y,w2.cell? ⟨w.heap.size,k*5+1,none⟩=some y:=⟨_,(BP ho (k*5+1) (by omega)).trans (Ay (by omega))⟩;obtain⟨y2,d2⟩:∃y,w2.cell? ⟨w.heap.size,k*5+2,none⟩=some y:=⟨_,(BP ho (k*5+2) (by omega)).trans (Ay (by omega))⟩;obtain⟨y3,d3⟩:∃y,w2.cell? ⟨w.heap.size,k*5+3,none⟩=some y:=⟨_,(BP ho (k*5+3) (by omega)).trans (Ay (by omega))⟩;obtain⟨y4,d4⟩:∃y,w2.cell? ⟨w.heap.size,k*5+4,none⟩=some y:=⟨_,(BP ho (k*5+4) (by omega)).trans (Ay (by omega))⟩;have f0:=Cg ho (k*5);have f1:=Cg ho (k*5+1);have f2:=Cg ho (k*5+2);have f3:=Cg ho (k*5+3);have f4:=Cg ho (k*5+4);have HO3:=Aa (Ch (Ch (Ch (Ch (Ch (ho) (k*5) (by omega) (.int .i64 ks[k].op)) (k*5+1) (by omega) (.int .i64 ks[k].n)) (k*5+2) (by omega) (.string ks[k].s)) (k*5+3) (by omega) (.string ks[k].t)) (k*5+4) (by omega) (.slice a2 ks[k].kids.length cq));have HY3:=Aa (show(((((ys.set (k*5) (.int .i64 ks[k].op)).set (k*5+1) (.int .i64 ks[k].n)).set (k*5+2) (.string ks[k].s)).set (k*5+3) (.string ks[k].t)).set (k*5+4) (.slice a2 ks[k].kids.length cq)).length=ks.length*5 by simp only[CK];exact hyl2);have HC3:=Aa (show ∀j (h:j < ks.length),j < k+1→(((((ys.set (k*5) (.int .i64 ks[k].op)).set (k*5+1) (.int .i64 ks[k].n)).set (k*5+2) (.string ks[k].s)).set (k*5+3) (.string ks[k].t)).set (k*5+4) (.slice a2 ks[k].kids.length cq))[j*5]?=some (.int .i64 ks[j].op)∧(((((ys.set (k*5) (.int .i64 ks[k].op)).set (k*5+1) (.int .i64 ks[k].n)).set (k*5+2) (.string ks[k].s)).set (k*5+3) (.string ks[k].t)).set (k*5+4) (.slice a2 ks[k].kids.length cq))[j*5+1]?=some (.int .i64 ks[j].n)∧(((((ys.set (k*5) (.int .i64 ks[k].op)).set (k*5+1) (.int .i64 ks[k].n)).set (k*5+2) (.string ks[k].s)).set (k*5+3) (.string ks[k].t)).set (k*5+4) (.slice a2 ks[k].kids.length cq))[j*5+2]?=some (.string ks[j].s)∧(((((ys.set (k*5) (.int .i64 ks[k].op)).set (k*5+1) (.int .i64 ks[k].n)).set (k*5+2) (.string ks[k].s)).set (k*5+3) (.string ks[k].t)).set (k*5+4) (.slice a2 ks[k].kids.length cq))[j*5+3]?=some (.string ks[j].t)∧(((((ys.set (k*5) (.int .i64 ks[k].op)).set (k*5+1) (.int .i64 ks[k].n)).set (k*5+2) (.string ks[k].s)).set (k*5+3) (.string ks[k].t)).set (k*5+4) (.slice a2 ks[k].kids.length cq))[j*5+4]?=some (if j=k then .slice a2 ks[k].kids.length cq else kvs j)from fun j h hj=>by
     by_cases e:j=k
     ·subst e;simp only[if_true];exact⟨by rw[Au (by omega),Au (by omega),Au (by omega),Au (by omega),DI (by (try simp only[CK]);omega)],by rw[Au (by omega),Au (by omega),Au (by omega),DI (by (try simp only[CK]);omega)],by rw[Au (by omega),Au (by omega),DI (by (try simp only[CK]);omega)],by rw[Au (by omega),DI (by (try simp only[CK]);omega)],by rw[DI (by (try simp only[CK]);omega)]⟩
     ·have hc:=hcs.out j h (by omega);simp only[Ae e];exact⟨by rw[Au (by omega),Au (by omega),Au (by omega),Au (by omega),Au (by omega)];exact hc.1,by rw[Au (by omega),Au (by omega),Au (by omega),Au (by omega),Au (by omega)];exact hc.2.1,by rw[Au (by omega),Au (by omega),Au (by omega),Au (by omega),Au (by omega)];exact hc.2.2.1,by rw[Au (by omega),Au (by omega),Au (by omega),Au (by omega),Au (by omega)];exact hc.2.2.2.1,by rw[Au (by omega),Au (by omega),Au (by omega),Au (by omega),Au (by omega)];exact hc.2.2.2.2⟩)
    have HK3:=Aa (show ∀j (h:j < ks.length),j < k+1→ ∀V,Keeps (w.heap.size+1) (((((w2.setCell ⟨w.heap.size,k*5,none⟩ (.int .i64 ks[k].op)).setCell ⟨w.heap.size,k*5+1,none⟩ (.int .i64 ks[k].n)).setCell ⟨w.heap.size,k*5+2,none⟩ (.string ks[k].s)).setCell ⟨w.heap.size,k*5+3,none⟩ (.string ks[k].t)).setCell ⟨w.heap.size,k*5+4,none⟩ (.slice a2 ks[k].kids.length cq)) V→RdNs V.heap.size V (if j=k then .slice a2 ks[k].kids.length cq else kvs j) ks[j].kids from fun j h hj V hV=>by
     have h2:Keeps (w.heap.size+1) w2 V:=by
      refine Keeps.trans ?_ hV;refine Keeps.trans ?_ (Keeps.set (by omega) _);refine Keeps.trans ?_ (Keeps.set (by omega) _);refine Keeps.trans ?_ (Keeps.set (by omega) _);refine Keeps.trans ?_ (Keeps.set (by omega) _);refine Keeps.trans ?_ (Keeps.set (by omega) _);exact Keeps.refl _ _
     by_cases e:j=k
     ·subst e;rw[Af rfl];exact hst V (h2.mono hgz2)
     ·rw[Ae e];exact hks.out j h (by omega) V ((Keeps.below b2).trans h2))
    have HB3:=Aa (show Below w.heap.size w (((((w2.setCell ⟨w.heap.size,k*5,none⟩ (.int .i64 ks[k].op)).setCell ⟨w.heap.size,k*5+1,none⟩ (.int .i64 ks[k].n)).setCell ⟨w.heap.size,k*5+2,none⟩ (.string ks[k].s)).setCell ⟨w.heap.size,k*5+3,none⟩ (.string ks[k].t)).setCell ⟨w.heap.size,k*5+4,none⟩ (.slice a2 ks[k].kids.length cq))by
     repeat(with_reducible refine Df ?_ (by exact Ad _) _)
     exact HB.out.trans (b2.mono hbz))
    have hsz2:=b2.size;clear c0 c1 c2 c3 c4 HT HO HB ho b2 hst hyl2;go_wp2;go_roundw
    case rel=>exact⟨k+1,_,_,hlt,by go_num,HY3,HO3.out,HC3,HK3,by simp;omega,HB3.out⟩
    case measure=>simp[intOf];omega
   ·obtain rfl:k=ks.length:=by omega
    have HO:=Aa ho;have HB:=Aa hb;have hgl:=(ho.lt _ rfl).2;clear ho hb;go_wp2;go_ret;refine⟨_,rfl,HB.out,fun V hV=> ?_⟩;have hbk:=hV.2 _ (Ad _) hgl;have hgV:w.heap.size < V.heap.size:=Ah hgl hV.1;have hcl:=fun(j:Nat) (hj:j < ks.length) (t:Nat) (ht:t < 5)=>(CD (a:=⟨w.heap.size,j*5+t,none⟩) hbk).trans (BP HO.out (j*5+t) (by omega));refine .row _ 0 _ ks kvs hgV hgV ⟨by unfold maxLen;omega,Ad _⟩ (fun j hj=> ?_) (fun j hj=>hks.out j hj hj V (hV.mono (AJ _)));have hc:=hcs.out j hj hj;exact⟨by rw[BS];exact(hcl j hj 0 (by omega)).trans hc.1,by rw[BS];exact(hcl j hj 1 (by omega)).trans hc.2.1,by rw[BS];exact(hcl j hj 2 (by omega)).trans hc.2.2.1,by rw[BS];exact(hcl j hj 3 (by omega)).trans hc.2.2.2.1,by rw[BS];exact(hcl j hj 4 (by omega)).trans hc.2.2.2.2⟩
theorem M0:∀ (N:Nat) (ks:List Nd) (v:Value) (B:Nat) (w:World),wgN.wgNs ks < N→wgN.wgNs ks≤1048576→RdNs B w v ks→
  Calls Pq 72 #[v] w fun e w'=>ToS w e w' (fun V v'=>RdNs V.heap.size V v' ks)
 |0,ks,v,B,w,hN,_,_=>absurd hN (Aw _)
 |N+1,ks,v,B,w,hN,hw,hr=>Tn v ks w hr (by have:=JI ks;omega) fun k h kv B' W hk=>by
  have a:=AT (An h);have b:=Av ks[k];obtain⟨a1,c1,rfl⟩:=hk.form;exact MZ ks[k] a1 c1 W fun W' hb=>M0 N _ _ _ W' (by omega) (by omega) (hk.later' hb)
theorem To {B:Nat}(v:Value) (ks:List Nd) (w:World) (hr:RdNs B w v ks) (hw:wgN.wgNs ks≤1048576):
  Calls Pq 72 #[v] w fun e w'=>ToS w e w' (fun V v'=>RdNs V.heap.size V v' ks):=M0 _ ks v B w (Cp _) hw hr
end Go.Proofs.YtifhcbeaiijkcaaGreat
