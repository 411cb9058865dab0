/- Parts of the proof of FnExactJudgeSame. -/
import Derived.Test.YtifhcbeaiijkcaaGreatJ22
import Derived.Test.YtifhcbeaiijkcaaGreatJ02
import Derived.Deep.RegionHeld3
set_option linter.unusedVariables false
set_option linter.unusedSimpArgs false
set_option maxRecDepth 1000000
set_option maxHeartbeats 16000000
namespace Go.Proofs.YtifhcbeaiijkcaaGreat
open Go.RowKit
open _root_.Go.World renaming alloc→Wa,setCell→Ws
open _root_.Go.Proofs.Tryz renaming prog→Pq
theorem BV {w x0:World}{u v:Array Value}{e e2:TypeId}(h:(w.alloc (.cells u e)).alloc (.cells v e2)=x0):Below w.heap.size w x0∧Bx x0 w.heap.size u∧Bx x0 (w.heap.size+1) v∧x0.heap.size=w.heap.size+2:=by
 obtain⟨x1,h1⟩:∃x1,w.alloc (.cells u e)=x1:=⟨_,rfl⟩;rw[h1]at h;obtain⟨b1,k1⟩:=Bx.alloc h1;obtain⟨b2,k2⟩:=Bx.alloc h;have s1:x1.heap.size=w.heap.size+1:=by rw[←h1,Bo]
 rw[s1]at k2;exact⟨b1.trans (b2.mono b1.size),k1.below b2 k1.1,k2,by rw[←h,Bo,s1]⟩
theorem SQ (x:Tp) (a1 a2:Option Addr) (c1 c2:Nat) (w:World)
  (HS:∀ (W:World),Below w.heap.size w W→Calls Pq 223 #[.slice a1 x.kids.length c1,.slice a2 x.kids.length c2] W fun e W'=>e= .returned (.bool true)∧Below W.heap.size W W'):
  Calls Pq 244 #[.agg #[.int .i64 x.op,.int .i64 x.n,.string x.s,.slice a1 x.kids.length c1],.agg #[.int .i64 x.op,.int .i64 x.n,.string x.s,.slice a2 x.kids.length c2]] w fun e w'=>e= .returned (.bool true)∧Below w.heap.size w w':=by
 generalize x.op=f_op at*;generalize x.n=f_n at*;generalize x.s=f_s at*;generalize x.kids=ks at*;have HQ:=Aa HS;clear HS;have e_s:=Dz (a:=f_s) rfl;go_enter Tryz.func244,Tryz.ntmps244;go_wp2_with fail;generalize hx:Wa (Wa _ _) _=x0;obtain⟨bb,k1,k2,sx⟩:=BV hx;clear hx;refine(HQ.out x0 bb).mono ?_;rintro e w2 ⟨rfl,b2⟩;have B2:=Aa (bb.trans (b2.mono bb.size));clear bb b2 k1 k2 HQ;go_wp2;go_ret;exact⟨rfl,B2.out⟩
theorem SR {B1 B2:Nat}(va vb:Value) (ks:List Tp) (w:World) (ha:RdTps B1 w va ks) (hb:RdTps B2 w vb ks)
  (HE:∀ (k:Nat) (h:k < ks.length) (ka kb:Value) (Ba Bb:Nat) (W:World),RdTps Ba W ka ks[k].kids→RdTps Bb W kb ks[k].kids→Calls Pq 244 #[.agg #[.int .i64 ks[k].op,.int .i64 ks[k].n,.string ks[k].s,ka],.agg #[.int .i64 ks[k].op,.int .i64 ks[k].n,.string ks[k].s,kb]] W fun e W'=>e= .returned (.bool true)∧Below W.heap.size W W'):
  Calls Pq 223 #[va,vb] w fun e w'=>e= .returned (.bool true)∧Below w.heap.size w w':=by
 have hx:=ha.len;unfold maxLen at hx;have HA:=Aa (fun(W:World) (h:Below w.heap.size w W)=>ha.later' h);have HB:=Aa (fun(W:World) (h:Below w.heap.size w W)=>hb.later' h);have HQ:=Aa HE;obtain⟨a1,cap1,rfl⟩:=ha.form;obtain⟨a2,cap2,rfl⟩:=hb.form;clear ha hb HE;go_enter Tryz.func223,Tryz.ntmps223;go_wp2
 go_loopw [5] (fun i wr=>∃k:Nat,k≤ks.length∧i= .int .i64 k∧Below w.heap.size w wr) (fun i _=>ks.length - (intOf i).toNat)
 case atStart=>exact⟨0,Ao _,rfl,Ab _ _⟩
 case round=>
  obtain⟨k,hk,rfl,hb⟩:=hrel;by_cases hlt:k < ks.length
  ·obtain⟨b,off,cap,kv,hv,hBc,hbsc,hcapc,⟨c0,c1,c2,c3⟩,hk1⟩:=(HA.out _ hb).at_ hlt;cases hv
   obtain⟨b',off',cap',kv',hv',hBd,hbsd,hcapd,⟨d0,d1,d2,d3⟩,hk2⟩:=(HB.out _ hb).at_ hlt;cases hv'
   obtain⟨la,lc,rfl⟩:=hk1.form;obtain⟨la',lc',rfl⟩:=hk2.form;have hkl:(k:Int) < (ks.length:Int):=by omega
   have HC:=Aa (fun(W:World) (h:Below wr.heap.size wr W)=>HQ.out k hlt _ _ _ _ W (hk1.later' h) (hk2.later' h));have BB:=Aa hb;clear hk1 hk2 hb HQ;generalize ks[k]=y at*;generalize y.op=f_op at*;generalize y.n=f_n at*;generalize y.s=f_s at*;generalize y.kids=sk at*;go_wp2_with fail
   go_region_held3 (fun w'=>w'.cell? ⟨b,off+k*4,none⟩=some (.int .i64 f_op)∧w'.cell? ⟨b,off+k*4+1,none⟩=some (.int .i64 f_n)∧w'.cell? ⟨b,off+k*4+2,none⟩=some (.string f_s)∧w'.cell? ⟨b,off+k*4+3,none⟩=some (.slice la sk.length lc)∧w'.cell? ⟨b',off'+k*4,none⟩=some (.int .i64 f_op)∧w'.cell? ⟨b',off'+k*4+1,none⟩=some (.int .i64 f_n)∧w'.cell? ⟨b',off'+k*4+2,none⟩=some (.string f_s)∧w'.cell? ⟨b',off'+k*4+3,none⟩=some (.slice la' sk.length lc'))
    (first | (go_split_ands;refine⟨?_,?_,?_,?_,?_,?_,?_,?_⟩ <;> (refine(b9.cell (by simp only[Ga];omega)).trans ?_;with_reducible assumption)) | (go_keep;done)) (first | (go_at_call 244;refine(HC.out _ ((Ab _ _).drew)).mono ?_;rintro e w9 ⟨hu,b9⟩;subst hu))
   have B9:=Aa (BB.out.trans ((((Ab _ _).drew).trans b9).mono BB.out.size));clear b9 BB c0 d0 c1 d1 c2 d2 c3 d3 HC;go_wp2;go_roundw
   case rel=>exact⟨k+1,hlt,by go_num,B9.out⟩
   case measure=>simp[intOf];omega
  ·go_wp2;go_ret;exact⟨rfl,hb⟩
theorem MT:∀ (N:Nat) (ks:List Tp) (va vb:Value) (B1 B2:Nat) (w:World),wgT.wgTs ks < N→RdTps B1 w va ks→RdTps B2 w vb ks→
  Calls Pq 223 #[va,vb] w fun e w'=>e= .returned (.bool true)∧Below w.heap.size w w'
 |0,ks,va,vb,B1,B2,w,hN,_,_=>absurd hN (Aw _)
 |N+1,ks,va,vb,B1,B2,w,hN,ha,hb=>SR va vb ks w ha hb fun k h ka kb Ba Bb W hka hkb=>by
  have hlt:wgT.wgTs ks[k].kids < N:=by
   have a:=CJ (An h);have b:=DM ks[k];omega
  obtain⟨a1,c1,rfl⟩:=hka.form;obtain⟨a2,c2,rfl⟩:=hkb.form;exact SQ ks[k] a1 a2 c1 c2 W fun W' hb=>MT N _ _ _ _ _ W' hlt (hka.later' hb) (hkb.later' hb)
theorem SS {B1 B2:Nat}(va vb:Value) (ks:List Tp) (w:World) (ha:RdTps B1 w va ks) (hb:RdTps B2 w vb ks):
  Calls Pq 223 #[va,vb] w fun e w'=>e= .returned (.bool true)∧Below w.heap.size w w':=MT _ ks va vb B1 B2 w (Cp _) ha hb
theorem SU (x:Cn) (a1 a2:Option Addr) (c1 c2:Nat) (w:World)
  (HS:∀ (W:World),Below w.heap.size w W→Calls Pq 223 #[.slice a1 x.args.length c1,.slice a2 x.args.length c2] W fun e W'=>e= .returned (.bool true)∧Below W.heap.size W W'):
  Calls Pq 192 #[.agg #[.string x.name,.slice a1 x.args.length c1],.agg #[.string x.name,.slice a2 x.args.length c2]] w fun e w'=>e= .returned (.bool true)∧Below w.heap.size w w':=by
 generalize x.name=f_name at*;generalize x.args=ks at*;have HQ:=Aa HS;clear HS;have e_name:=Dz (a:=f_name) rfl;go_enter Tryz.func192,Tryz.ntmps192;go_wp2_with fail;generalize hx:Wa (Wa _ _) _=x0;obtain⟨bb,k1,k2,sx⟩:=BV hx;clear hx;refine(HQ.out x0 bb).mono ?_;rintro e w2 ⟨rfl,b2⟩;have B2:=Aa (bb.trans (b2.mono bb.size));clear bb b2 k1 k2 HQ;go_wp2;go_ret;exact⟨rfl,B2.out⟩
theorem SV {B1 B2:Nat}(va vb:Value) (ks:List Cn) (w:World) (ha:RdCns B1 w va ks) (hb:RdCns B2 w vb ks)
  (HE:∀ (k:Nat) (h:k < ks.length) (ka kb:Value) (Ba Bb:Nat) (W:World),RdTps Ba W ka ks[k].args→RdTps Bb W kb ks[k].args→Calls Pq 192 #[.agg #[.string ks[k].name,ka],.agg #[.string ks[k].name,kb]] W fun e W'=>e= .returned (.bool true)∧Below W.heap.size W W'):
  Calls Pq 144 #[va,vb] w fun e w'=>e= .returned (.bool true)∧Below w.heap.size w w':=by
 have hx:=ha.len;unfold maxLen at hx;have HA:=Aa (fun(W:World) (h:Below w.heap.size w W)=>ha.later' h);have HB:=Aa (fun(W:World) (h:Below w.heap.size w W)=>hb.later' h);have HQ:=Aa HE;obtain⟨a1,cap1,rfl⟩:=ha.form;obtain⟨a2,cap2,rfl⟩:=hb.form;clear ha hb HE;go_enter Tryz.func144,Tryz.ntmps144;go_wp2
 go_loopw [5] (fun i wr=>∃k:Nat,k≤ks.length∧i= .int .i64 k∧Below w.heap.size w wr) (fun i _=>ks.length - (intOf i).toNat)
 case atStart=>exact⟨0,Ao _,rfl,Ab _ _⟩
 case round=>
  obtain⟨k,hk,rfl,hb⟩:=hrel;by_cases hlt:k < ks.length
  ·obtain⟨b,off,cap,kv,hv,hBc,hbsc,hcapc,c0,c1,hk1⟩:=(HA.out _ hb).at_ hlt;cases hv
   obtain⟨b',off',cap',kv',hv',hBd,hbsd,hcapd,d0,d1,hk2⟩:=(HB.out _ hb).at_ hlt;cases hv'
   obtain⟨la,lc,rfl⟩:=hk1.form;obtain⟨la',lc',rfl⟩:=hk2.form;have hkl:(k:Int) < (ks.length:Int):=by omega
   have HC:=Aa (fun(W:World) (h:Below wr.heap.size wr W)=>HQ.out k hlt _ _ _ _ W (hk1.later' h) (hk2.later' h));have BB:=Aa hb;clear hk1 hk2 hb HQ;generalize ks[k]=y at*;generalize y.name=f_name at*;generalize y.args=sk at*;go_wp2_with fail
   go_region_held3 (fun w'=>w'.cell? ⟨b,off+k*2,none⟩=some (.string f_name)∧w'.cell? ⟨b,off+k*2+1,none⟩=some (.slice la sk.length lc)∧w'.cell? ⟨b',off'+k*2,none⟩=some (.string f_name)∧w'.cell? ⟨b',off'+k*2+1,none⟩=some (.slice la' sk.length lc'))
    (first | (go_split_ands;refine⟨?_,?_,?_,?_⟩ <;> (refine(b9.cell (by simp only[Ga];omega)).trans ?_;with_reducible assumption)) | (go_keep;done)) (first | (go_at_call 192;refine(HC.out _ ((Ab _ _).drew)).mono ?_;rintro e w9 ⟨hu,b9⟩;subst hu))
   have B9:=Aa (BB.out.trans ((((Ab _ _).drew).trans b9).mono BB.out.size));clear b9 BB c0 d0 c1 d1 HC;go_wp2;go_roundw
   case rel=>exact⟨k+1,hlt,by go_num,B9.out⟩
   case measure=>simp[intOf];omega
  ·go_wp2;go_ret;exact⟨rfl,hb⟩
theorem SW {B1 B2:Nat}(va vb:Value) (ks:List Cn) (w:World) (ha:RdCns B1 w va ks) (hb:RdCns B2 w vb ks):
  Calls Pq 144 #[va,vb] w fun e w'=>e= .returned (.bool true)∧Below w.heap.size w w':=
 SV va vb ks w ha hb fun k h ka kb Ba Bb W hka hkb=>by
  obtain⟨a1,c1,rfl⟩:=hka.form;obtain⟨a2,c2,rfl⟩:=hkb.form;exact SU ks[k] a1 a2 c1 c2 W fun W' hb=>SS _ _ _ W' (hka.later' hb) (hkb.later' hb)
theorem SX (x:Dt) (a1 a2:Option Addr) (c1 c2:Nat) (w:World)
  (HS:∀ (W:World),Below w.heap.size w W→Calls Pq 144 #[.slice a1 x.cons.length c1,.slice a2 x.cons.length c2] W fun e W'=>e= .returned (.bool true)∧Below W.heap.size W W'):
  Calls Pq 83 #[.agg #[.string x.name,.int .i64 x.vars,.slice a1 x.cons.length c1],.agg #[.string x.name,.int .i64 x.vars,.slice a2 x.cons.length c2]] w fun e w'=>e= .returned (.bool true)∧Below w.heap.size w w':=by
 generalize x.name=f_name at*;generalize x.vars=f_vars at*;generalize x.cons=ks at*;have HQ:=Aa HS;clear HS;have e_name:=Dz (a:=f_name) rfl;go_enter Tryz.func83,Tryz.ntmps83;go_wp2_with fail;generalize hx:Wa (Wa _ _) _=x0;obtain⟨bb,k1,k2,sx⟩:=BV hx;clear hx;refine(HQ.out x0 bb).mono ?_;rintro e w2 ⟨rfl,b2⟩;have B2:=Aa (bb.trans (b2.mono bb.size));clear bb b2 k1 k2 HQ;go_wp2;go_ret;exact⟨rfl,B2.out⟩
theorem SY {B1 B2:Nat}(va vb:Value) (ks:List Dt) (w:World) (ha:RdDts B1 w va ks) (hb:RdDts B2 w vb ks)
  (HE:∀ (k:Nat) (h:k < ks.length) (ka kb:Value) (Ba Bb:Nat) (W:World),RdCns Ba W ka ks[k].cons→RdCns Bb W kb ks[k].cons→Calls Pq 83 #[.agg #[.string ks[k].name,.int .i64 ks[k].vars,ka],.agg #[.string ks[k].name,.int .i64 ks[k].vars,kb]] W fun e W'=>e= .returned (.bool true)∧Below W.heap.size W W'):
  Calls Pq 39 #[va,vb] w fun e w'=>e= .returned (.bool true)∧Below w.heap.size w w':=by
 have hx:=ha.len;unfold maxLen at hx;have HA:=Aa (fun(W:World) (h:Below w.heap.size w W)=>ha.later' h);have HB:=Aa (fun(W:World) (h:Below w.heap.size w W)=>hb.later' h);have HQ:=Aa HE;obtain⟨a1,cap1,rfl⟩:=ha.form;obtain⟨a2,cap2,rfl⟩:=hb.form;clear ha hb HE;go_enter Tryz.func39,Tryz.ntmps39;go_wp2
 go_loopw [5] (fun i wr=>∃k:Nat,k≤ks.length∧i= .int .i64 k∧Below w.heap.size w wr) (fun i _=>ks.length - (intOf i).toNat)
 case atStart=>exact⟨0,Ao _,rfl,Ab _ _⟩
 case round=>
  obtain⟨k,hk,rfl,hb⟩:=hrel;by_cases hlt:k < ks.length
  ·obtain⟨b,off,cap,kv,hv,hBc,hbsc,hcapc,c0,c1,c2,hk1⟩:=(HA.out _ hb).at_ hlt;cases hv
   obtain⟨b',off',cap',kv',hv',hBd,hbsd,hcapd,d0,d1,d2,hk2⟩:=(HB.out _ hb).at_ hlt;cases hv'
   obtain⟨la,lc,rfl⟩:=hk1.form;obtain⟨la',lc',rfl⟩:=hk2.form;have hkl:(k:Int) < (ks.length:Int):=by omega
   have HC:=Aa (fun(W:World) (h:Below wr.heap.size wr W)=>HQ.out k hlt _ _ _ _ W (hk1.later' h) (hk2.later' h));have BB:=Aa hb;clear hk1 hk2 hb HQ;generalize ks[k]=y at*;generalize y.name=f_name at*;generalize y.vars=f_vars at*;generalize y.cons=sk at*;go_wp2_with fail
   go_region_held3 (fun w'=>w'.cell? ⟨b,off+k*3,none⟩=some (.string f_name)∧w'.cell? ⟨b,off+k*3+1,none⟩=some (.int .i64 f_vars)∧w'.cell? ⟨b,off+k*3+2,none⟩=some (.slice la sk.length lc)∧w'.cell? ⟨b',off'+k*3,none⟩=some (.string f_name)∧w'.cell? ⟨b',off'+k*3+1,none⟩=some (.int .i64 f_vars)∧w'.cell? ⟨b',off'+k*3+2,none⟩=some (.slice la' sk.length lc'))
    (first | (go_split_ands;refine⟨?_,?_,?_,?_,?_,?_⟩ <;> (refine(b9.cell (by simp only[Ga];omega)).trans ?_;with_reducible assumption)) | (go_keep;done)) (first | (go_at_call 83;refine(HC.out _ ((Ab _ _).drew)).mono ?_;rintro e w9 ⟨hu,b9⟩;subst hu))
   have B9:=Aa (BB.out.trans ((((Ab _ _).drew).trans b9).mono BB.out.size));clear b9 BB c0 d0 c1 d1 c2 d2 HC;go_wp2;go_roundw
   case rel=>exact⟨k+1,hlt,by go_num,B9.out⟩
   case measure=>simp[intOf];omega
  ·go_wp2;go_ret;exact⟨rfl,hb⟩
theorem S5 {B1 B2:Nat}(va vb:Value) (ks:List Dt) (w:World) (ha:RdDts B1 w va ks) (hb:RdDts B2 w vb ks):
  Calls Pq 39 #[va,vb] w fun e w'=>e= .returned (.bool true)∧Below w.heap.size w w':=
 SY va vb ks w ha hb fun k h ka kb Ba Bb W hka hkb=>by
  obtain⟨a1,c1,rfl⟩:=hka.form;obtain⟨a2,c2,rfl⟩:=hkb.form;exact SX ks[k] a1 a2 c1 c2 W fun W' hb=>SW _ _ _ W' (hka.later' hb) (hkb.later' hb)
theorem MU (x:Nd) (a1 a2:Option Addr) (c1 c2:Nat) (w:World)
  (HS:∀ (W:World),Below w.heap.size w W→Calls Pq 84 #[.slice a1 x.kids.length c1,.slice a2 x.kids.length c2] W fun e W'=>e= .returned (.bool true)∧Below W.heap.size W W'):
  Calls Pq 40 #[.agg #[.int .i64 x.op,.int .i64 x.n,.string x.s,.string x.t,.slice a1 x.kids.length c1],.agg #[.int .i64 x.op,.int .i64 x.n,.string x.s,.string x.t,.slice a2 x.kids.length c2]] w fun e w'=>e= .returned (.bool true)∧Below w.heap.size w w':=by
 generalize x.op=f_op at*;generalize x.n=f_n at*;generalize x.s=f_s at*;generalize x.t=f_t at*;generalize x.kids=ks at*;have HQ:=Aa HS;clear HS;have e_s:=Dz (a:=f_s) rfl;have e_t:=Dz (a:=f_t) rfl;go_enter Tryz.func40,Tryz.ntmps40;go_wp2_with fail;generalize hx:Wa (Wa _ _) _=x0;obtain⟨bb,k1,k2,sx⟩:=BV hx;clear hx;refine(HQ.out x0 bb).mono ?_;rintro e w2 ⟨rfl,b2⟩;have B2:=Aa (bb.trans (b2.mono bb.size));clear bb b2 k1 k2 HQ;go_wp2;go_ret;exact⟨rfl,B2.out⟩
theorem S7 {B1 B2:Nat}(va vb:Value) (ks:List Nd) (w:World) (ha:RdNs B1 w va ks) (hb:RdNs B2 w vb ks)
  (HE:∀ (k:Nat) (h:k < ks.length) (ka kb:Value) (Ba Bb:Nat) (W:World),RdNs Ba W ka ks[k].kids→RdNs Bb W kb ks[k].kids→Calls Pq 40 #[.agg #[.int .i64 ks[k].op,.int .i64 ks[k].n,.string ks[k].s,.string ks[k].t,ka],.agg #[.int .i64 ks[k].op,.int .i64 ks[k].n,.string ks[k].s,.string ks[k].t,kb]] W fun e W'=>e= .returned (.bool true)∧Below W.heap.size W W'):
  Calls Pq 84 #[va,vb] w fun e w'=>e= .returned (.bool true)∧Below w.heap.size w w':=by
 have hx:=ha.len;unfold maxLen at hx;have HA:=Aa (fun(W:World) (h:Below w.heap.size w W)=>ha.later' h);have HB:=Aa (fun(W:World) (h:Below w.heap.size w W)=>hb.later' h);have HQ:=Aa HE;obtain⟨a1,cap1,rfl⟩:=ha.form;obtain⟨a2,cap2,rfl⟩:=hb.form;clear ha hb HE;go_enter Tryz.func84,Tryz.ntmps84;go_wp2
 go_loopw [5] (fun i wr=>∃k:Nat,k≤ks.length∧i= .int .i64 k∧Below w.heap.size w wr) (fun i _=>ks.length - (intOf i).toNat)
 case atStart=>exact⟨0,Ao _,rfl,Ab _ _⟩
 case round=>
  obtain⟨k,hk,rfl,hb⟩:=hrel;by_cases hlt:k < ks.length
  ·obtain⟨b,off,cap,kv,hv,hBc,hbsc,hcapc,⟨c0,c1,c2,c3,c4⟩,hk1⟩:=(HA.out _ hb).at_ hlt;cases hv
   obtain⟨b',off',cap',kv',hv',hBd,hbsd,hcapd,⟨d0,d1,d2,d3,d4⟩,hk2⟩:=(HB.out _ hb).at_ hlt;cases hv'
   obtain⟨la,lc,rfl⟩:=hk1.form;obtain⟨la',lc',rfl⟩:=hk2.form;have hkl:(k:Int) < (ks.length:Int):=by omega
   have HC:=Aa (fun(W:World) (h:Below wr.heap.size wr W)=>HQ.out k hlt _ _ _ _ W (hk1.later' h) (hk2.later' h));have BB:=Aa hb;clear hk1 hk2 hb HQ;generalize ks[k]=y at*;generalize y.op=f_op at*;generalize y.n=f_n at*;generalize y.s=f_s at*;generalize y.t=f_t at*;generalize y.kids=sk at*;go_wp2_with fail
   go_region_held3 (fun w'=>w'.cell? ⟨b,off+k*5,none⟩=some (.int .i64 f_op)∧w'.cell? ⟨b,off+k*5+1,none⟩=some (.int .i64 f_n)∧w'.cell? ⟨b,off+k*5+2,none⟩=some (.string f_s)∧w'.cell? ⟨b,off+k*5+3,none⟩=some (.string f_t)∧w'.cell? ⟨b,off+k*5+4,none⟩=some (.slice la sk.length lc)∧w'.cell? ⟨b',off'+k*5,none⟩=some (.int .i64 f_op)∧w'.cell? ⟨b',off'+k*5+1,none⟩=some (.int .i64 f_n)∧w'.cell? ⟨b',off'+k*5+2,none⟩=some (.string f_s)∧w'.cell? ⟨b',off'+k*5+3,none⟩=some (.string f_t)∧w'.cell? ⟨b',off'+k*5+4,none⟩=some (.slice la' sk.length lc'))
    (first | (go_split_ands;refine⟨?_,?_,?_,?_,?_,?_,?_,?_,?_,?_⟩ <;> (refine(b9.cell (by simp only[Ga];omega)).trans ?_;with_reducible assumption)) | (go_keep;done)) (first | (go_at_call 40;refine(HC.out _ ((Ab _ _).drew)).mono ?_;rintro e w9 ⟨hu,b9⟩;subst hu))
   have B9:=Aa (BB.out.trans ((((Ab _ _).drew).trans b9).mono BB.out.size));clear b9 BB c0 d0 c1 d1 c2 d2 c3 d3 c4 d4 HC;go_wp2;go_roundw
   case rel=>exact⟨k+1,hlt,by go_num,B9.out⟩
   case measure=>simp[intOf];omega
  ·go_wp2;go_ret;exact⟨rfl,hb⟩
theorem MV:∀ (N:Nat) (ks:List Nd) (va vb:Value) (B1 B2:Nat) (w:World),wgN.wgNs ks < N→RdNs B1 w va ks→RdNs B2 w vb ks→
  Calls Pq 84 #[va,vb] w fun e w'=>e= .returned (.bool true)∧Below w.heap.size w w'
 |0,ks,va,vb,B1,B2,w,hN,_,_=>absurd hN (Aw _)
 |N+1,ks,va,vb,B1,B2,w,hN,ha,hb=>S7 va vb ks w ha hb fun k h ka kb Ba Bb W hka hkb=>by
  have hlt:wgN.wgNs ks[k].kids < N:=by
   have a:=AT (An h);have b:=Av ks[k];omega
  obtain⟨a1,c1,rfl⟩:=hka.form;obtain⟨a2,c2,rfl⟩:=hkb.form;exact MU ks[k] a1 a2 c1 c2 W fun W' hb=>MV N _ _ _ _ _ W' hlt (hka.later' hb) (hkb.later' hb)
theorem S8 {B1 B2:Nat}(va vb:Value) (ks:List Nd) (w:World) (ha:RdNs B1 w va ks) (hb:RdNs B2 w vb ks):
  Calls Pq 84 #[va,vb] w fun e w'=>e= .returned (.bool true)∧Below w.heap.size w w':=MV _ ks va vb B1 B2 w (Cp _) ha hb
end Go.Proofs.YtifhcbeaiijkcaaGreat
