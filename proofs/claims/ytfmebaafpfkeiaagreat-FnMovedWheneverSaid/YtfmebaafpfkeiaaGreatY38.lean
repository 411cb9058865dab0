/- Parts of the proof of FnEnds, FnMeant, FnMovedWhenever, FnSizes. -/
import Derived.Test.YtfmebaafpfkeiaaGreatY32
import Derived.Test.YtfmebaafpfkeiaaGreatY35
import Derived.Test.YtfmebaafpfkeiaaGreatY36
import Derived.Test.YtfmebaafpfkeiaaGreatY37
set_option linter.unusedVariables false
set_option linter.unusedSimpArgs false
set_option maxRecDepth 1000000
set_option maxHeartbeats 16000000
section
namespace Go.Proofs.YtfmebaafpfkeiaaGreat
open Go.RowKit Go.Ev
theorem YV (lb lo ll lc:Nat) (nm:ByteArray) (vr:Int) (cb co cl cc:Nat) (hl:0 < ll) (tag:Nat) (ht:tag < cl) (w:World)
  (c0:w.cell? ⟨lb,lo,none⟩=some (.string nm)) (c1:w.cell? ⟨lb,lo+1,none⟩=some (.int .i64 vr)) (c2:w.cell? ⟨lb,lo+2,none⟩=some (.slice (some ⟨cb,co,none⟩) cl cc)) (hcl:cl≤4294967296):
  Calls Tryz.prog 228 #[.slice (some ⟨lb,lo,none⟩) ll lc,.int .i64 tag] w fun e w'=>e= .returned (.tuple #[.int .i64 (0:Nat),.int .i64 tag])∧Below w.heap.size w w':=by
 have hl1:(0:Int) < (ll:Int):=by omega
 have e1:IntKind.i64.wrap ((cl:Int) - 1)= (cl:Int) - 1:=IntWalk.i64_in _ (by omega);have HI:=Lib.hid (fun(W:World)=>(by have:=AT (tag:Int) 0 ((cl:Int) - 1) W;rw[show inB (tag:Int) 0 ((cl:Int) - 1)=true from Aw.2 (by omega)]at this;exact this:Calls Tryz.prog 54 #[.int .i64 tag,.int .i64 0,.int .i64 ((cl:Int) - 1)] W fun e w'=>e= .returned (.bool true)∧W=w'));go_enter Tryz.func228,Tryz.ntmps228;go_wp2
 go_loopw [1,10] (fun t i wr=>t= .int .i64 tag∧i= .int .i64 0∧wr=w) (fun _ _ _=>0)
 case atStart=>exact⟨rfl,rfl,rfl⟩
 case round=>
  obtain⟨rfl,rfl,rfl⟩:=hrel;go_wp2_with fail;generalize hx:World.alloc _ _=x;obtain⟨bx,k1⟩:=Bx.alloc hx;clear hx;refine(HI.out x).mono ?_;rintro e w2 ⟨rfl,rfl⟩;go_wp2;go_ret2;exact⟨rfl,bx⟩
theorem YW {bs:ByteArray}{s:ByteArray}(h:bs.data.toList.map UInt8.toNat=s.data.toList.map UInt8.toNat):bs=s:=by
 have h1:bs.data.toList=s.data.toList:=List.map_inj_right (fun x y e=>UInt8.toNat_inj.1 e) |>.1 h
 have h2:bs.data=s.data:=Array.toList_inj.1 h1;cases bs;cases s;simp at h2;rw[h2]
theorem Pc {ρ:Rho}{l:S}{v:Value}(h:SR ρ l v) (hs:GN l=true):∃a n c,v= .slice a n c:=by
 cases l with
 |l x o n e f=>exact Qa h ⟨_,_,_,_,_,rfl⟩
 |l0=>exact⟨_,_,_,h⟩
 |_=>cases hs
theorem I3 {ρ:Rho}{u:St}{w:World}(hr:Rel ρ u w) {l:S}{v:Value}(hs:SR ρ l v) {k:Nat}{s:ByteArray}{m:Nat}(hc:Db (cellsAt u) 0 k (s.data.toList.map UInt8.toNat) m l=true):
  ∃lb lo ll lc,v= .slice (some ⟨lb,lo,none⟩) ll lc∧TagAt w lb lo ll lc k s m:=by
 have hB:∀x cb sh z,ρ x=some (cb,sh,z)→cb < w.heap.size:=fun x cb sh z e=>by
  obtain⟨cs,el,f1,_⟩:=hr.blk x cb sh z e;rcases Nat.lt_or_ge cb w.heap.size with h |h
  ·exact h
  ·rw[Array.getElem?_eq_none h]at f1;cases f1
 obtain⟨b,o,n,fl,l',b2,o2,n2,fl2,l2,y,nm,vr,rfl,h1,h2,⟨h30,h31⟩,h3,h4,h5,h6,h7,h8⟩:=OA hc;obtain⟨_,lb,lo,lc,rfl,⟨q1,_⟩,_,q3⟩:=Fs hr hs hB h2 h1;obtain⟨v0,d0,s0⟩:=q3 _ _ h30;obtain⟨v1,d1,s1⟩:=q3 _ _ h31;obtain⟨v2,d2,s2⟩:=q3 _ _ h3;obtain⟨nb,rfl,_⟩:=s0;have s1':v1= .int .i64 vr:=s1;subst s1';obtain⟨hl2,cb,co,cc,rfl,⟨r1,_⟩,_,r3⟩:=Fs hr s2 hB h5 (Nat.lt_of_le_of_lt (Nat.zero_le _) h4.1);obtain⟨v3,d3,s3⟩:=r3 _ _ h6;obtain⟨v4,d4,s4⟩:=r3 _ _ h7;obtain⟨sb,rfl,s3'⟩:=s3;have:=YW s3';subst this;obtain⟨aa,ac,rfl⟩:∃aa ac,v4= .slice aa m ac:=by
  rcases h8 with ⟨b3,o3,e3,f3,rfl⟩ |⟨rfl,rfl⟩
  ·obtain⟨cb',sh,z,a,cap,_,rfl,_⟩:=s4;exact⟨_,_,rfl⟩
  ·exact⟨_,_,s4⟩
 have f0:w.cell? ⟨lb,lo,none⟩=some (.string nb):=by simpa using d0
 have f1:w.cell? ⟨lb,lo+1,none⟩=some (.int .i64 vr):=by simpa using d1
 have f2:w.cell? ⟨lb,lo+2,none⟩=some (.slice (some ⟨cb,co,none⟩) n2 cc):=by simpa using d2
 exact⟨lb,lo,n,lc,rfl,⟨0,k,cb,co,n2,cc,aa,ac,h1,h4.1,by simpa using d2,d3,by rw[Nat.add_assoc];exact d4,q1,r1,YV lb lo n lc nb vr cb co n2 cc h1 k h4.1 w f0 f1 f2 (by omega)⟩⟩
theorem Pe (k:Nat) (hk:k < 7) (bs:ByteArray) (hs:bs.data.toList.map UInt8.toNat=BH.getD k []) (w:World):
  Calls Tryz.prog 13 #[.string bs] w fun e w'=>∃lv a1 a2 a3 a4 a5,e= .returned (.tuple #[.agg #[lv,a1,a2,a3,a4,a5],.int .i64 (-1)])∧Tags w' (CH k) lv∧(∀x∈ [lv,a1,a2,a3,a4,a5],x.oneCell'=true)∧Below w.heap.size w w':=by
 have other:∀ {src:List Nat},bs.data.toList.map UInt8.toNat=src→EN src=true→CH k= (fun _=>none)→Calls Tryz.prog 13 #[.string bs] w fun e w'=>∃lv a1 a2 a3 a4 a5,e= .returned (.tuple #[.agg #[lv,a1,a2,a3,a4,a5],.int .i64 (-1)])∧Tags w' (CH k) lv∧(∀x∈ [lv,a1,a2,a3,a4,a5],x.oneCell'=true)∧Below w.heap.size w w':=by
  intro src hs hd hc;obtain⟨l,q,uP,E,hq,hl⟩:=XS hd;refine((Kn.zero w).ent E (cargs:=[.string bs]) ⟨⟨bs,rfl,hs⟩,trivial⟩).mono ?_;rintro e w' ⟨cv,ρ,rfl,hv,N,_⟩;obtain⟨a0,a1,a2,a3,a4,a5,rfl,hlr⟩:=F1 hv (by simp[hq]);obtain⟨a,n,c,e0⟩:=Pc hlr.1 hl;exact⟨a0,a1,a2,a3,a4,a5,rfl,⟨⟨a,n,c,e0⟩,fun tag s m h=>by rw[hc]at h;cases h⟩,LR.one hlr,N.below⟩
 have hk':k=0∨k=1∨k=2∨k=3∨k=4∨k=5∨k=6:=by omega
 rcases hk' with rfl |rfl |rfl |rfl |rfl |rfl |rfl
 ·exact other hs XT rfl
 ·exact other hs XU rfl
 ·exact other hs XV rfl
 ·exact other hs XW rfl
 ·exact other hs XX rfl
 ·exact other hs XY rfl
 ·obtain⟨l,q,uP,T⟩:=XR OB;refine((Kn.zero w).ent T.parse (cargs:=[.string bs]) ⟨⟨bs,rfl,hs⟩,trivial⟩).mono ?_;rintro e w' ⟨cv,ρ,rfl,hv,N,_⟩;obtain⟨a0,a1,a2,a3,a4,a5,rfl,hlr⟩:=F1 hv (by simp[T.len]);have hz:=fun(W:World) (hb:Below w'.heap.size w' W)=>I3 (N.rel.later hb) hlr.1 (k:=0) (s:=⟨#[90]⟩) (m:=0) T.c0;have ho:=fun(W:World) (hb:Below w'.heap.size w' W)=>I3 (N.rel.later hb) hlr.1 (k:=1) (s:=⟨#[83]⟩) (m:=1) T.c1;obtain⟨lb,lo,ll,lc,e0,_⟩:=hz w' (Below.refl _ _);refine⟨a0,a1,a2,a3,a4,a5,rfl,⟨⟨_,_,_,e0⟩,fun tag s m h=>⟨lb,lo,ll,lc,e0,fun W hb=> ?_⟩⟩,LR.one hlr,N.below⟩;have h':He tag=some (s,m):=h;unfold He at h';split at h'
  ·rename_i ht;cases h'
   subst ht;obtain⟨lb',lo',ll',lc',e1,T1⟩:=hz W hb;rw[e0]at e1;cases e1
   exact T1
  ·split at h'
   ·rename_i ht;cases h'
    subst ht;obtain⟨lb',lo',ll',lc',e1,T1⟩:=ho W hb;rw[e0]at e1;cases e1
    exact T1
   ·cases h'
end Go.Proofs.YtfmebaafpfkeiaaGreat
end
section
namespace Go.Proofs.YtfmebaafpfkeiaaGreat
open Go.RowKit
theorem ES {k:Nat}{M:VmL}(E:Ended k M) (h1:M.code=1) {B:Nat}(lv fv hv sv cv ov:Value) (w:World) (rd:RdV B w fv hv sv cv ov M) (HT:Tags w (CH k) lv):
  Calls Tryz.prog 19 #[lv,.agg #[fv,hv,.int .i64 M.h,.int .i64 M.b,.int .i64 M.n,sv,cv,ov,.int .i64 1,.bool M.each]] w fun e w'=>∃v,e= .returned (.tuple #[v,.bool true])∧RdT w.heap.size w' (ctK k) v∧Below w.heap.size w w':=by
 obtain⟨_,x,h,b,n,ps,e1,e2,e3,e4,e5,e6,e7,e8⟩:=E.halt h1;have:=YR h1 e1 e2 e3 e4 e5 e6 10 (by omega) (ctK k) e7 e8 lv fv hv sv cv ov w rd HT;unfold vmV at this;rw[h1]at this;exact this
end Go.Proofs.YtfmebaafpfkeiaaGreat
end
