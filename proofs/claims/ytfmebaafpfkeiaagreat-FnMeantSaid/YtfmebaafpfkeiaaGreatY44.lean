/- Parts of the proof of FnEnds, FnMeant. -/
import Derived.Test.YtfmebaafpfkeiaaGreatY38
import Derived.Test.YtfmebaafpfkeiaaGreatY32
import Derived.Test.YtfmebaafpfkeiaaGreatY42
import Derived.Test.YtfmebaafpfkeiaaGreatY43
set_option linter.unusedVariables false
set_option linter.unusedSimpArgs false
set_option maxRecDepth 1000000
set_option maxHeartbeats 16000000
namespace Go.Proofs.YtfmebaafpfkeiaaGreat
open Go.RowKit Go.Ev
def Iq (s:List Nat):ByteArray:=⟨(s.map UInt8.ofNat).toArray⟩
def C6:CE→CT
 | .num n=> .num n
 | .nul s=> .nul (Iq s)
 | .one s t=> .one (Iq s) (C6 t)
def ceK:List CE:=[.num 14,.num 4,.num 45350912,.num 4,.num 22,.num 7,.one [83] (.one [83] (.one [83] (.one [83] (.one [83] (.nul [90])))))]
theorem JY {bs:ByteArray}{s:List Nat}(h:bs.data.toList.map UInt8.toNat=s):bs=Iq s:=by
 subst h;unfold Iq;cases bs with
 |mk d=>
  congr 1
  rw[List.map_map];have:(UInt8.ofNat∘UInt8.toNat)=id:=by funext x;simp
  rw[this];simp
theorem Fb (k:Nat) (hk:k < 7):ctK k=C6 (ceK.getD k (.num 0)):=by
 have hk':k=0∨k=1∨k=2∨k=3∨k=4∨k=5∨k=6:=by omega
 rcases hk' with rfl |rfl |rfl |rfl |rfl |rfl |rfl
 ·exact(by kernel_rfl:ctK 0=C6 (ceK.getD 0 (.num 0)))
 ·exact(by kernel_rfl:ctK 1=C6 (ceK.getD 1 (.num 0)))
 ·exact(by kernel_rfl:ctK 2=C6 (ceK.getD 2 (.num 0)))
 ·exact(by kernel_rfl:ctK 3=C6 (ceK.getD 3 (.num 0)))
 ·exact(by kernel_rfl:ctK 4=C6 (ceK.getD 4 (.num 0)))
 ·exact(by kernel_rfl:ctK 5=C6 (ceK.getD 5 (.num 0)))
 ·exact(by kernel_rfl:ctK 6=C6 (ceK.getD 6 (.num 0)))
theorem U0 {ρ:Rho}{u:St}{w:World}(hr:Rel ρ u w):∀ (t:CE) (l:List S) (vs:List Value),Eg (cellsAt u) t l=true→LR (SR ρ) l vs→RdT 0 w (C6 t) (.agg vs.toArray):=by
 have hB:∀x cb sh z,ρ x=some (cb,sh,z)→cb < w.heap.size:=fun x cb sh z e=>by
  obtain⟨cs,el,f1,_⟩:=hr.blk x cb sh z e;rcases Nat.lt_or_ge cb w.heap.size with h |h
  ·exact h
  ·rw[Array.getElem?_eq_none h]at f1;cases f1
 intro t;induction t with
 |num m=>
  intro l vs h hl
  match l,h with
  | [.i k,.i n,.s [],.l0],h=>
   have h':(ieq k 1&& ieq n m)=true:=h;rw[Bool.and_eq_true,CL,CL]at h';obtain⟨h1,h2⟩:=h';have h1:k=1:=by simpa using h1
   have h2:n=m:=by simpa using h2
   subst h1 h2
   match vs,hl with
   | [v0,v1,v2,v3],⟨s0,s1,s2,s3,_⟩=>
    have e0:v0= .int .i64 1:=s0;have e1:v1= .int .i64 n:=s1;obtain⟨bs,e2,e2'⟩:=s2;have e3:v3= .slice none 0 0:=s3;have:=JY e2';subst e0 e1 e2 e3 this;rfl
 |nul s=>
  intro l vs h hl
  match l,h with
  | [.i k,.i n,.s q,.l0],h=>
   have h':((ieq k 2&& ieq n 0)&& decide (q=s))=true:=h;rw[Bool.and_eq_true,Bool.and_eq_true,CL,CL]at h';obtain⟨⟨h1,h2⟩,h3⟩:=h';have h1:k=2:=by simpa using h1
   have h2:n=0:=by simpa using h2
   have h3:=of_decide_eq_true h3;subst h1 h2 h3
   match vs,hl with
   | [v0,v1,v2,v3],⟨s0,s1,s2,s3,_⟩=>
    have e0:v0= .int .i64 2:=s0;have e1:v1= .int .i64 0:=s1;obtain⟨bs,e2,e2'⟩:=s2;have e3:v3= .slice none 0 0:=s3;have:=JY e2';subst e0 e1 e2 e3 this;rfl
 |one s t ih=>
  intro l vs h hl
  match l,h with
  | [.i k,.i n,.s q,.l b o 1 4 f],h=>
   have h':(((ieq k 2&& ieq n 0)&& decide (q=s))&& (match cellsAt u b o 4 with |some l=>Eg (cellsAt u) t l |none=>false))=true:=h;rw[Bool.and_eq_true,Bool.and_eq_true,Bool.and_eq_true,CL,CL]at h';obtain⟨⟨⟨h1,h2⟩,h3⟩,h4⟩:=h';have h1:k=2:=by simpa using h1
   have h2:n=0:=by simpa using h2
   have h3:=of_decide_eq_true h3;subst h1 h2 h3
   match vs,hl with
   | [v0,v1,v2,v3],⟨s0,s1,s2,s3,_⟩=>
    have e0:v0= .int .i64 2:=s0;have e1:v1= .int .i64 0:=s1;obtain⟨bs,e2,e2'⟩:=s2;have:=JY e2';subst e0 e1 e2 this;cases hc:cellsAt u b o 4 with
    |none=>rw[hc]at h4;cases h4
    |some l'=>
     rw[hc]at h4;obtain⟨hll,cb,off,cap,rfl,⟨q1,_⟩,_,q3⟩:=Fs hr s3 hB hc (by decide)
     match l',hll,h4,q3 with
     | [y0,y1,y2,y3],_,h4,q3=>
      obtain⟨u0,d0,r0⟩:=q3 0 y0 rfl;obtain⟨u1,d1,r1⟩:=q3 1 y1 rfl;obtain⟨u2,d2,r2⟩:=q3 2 y2 rfl;obtain⟨u3,d3,r3⟩:=q3 3 y3 rfl;exact⟨cb,off,cap,u0,u1,u2,u3,rfl,Nat.zero_le _,q1,⟨by simpa using d0,d1,d2,d3⟩,ih [y0,y1,y2,y3] [u0,u1,u2,u3] h4 ⟨r0,r1,r2,r3,trivial⟩⟩
theorem U1 {ρ:Rho}{u:St}{w:World}(hr:Rel ρ u w) {zs:List Int}{x:S}{v:Value}(hs:SR ρ x v) (h:GO (cellsAt u) zs x=true) (hm:zs.length≤maxLen):Rd w.heap.size .i64 w v zs:=by
 have hB:∀x cb sh z,ρ x=some (cb,sh,z)→cb < w.heap.size:=fun x cb sh z e=>by
  obtain⟨cs,el,f1,_⟩:=hr.blk x cb sh z e;rcases Nat.lt_or_ge cb w.heap.size with h |h
  ·exact h
  ·rw[Array.getElem?_eq_none h]at f1;cases f1
 match x,h with
 | .l0,h=>
  have h1:zs=[]:=of_decide_eq_true h;have e:v= .slice none 0 0:=hs;subst h1 e;exact .inl ⟨rfl,_,_,rfl⟩
 | .l b o n 1 f,h=>
  have h':(Nat.beq n (Ad zs)&& (Nat.ble 1 n&& (match cellsAt u b o n with |some l=>decide (l=zs.map S.i) |none=>false)))=true:=h;rw[Bool.and_eq_true,Bool.and_eq_true]at h';obtain⟨h1,h2,h3⟩:=h';have h1:=Nat.eq_of_beq_eq_true h1;have h2:=Nat.le_of_ble_eq_true h2;rw[AB]at h1;cases hc:cellsAt u b o n with
  |none=>rw[hc]at h3;cases h3
  |some l=>
   rw[hc]at h3;have el:=of_decide_eq_true h3;subst el;obtain⟨_,cb,off,cap,rfl,⟨q1,_⟩,hcap,q3⟩:=Fs hr hs hB hc (by omega);refine .inr ⟨cb,off,cap,by rw[h1],q1,q1,⟨hm,by omega⟩,fun j hj=> ?_⟩;obtain⟨cv,d,s⟩:=q3 j (.i (zs.getD j 0)) (by rw[List.getElem?_map,List.getElem?_eq_getElem hj,List.getD_eq_getElem?_getD,List.getElem?_eq_getElem hj];rfl);have e:cv= .int .i64 (zs.getD j 0):=s;rw[d,e]
theorem Bx.same {w w':World}{g:Nat}{cur:Array Value}(h:Bx w g cur) (e:w'.heap[g]?=w.heap[g]?) (hs:w.heap.size≤w'.heap.size):Bx w' g cur:=
 ⟨Nat.lt_of_lt_of_le h.1 hs,fun j=>(World.cell?_of_block e).trans (h.2.1 j),fun j=>(World.frozen?_of_block e).trans (h.2.2 j)⟩
theorem YT {l:S}{uP:St}(T0:Db (cellsAt uP) 0 0 [90] 0 l=true) (T1:Db (cellsAt uP) 0 1 [83] 1 l=true) {ρ:Rho}{W:World}(hr:Rel ρ uP W) {lv:Value}(hs:SR ρ l lv):Tags W He lv:=by
 have hz:=fun(V:World) (hb:Below W.heap.size W V)=>I3 (hr.later hb) hs (k:=0) (s:=⟨#[90]⟩) (m:=0) T0;have ho:=fun(V:World) (hb:Below W.heap.size W V)=>I3 (hr.later hb) hs (k:=1) (s:=⟨#[83]⟩) (m:=1) T1;obtain⟨lb,lo,ll,lc,e0,_⟩:=hz W (Below.refl _ _);refine⟨⟨_,_,_,e0⟩,fun tag s m h=>⟨lb,lo,ll,lc,e0,fun V hb=> ?_⟩⟩;unfold He at h;split at h
 ·rename_i ht;cases h
  subst ht;obtain⟨lb',lo',ll',lc',e1,T⟩:=hz V hb;rw[e0]at e1;cases e1
  exact T
 ·split at h
  ·rename_i ht;cases h
   subst ht;obtain⟨lb',lo',ll',lc',e1,T⟩:=ho V hb;rw[e0]at e1;cases e1
   exact T
  ·cases h
theorem YU {ρ:Rho}{r:List S}{o:S}{cv:Value}(h:VR ρ (.a (.i 0::(r++ [o]))) cv) (hr:r.length=4):
  ∃b0 b1 b2 b3 ov,cv= .agg #[.int .i64 0,b0,b1,b2,b3,ov]∧LR (SR ρ) r [b0,b1,b2,b3]∧SR ρ o ov:=by
 obtain⟨ar,rfl,k⟩:=h
 match r,hr,k with
 | [r0,r1,r2,r3],_,k=>
  obtain⟨a0,a1,a2,a3,a4,a5,e⟩:=Lo k rfl;rw[e]at k;obtain⟨k0,k1,k2,k3,k4,k5,_⟩:=k;have k0':a0= .int .i64 0:=k0;subst k0';exact⟨a1,a2,a3,a4,a5,by rw[Fr e],⟨k1,k2,k3,k4,trivial⟩,k5⟩
structure PE (k:Nat) (w w':World) (lv a1 a2 a3 a4 a5:Value):Prop where
 tags:Tags w' (CH k) lv
 one:∀x∈ [lv,a1,a2,a3,a4,a5],x.oneCell'=true
 eval:∀W,Below w'.heap.size w' W→Calls Tryz.prog 18 #[.agg #[lv,a1,a2,a3,a4,a5],.int .i64 4000] W fun e W'=>∃b0 b1 b2 b3 ov,e= .returned (.agg #[.int .i64 0,b0,b1,b2,b3,ov])∧
  RdT 0 W' (ctK k) (.agg #[b0,b1,b2,b3])∧Rd W'.heap.size .i64 W' ov (pes.getD k [])∧Tags W' (CH k) lv∧Below w.heap.size W W'∧W.heap.size≤W'.heap.size∧ ∀c,w'.heap.size≤c→c < W.heap.size→W'.heap[c]?=W.heap[c]?
theorem Pb {src:List Nat}{t:CE}{zs:List Int}{l:S}{q r:List S}{o:S}{uP uE:St}(T:PipeV src t zs l q r o uP uE) (k:Nat) (ht:ctK k=C6 t) (hz:pes.getD k []=zs) (hm:zs.length≤maxLen)
  (HT:∀ (ρ:Rho) (W:World) (lv:Value),Rel ρ uP W→SR ρ l lv→Tags W (CH k) lv) (bs:ByteArray) (hs:bs.data.toList.map UInt8.toNat=src) (w:World):
  Calls Tryz.prog 13 #[.string bs] w fun e w'=>∃lv a1 a2 a3 a4 a5,e= .returned (.tuple #[.agg #[lv,a1,a2,a3,a4,a5],.int .i64 (-1)])∧PE k w w' lv a1 a2 a3 a4 a5∧Below w.heap.size w w':=by
 refine((Kn.zero w).ent T.parse (cargs:=[.string bs]) ⟨⟨bs,rfl,hs⟩,trivial⟩).mono ?_;rintro e w' ⟨cv,ρ,rfl,hv,N,_⟩;obtain⟨a0,a1,a2,a3,a4,a5,rfl,hlr⟩:=F1 hv (by simp[T.len]);refine⟨a0,a1,a2,a3,a4,a5,rfl,⟨HT ρ w' a0 N.rel hlr.1,LR.one hlr,fun W hb=> ?_⟩,N.below⟩;have N':=N.later hb;refine((T.eval ρ W [.agg #[a0,a1,a2,a3,a4,a5],.int .i64 4000] ⟨⟨_,rfl,hlr⟩,rfl,trivial⟩ N'.rel).2).mono ?_;rintro e W' ⟨cv,ρ',rfl,hv,R2,g⟩;obtain⟨K1,_⟩:=N'.rel.keep R2 g (fun x b e=>T.keep x b (N'.rel.lt x b e) e);obtain⟨b0,b1,b2,b3,ov,rfl,h1,h2⟩:=YU hv T.rlen;refine⟨b0,b1,b2,b3,ov,rfl,?_,?_,HT ρ W' a0 K1 hlr.1,g.below N'.below.size N'.low,g.size,fun c hc h'=>((Left.of g).keep c (N.far hc h')).2⟩
 ·rw[ht];exact U0 R2 t r [b0,b1,b2,b3] T.val h1
 ·rw[hz];exact U1 R2 h2 T.out hm
theorem KH (k:Nat) (hk:k < 7) (bs:ByteArray) (hs:bs.data.toList.map UInt8.toNat=BH.getD k []) (w:World):
  Calls Tryz.prog 13 #[.string bs] w fun e w'=>∃lv a1 a2 a3 a4 a5,e= .returned (.tuple #[.agg #[lv,a1,a2,a3,a4,a5],.int .i64 (-1)])∧PE k w w' lv a1 a2 a3 a4 a5∧Below w.heap.size w w':=by
 have other:∀ {src:List Nat} {t:CE} {zs:List Int},bs.data.toList.map UInt8.toNat=src→DP src t zs=true→CH k= (fun _=>none)→ctK k=C6 t→pes.getD k []=zs→zs.length≤maxLen→
   Calls Tryz.prog 13 #[.string bs] w fun e w'=>∃lv a1 a2 a3 a4 a5,e= .returned (.tuple #[.agg #[lv,a1,a2,a3,a4,a5],.int .i64 (-1)])∧PE k w w' lv a1 a2 a3 a4 a5∧Below w.heap.size w w':=by
  intro src t zs hs hv hc ht hz hm;obtain⟨l,q,r,o,uP,uE,T⟩:=XZ hv;refine Pb T k ht hz hm (fun ρ W lv hr hs=> ?_) bs hs w;obtain⟨a,n,c,e0⟩:=Pc hs T.sl;exact⟨⟨a,n,c,e0⟩,fun tag s m h=>by rw[hc]at h;cases h⟩
 have hk':k=0∨k=1∨k=2∨k=3∨k=4∨k=5∨k=6:=by omega
 rcases hk' with rfl |rfl |rfl |rfl |rfl |rfl |rfl
 ·exact other hs X1 rfl (Fb 0 hk) rfl (by decide)
 ·exact other hs X3 rfl (Fb 1 hk) rfl (by decide)
 ·exact other hs X4 rfl (Fb 2 hk) rfl (by decide)
 ·exact other hs X5 rfl (Fb 3 hk) rfl (by decide)
 ·exact other hs X6 rfl (Fb 4 hk) rfl (by decide)
 ·exact other hs X7 rfl (Fb 5 hk) rfl (by decide)
 ·obtain⟨l,q,r,o,uP,uE,T,T6⟩:=X0 OB X8;exact Pb T 6 (Fb 6 hk) rfl (by decide) (fun ρ W lv hr hs=>YT T6.c0 T6.c1 hr hs) bs hs w
end Go.Proofs.YtfmebaafpfkeiaaGreat
