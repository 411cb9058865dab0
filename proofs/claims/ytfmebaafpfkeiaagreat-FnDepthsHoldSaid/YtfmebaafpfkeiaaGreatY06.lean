/- Parts of the proof of FnDepthsHold, FnEnds, FnMeant, FnMovedWhenever, FnSizes. -/
import Derived.Test.YtfmebaafpfkeiaaGreatY05
set_option linter.unusedVariables false
set_option linter.unusedSimpArgs false
set_option maxRecDepth 1000000
set_option maxHeartbeats 16000000
namespace Go.Ev
open Go
def Da (ck:By) (call:Nat→List V→St→Option (V×St)):Prop:=
 ∀g vs s k u,RS s u→ck g vs s k=true→ ∃v s' u',call g vs u=some (v,u')∧RS s' u'∧k v s'=true
def OpOk (f:OpB) (dst:Option Nat) (o:MO):Prop:=
 ∀ck call,Da ck call→ ∀e s k t u,RE e t→RS s u→f.f ck e s k=true→
  ∃v u' e' s',mo call t u o=some (v,u')∧RE e' (put t dst v)∧RS s' u'∧k e' s'=true
theorem Ec (d:Pt) (f:PtF→OpF):BS d f=⟨f d.f⟩:=by cases d;rfl
theorem Ed (x:Gt) (d:Pt) (f:GtF→PtF→OpF):Br x d f=⟨f x.f d.f⟩:=by cases x;cases d;rfl
theorem GH (x y:Gt) (d:Pt) (f:GtF→GtF→PtF→OpF):C9 x y d f=⟨f x.f y.f d.f⟩:=by cases x;cases y;cases d;rfl
theorem Ws (x y z:Gt) (d:Pt) (f:GtF→GtF→GtF→PtF→OpF):J8 x y z d f=⟨f x.f y.f z.f d.f⟩:=by cases x;cases y;cases z;cases d;rfl
theorem NW (xs:Gts) (d:Pt) (f:List GtF→PtF→OpF):GE xs d f=⟨f xs.l d.f⟩:=by cases xs;cases d;rfl
theorem Km {e:EK}{t:E}(he:RE e t):∀xs:List O,FO e (gts xs).l=ovs t xs
 | []=>rfl
 |x::xs=>by
  have ih:=Km he xs;have e1:(gts (x::xs)).l= (gt x).f::(gts xs).l:=by
   show(Gt.rec (motive:=fun _=>Gts) (fun g=>Gts.rec (motive:=fun _=>Gts) (fun l=>⟨g::l⟩) (gts xs)) (gt x):Gts).l=_
   cases gt x;cases gts xs;rfl
  rw[e1]
  show(gt x).f e::FO e (gts xs).l=ov t x::ovs t xs
  rw[ih,he.gt]
theorem Cw {t:E}{x:O}{a:S}(h:ov t x= .c a):os t x=a:=by unfold os;rw[h]
theorem Cm {dst:Option Nat}{w:W}{call:Nat→List V→St→Option (V×St)}{e:EK}{s:KS}{k:EK→KS→Bool}{t:E}{u:St}(he:RE e t) (hs:RS s u) {v:V}(hv:wv t w=some v)
  (hk:(pt dst).f v e (fun e=>k e s)=true):∃v u' e' s',mo call t u (.w w)=some (v,u')∧RE e' (put t dst v)∧RS s' u'∧k e' s'=true:=by
 obtain⟨e',h1,h2⟩:=he.put hk;refine⟨v,u,e',s,?_,h1,hs,h2⟩
 show(match wv t w with |some v=>some (v,u) |none=>none)=_
 rw[hv]
theorem Wt (t:E) (op:BinOp) (x y:O):wv t (.bin op x y)=GD op (os t x) (os t y):=rfl
theorem NX (w:W) (dst:Option Nat):OpOk ⟨fW w (pt dst).f⟩ dst (.w w):=by
 intro ck call hc e s k t u he hs h;have h':vk (wvR (AF e) w) (fun v=>(pt dst).f v e fun e=>k e s)=true:=h;rw[he,We]at h';obtain⟨v,h1,h2⟩:=DN h';exact Cm he hs h1 h2
theorem Wu (x:O) (dst:Option Nat):OpOk ⟨fMv (gt x).f (pt dst).f⟩ dst (.w (.mv x)):=by
 intro ck call hc e s k t u he hs h;have h':(pt dst).f ((gt x).f e) e (fun e=>k e s)=true:=h;rw[he.gt]at h';exact Cm he hs rfl h'
theorem Wv (op:BinOp) (x y:O) (dst:Option Nat):OpOk ⟨IF op (bf op).f (gt x).f (gt y).f (pt dst).f⟩ dst (.w (.bin op x y)):=by
 intro ck call hc e s k t u he hs h;obtain⟨a,ha,h⟩:=Ds (show unC ((gt x).f e) _=true from h);obtain⟨b,hb,h⟩:=Ds h;rw[he.gt]at ha hb;have hw:wv t (.bin op x y)=GD op a b:=by rw[Wt,Cw ha,Cw hb]
 cases a with
 |i m=>
  cases b with
  |i n=>
   obtain⟨v,h1,h2⟩:=Wj h;exact Cm he hs (hw.trans h1) h2
  |j j n=>
   obtain⟨v,h1,h2⟩:=DN h;exact Cm he hs (hw.trans h1) h2
  |_=>cases h
 |j j m=>
  obtain⟨v,h1,h2⟩:=DN h;exact Cm he hs (hw.trans h1) h2
 |s l=>
  obtain⟨v,h1,h2⟩:=DN h;exact Cm he hs (hw.trans h1) h2
 |_=>cases h
theorem Ww (off:Nat) (x:O) (dst:Option Nat):OpOk ⟨Np off (gt x).f (pt dst).f⟩ dst (.w (.fad off x)):=by
 intro ck call hc e s k t u he hs h;obtain⟨a,b,ha,h⟩:=Kk (show unP ((gt x).f e) _=true from h);rw[he.gt]at ha;have hw:wv t (.fad off x)=some (.c (.p a (Nat.add b off))):=by
  show(match os t x with | .p a b=>some (V.c (.p a (Nat.add b off))) |_=>none)=_
  rw[Cw ha]
 exact Cm he hs hw h
theorem Wx (off:Nat) (x:O) (dst:Option Nat):OpOk ⟨Nq off (gt x).f (pt dst).f⟩ dst (.w (.fld off none x)):=by
 intro ck call hc e s k t u he hs h;obtain⟨l,ha,h⟩:=Wf (show unA ((gt x).f e) _=true from h);obtain⟨c,hc',h⟩:=NM h;rw[he.gt]at ha;have hw:wv t (.fld off none x)=some (.c c):=by
  show(match ov t x with | .a l=>(match Ca l off with |some s=>some (V.c s) |none=>none) |_=>none)=_
  rw[ha];simp only[Ew,hc']
 exact Cm he hs hw h
theorem NY {i:Int}{k:Nat→Bool}(h:J9 i k=true):∃n,i= .ofNat n∧k n=true:=by
 cases i with
 |ofNat n=>exact⟨n,rfl,h⟩
 |negSucc n=>cases h
theorem NZ {v:V}{k:Nat→Bool}(h:unN v k=true):∃s n,v= .c s∧(s= .i (.ofNat n)∨ ∃q,s= .j q (.ofNat n))∧k n=true:=by
 obtain⟨s,rfl,h⟩:=Ds h;cases s with
 |i i=>obtain⟨n,rfl,h⟩:=NY h;exact⟨_,n,rfl,.inl rfl,h⟩
 |j q i=>obtain⟨n,rfl,h⟩:=NY h;exact⟨_,n,rfl,.inr ⟨q,rfl⟩,h⟩
 |_=>cases h
theorem N0 {t:E}{y:O}{s:S}{n:Nat}(h:ov t y= .c s) (hs:s= .i (.ofNat n)∨ ∃q,s= .j q (.ofNat n)):onj t y=some n:=by
 unfold onj;rcases hs with rfl |⟨q,rfl⟩ <;> rw[Cw h]
theorem Ko {v:V}{k:List Nat→Bool}(h:unS v k=true):∃l,v= .c (.s l)∧k l=true:=by
 obtain⟨s,rfl,h⟩:=Ds h;cases s with
 |s l=>exact⟨l,rfl,h⟩
 |_=>cases h
theorem Wy (sz:Nat) (x y:O) (dst:Option Nat):OpOk ⟨Nr sz (gt x).f (gt y).f (pt dst).f⟩ dst (.w (.iad sz x y)):=by
 intro ck call hc e s k t u he hs h;obtain⟨bl,o,n,sz',fl,ha,h⟩:=Wg (show unL ((gt x).f e) _=true from h);obtain⟨q,i,hi,hq,h⟩:=NZ h;rw[he.gt]at ha hi;have h':Bool.rec (motive:=fun _=>Bool) false (BQ (Nat.add o (Nat.mul i sz)) fun c=>(pt dst).f (.c (.p bl c)) e fun e=>k e s) (Nat.beq sz sz'&& Nat.ble (Nat.succ i) n)=true:=h;cases hb:(Nat.beq sz sz'&& Nat.ble (Nat.succ i) n)with
 |false=>rw[hb]at h';cases h'
 |true=>
  rw[hb]at h';have hw:wv t (.iad sz x y)=some (.c (.p bl (Nat.add o (Nat.mul i sz)))):=by
   show(match os t x with
    | .l bl o n sz' _=>(match onj t y with
     |some i=>bif Nat.beq sz sz'&& Nat.ble (Nat.succ i) n then some (V.c (.p bl (Nat.add o (Nat.mul i sz))))else none
     |none=>none)
    |_=>none)=_
   rw[Cw ha,N0 hi hq]
   show(bif Nat.beq sz sz'&& Nat.ble (Nat.succ i) n then some (V.c (.p bl (Nat.add o (Nat.mul i sz))))else none)=_
   rw[hb];rfl
  exact Cm he hs hw h'
theorem Wz (x y:O) (dst:Option Nat):OpOk ⟨Nu (gt x).f (gt y).f (pt dst).f⟩ dst (.w (.ixs x y)):=by
 intro ck call hc e s k t u he hs h;obtain⟨l,ha,h⟩:=Ko (show unS ((gt x).f e) _=true from h);obtain⟨q,i,hi,hq,h⟩:=NZ h;obtain⟨b,hb,h⟩:=NS h;rw[he.gt]at ha hi;have hw:wv t (.ixs x y)=some (.c (.j .u8 (.ofNat b))):=by
  show(match os t x with
   | .s l=>(match onj t y with
    |some i=>(match Ca l i with |some b=>some (V.c (.j .u8 (.ofNat b))) |none=>none)
    |none=>none)
   |_=>none)=_
  rw[Cw ha,N0 hi hq]
  show(match Ca l i with |some b=>some (V.c (.j .u8 (.ofNat b))) |none=>none)=_
  rw[Ew,hb]
 exact Cm he hs hw h
theorem WA (x:O) (dst:Option Nat):OpOk ⟨Nv (gt x).f (pt dst).f⟩ dst (.w (.lns x)):=by
 intro ck call hc e s k t u he hs h;obtain⟨l,ha,h⟩:=Ko (show unS ((gt x).f e) _=true from h);rw[he.gt]at ha;have hw:wv t (.lns x)=some (.c (.i (.ofNat (Ad l)))):=by
  show(match os t x with | .s l=>some (V.c (.i (.ofNat (Ad l)))) |_=>none)=_
  rw[Cw ha]
 exact Cm he hs hw h
theorem WB (x:O) (lo hi:Option O) (dst:Option Nat):OpOk ⟨IG (gt x).f lo hi (pt dst).f⟩ dst (.w (.sls x lo hi)):=by
 intro ck call hc e s k t u he hs h;obtain⟨l,ha,h⟩:=Ko (show unS ((gt x).f e) _=true from h);rw[he.gt]at ha;rw[he,NJ,NJ]at h;split at h
 ·rename_i a b h1 h2;have h':Bool.rec (motive:=fun _=>Bool) false ((pt dst).f (.c (.s (Bq (ED l a) (Nat.sub b a)))) e fun e=>k e s) (Nat.ble a b&& Nat.ble b (Ad l))=true:=h;cases hb:(Nat.ble a b&& Nat.ble b (Ad l))with
  |false=>rw[hb]at h';cases h'
  |true=>
   rw[hb]at h';have hw:wv t (.sls x lo hi)=some (.c (.s (Bq (ED l a) (Nat.sub b a)))):=by
    show(match os t x with
     | .s l=>(match onD t 0 lo,onD t (Ad l) hi with
      |some a,some b=>bif Nat.ble a b&& Nat.ble b (Ad l)then some (V.c (.s (Bq (Cb l a) (Nat.sub b a))))else none
      |_,_=>none)
     |_=>none)=_
    rw[Cw ha]
    show(match onD t 0 lo,onD t (Ad l) hi with
      |some a,some b=>bif Nat.ble a b&& Nat.ble b (Ad l)then some (V.c (.s (Bq (Cb l a) (Nat.sub b a))))else none
      |_,_=>none)=_
    rw[h1,h2]
    show(bif Nat.ble a b&& Nat.ble b (Ad l)then some (V.c (.s (Bq (Cb l a) (Nat.sub b a))))else none)=_
    rw[hb,IR,Dl];rfl
   exact Cm he hs hw h'
 ·cases h
theorem WC {t:E}{x:O}(h:os t x= .l0):wv t (.lnl x)=some (.c (.i 0)):=by
 show(match os t x with | .l0=>some (V.c (.i 0)) | .l _ _ n _ _=>some (V.c (.i (.ofNat n))) |_=>none)=_
 rw[h]
theorem WD {t:E}{x:O}{a b n d:Nat}{f:Bool}(h:os t x= .l a b n d f):wv t (.lnl x)=some (.c (.i (.ofNat n))):=by
 show(match os t x with | .l0=>some (V.c (.i 0)) | .l _ _ n _ _=>some (V.c (.i (.ofNat n))) |_=>none)=_
 rw[h]
theorem WE (x:O) (dst:Option Nat):OpOk ⟨Ns (.lnl x) (gt x).f (pt dst).f⟩ dst (.w (.lnl x)):=by
 intro ck call hc e s k t u he hs h;obtain⟨a,ha,h⟩:=Ds (show unC ((gt x).f e) _=true from h);rw[he.gt]at ha;have ho:=Cw ha;clear ha;cases a with
 |l0=>exact Cm he hs (WC ho) h
 |l a b c d f=>exact Cm he hs (WD ho) h
 |_=>cases h
theorem WG (c x y:O) (dst:Option Nat):OpOk ⟨Nt (gt c).f (gt x).f (gt y).f (pt dst).f⟩ dst (.w (.pick c x y)):=by
 intro ck call hc e s k t u he hs h;obtain⟨b,hb,h⟩:=NL (show unB ((gt c).f e) _=true from h);rw[he.gt]at hb;have hw:wv t (.pick c x y)=some (bif b then ov t x else ov t y):=by
  show(match os t c with | .b q=>some (bif q then ov t x else ov t y) |_=>none)=_
  rw[Cw hb]
 cases b with
 |false=>
  have h':(pt dst).f ((gt y).f e) e (fun e=>k e s)=true:=h;rw[he.gt]at h';exact Cm he hs hw h'
 |true=>
  have h':(pt dst).f ((gt x).f e) e (fun e=>k e s)=true:=h;rw[he.gt]at h';exact Cm he hs hw h'
theorem WI (w:W) (dst:Option Nat):OpOk (opW w (pt dst)) dst (.w w):=by
 cases w with
 |mv x=>show OpOk (Br _ _ _) _ _;rw[Ed];exact Wu x dst
 |bin op x y=>
  have e:opW (.bin op x y) (pt dst)=⟨IF op (bf op).f (gt x).f (gt y).f (pt dst).f⟩:=by
   show BF.rec (motive:=fun _=>OpB) (fun f=>C9 (gt x) (gt y) (pt dst) (IF op f)) (bf op)=_
   cases bf op;rw[←GH]
  rw[e];exact Wv op x y dst
 |fad off x=>show OpOk (Br _ _ _) _ _;rw[Ed];exact Ww off x dst
 |fld off n x=>
  cases n with
  |none=>show OpOk (Br _ _ _) _ _;rw[Ed];exact Wx off x dst
  |some n=>show OpOk (BS _ _) _ _;rw[Ec];exact NX _ dst
 |iad sz x y=>show OpOk (C9 _ _ _ _) _ _;rw[GH];exact Wy sz x y dst
 |lnl x=>show OpOk (Br _ _ _) _ _;rw[Ed];exact WE x dst
 |pick c x y=>show OpOk (J8 _ _ _ _ _) _ _;rw[Ws];exact WG c x y dst
 |ixs x y=>show OpOk (C9 _ _ _ _) _ _;rw[GH];exact Wz x y dst
 |lns x=>show OpOk (Br _ _ _) _ _;rw[Ed];exact WA x dst
 |sls x lo hi=>
  have e:opW (.sls x lo hi) (pt dst)=⟨IG (gt x).f lo hi (pt dst).f⟩:=by
   show Br (gt x) (pt dst) (fun x d=>IG x lo hi d)=_
   rw[Ed]
  rw[e];exact WB x lo hi dst
 |_=>show OpOk (BS _ _) _ _;rw[Ec];exact NX _ dst
theorem N2 {dst:Option Nat}{r:R}{call:Nat→List V→St→Option (V×St)}{e:EK}{s:KS}{k:EK→KS→Bool}{t:E}{u:St}(he:RE e t) (hs:RS s u) {v:V}(hv:rv t u r=some v)
  (hk:(pt dst).f v e (fun e=>k e s)=true):∃v u' e' s',mo call t u (.r r)=some (v,u')∧RE e' (put t dst v)∧RS s' u'∧k e' s'=true:=by
 obtain⟨e',h1,h2⟩:=he.put hk;refine⟨v,u,e',s,?_,h1,hs,h2⟩
 show(match rv t u r with |some v=>some (v,u) |none=>none)=_
 rw[hv]
theorem N3 (r:R) (dst:Option Nat):OpOk ⟨fR r (pt dst).f⟩ dst (.r r):=by
 intro ck call hc e s k t u he hs h;have h':vk (rvK (AF e) s r) (fun v=>(pt dst).f v e fun e=>k e s)=true:=h;rw[he]at h';obtain⟨v,h1,h2⟩:=DN h';exact N2 he hs (hs.rv h1) h2
theorem WJ (x:O) (dst:Option Nat):OpOk ⟨Nw (gt x).f (pt dst).f⟩ dst (.r (.ld none x)):=by
 intro ck call hc e s k t u he hs h;obtain⟨a,o,ha,h⟩:=Kk (show unP ((gt x).f e) _=true from h);rw[he.gt]at ha;have h':Option.rec (motive:=fun _=>Bool) false (fun b=>KB.rec (motive:=fun _=>Bool) (fun r n _ _=>
  Bool.rec (motive:=fun _=>Bool) false (BQ (Nat.sub n (Nat.succ o)) fun m=>atK r m fun v=>(pt dst).f (.c v) e fun e=>k e s) (Nat.ble (Nat.succ o) n)) b) (AI s a)=true:=h
 cases hb:AI s a with
 |none=>rw[hb]at h';cases h'
 |some b=>
  rw[hb]at h';have hn:=hs.n a b hb;have hh:=hs.h a;rw[hb]at hh;cases b with
  |mk br bn bf bd=>
   have h2:Bool.rec (motive:=fun _=>Bool) false (BQ (Nat.sub bn (Nat.succ o)) fun m=>atK br m fun v=>(pt dst).f (.c v) e fun e=>k e s) (Nat.ble (Nat.succ o) bn)=true:=h';cases hle:Nat.ble (Nat.succ o) bn with
   |false=>rw[hle]at h2;cases h2
   |true=>
    rw[hle]at h2;obtain⟨c,h3,h4⟩:=NS (show atK br (Nat.sub bn (Nat.succ o)) _=true from h2);have h3':br[bn - (o+1)]?=some c:=h3;rw[Wq hn (Nat.le_of_ble_eq_true hle)]at h3';refine N2 he hs (v:= .c c) ?_ h4
    show ldv u none (os t x)=_
    rw[Cw ha]
    show(match u.h.get a with |some b=>(match Ca b.c o with |some v=>some (V.c v) |none=>none) |none=>none)=_
    rw[hh]
    show(match Ca br.reverse o with |some v=>some (V.c v) |none=>none)=_
    rw[h3']
theorem WK (r:R) (dst:Option Nat):OpOk (opR r (pt dst)) dst (.r r):=by
 cases r with
 |ld n x=>
  cases n with
  |none=>show OpOk (Br _ _ _) _ _;rw[Ed];exact WJ x dst
  |some n=>show OpOk (BS _ _) _ _;rw[Ec];exact N3 _ dst
 |bts x=>show OpOk (BS _ _) _ _;rw[Ec];exact N3 _ dst
theorem N4 {dst:Option Nat}{a:A}{call:Nat→List V→St→Option (V×St)}{k:EK→KS→Bool}{t:E}{u:St}{l:List S}{f:Nat→V}(hv:av t a=some (l,f)) {e':EK}{s':KS}(h1:RE e' (put t dst (f u.nb))) (h2:RS s' (Ev.alloc u l))
  (hk:k e' s'=true):∃v u' e' s',mo call t u (.a a)=some (v,u')∧RE e' (put t dst v)∧RS s' u'∧k e' s'=true:=by
 refine⟨f u.nb,Ev.alloc u l,e',s',?_,h1,h2,hk⟩
 show(match av t a with |some (l,f)=>some (f u.nb,Ev.alloc u l) |none=>none)=_
 rw[hv]
theorem WL (a:A) (dst:Option Nat):OpOk ⟨fA a (pt dst).f⟩ dst (.a a):=by
 intro ck call hc e s k t u he hs h;have h':(match avR (AF e) a with
  |none=>false
  |some (l,f)=>(pt dst).f (f s.nb) e fun e=>BR s (mkB l 0 0) (k e))=true:=h
 rw[he,NK]at h';split at h'
 ·cases h'
 ·rename_i l f hv;obtain⟨e',h1,h2⟩:=he.put h';obtain⟨s',h3,h4⟩:=hs.alloc h2;rw[←hs.nb]at h1;exact N4 hv h1 h4 h3
theorem Kq {l r:List S}{n:Nat}(hr:r=l.reverse) (hn:n=l.length) {dst:Option Nat}{a:A}(ha:∀t,av t a=some (l,fun x=> .c (.p x 0))→True) {ck:By}{call:Nat→List V→St→Option (V×St)}{e:EK}{s:KS}{k:EK→KS→Bool}{t:E}{u:St}
  (he:RE e t) (hs:RS s u) (hv:av t a=some (l,fun x=> .c (.p x 0))) (h:fAl r n (pt dst).f ck e s k=true):∃v u' e' s',mo call t u (.a a)=some (v,u')∧RE e' (put t dst v)∧RS s' u'∧k e' s'=true:=by
 cases s with
 |mk hh nb fm nf=>
  have h':(Bd nb).m (some ⟨r,n,0,0⟩) hh (fun h=>(pt dst).f (.c (.p nb 0)) e fun e=>k e ⟨h,Nat.succ nb,fm,nf⟩)=true:=h;obtain⟨h2,h3,h4⟩:=IQ h';obtain⟨e',h5,h6⟩:=he.put h3;have e1:u.nb=nb:=hs.nb;refine N4 (l:=l) (f:=fun x=> .c (.p x 0)) hv (e':=e') (s':=⟨h2,Nat.succ nb,fm,nf⟩) (by rw[e1];exact h5) ?_ h6;refine⟨by show Nat.succ u.nb=_;rw[e1],hs.nf,hs.fm,fun y=> ?_,fun y c hy=> ?_⟩
  ·show(T.upd (some ⟨l,0,0⟩) u.h u.nb).get y= ((Bd y).g h2).map KB.bk
   rw[T.get_upd,h4,e1];by_cases hy:y=nb
   ·rw[if_pos hy,if_pos hy]
    show _=some (⟨r.reverse,0,0⟩:Bk)
    rw[hr,List.reverse_reverse]
   ·rw[if_neg hy,if_neg hy];exact hs.h y
  ·have hy':(Bd y).g h2=some c:=hy;rw[h4]at hy';by_cases hyn:y=nb
   ·rw[if_pos hyn]at hy';simp only[Option.some.injEq]at hy';rw[←hy']
    show n=r.length
    rw[hr,hn,List.length_reverse]
   ·rw[if_neg hyn]at hy';exact hs.n y c hy'
theorem WM (z:List S) (dst:Option Nat):OpOk ⟨fAl (AL z []) (Ad z) (pt dst).f⟩ dst (.a (.al z)):=by
 intro ck call hc e s k t u he hs h;exact Kq (ck:=ck) (l:=z) (by rw[CN,List.append_nil]) (AB z) (fun _ _=>trivial) he hs rfl h
theorem WN (x:O) (dst:Option Nat):OpOk ⟨Nx (.box x) (gt x).f (pt dst).f⟩ dst (.a (.box x)):=by
 intro ck call hc e s k t u he hs h;have h':@V.rec (fun _=>Bool) (fun _=>Bool) false (fun c=>fAl [c] 1 (pt dst).f ck e s k) (fun l=>BQ (Ad l) fun n=>fAl (AL l []) n (pt dst).f ck e s k) (fun _ _=>false) false (fun _ _ _ _=>false) ((gt x).f e)=true:=h;have hv:av t (.box x)= (match cellsOf (ov t x)with |some l=>some (l,fun x=> .c (.p x 0)) |none=>none):=rfl;have hx:=he.gt x;cases hq:(gt x).f e with
 |o=>rw[hq]at h';cases h'
 |t l=>rw[hq]at h';cases h'
 |c c=>
  rw[hq]at h' hx;exact Kq (ck:=ck) (l:=[c]) rfl rfl (fun _ _=>trivial) he hs (by rw[hv,←hx];rfl) h'
 |a l=>
  rw[hq]at h' hx;exact Kq (ck:=ck) (l:=l) (by rw[CN,List.append_nil]) (AB l) (fun _ _=>trivial) he hs (by rw[hv,←hx];rfl) (show fAl (AL l []) (Ad l) (pt dst).f ck e s k=true from h')
theorem WO (a:A) (dst:Option Nat):OpOk (opA a (pt dst)) dst (.a a):=by
 cases a with
 |al z=>show OpOk (BS _ _) _ _;rw[Ec];exact WM z dst
 |box x=>show OpOk (Br _ _ _) _ _;rw[Ed];exact WN x dst
 |_=>show OpOk (BS _ _) _ _;rw[Ec];exact WL _ dst
theorem Fg {dst:Option Nat}{m:M}{call:Nat→List V→St→Option (V×St)}{e:EK}{k:EK→KS→Bool}{t:E}{u u':St}{v:V}{s':KS}(he:RE e t) (hv:mv call t u m=some (v,u')) (hs:RS s' u')
  (hk:(pt dst).f v e (fun e=>k e s')=true):∃v u' e' s',mo call t u (.m m)=some (v,u')∧RE e' (put t dst v)∧RS s' u'∧k e' s'=true:=by
 obtain⟨e',h1,h2⟩:=he.put hk;exact⟨v,u',e',s',hv,h1,hs,h2⟩
theorem N5 {call:Nat→List V→St→Option (V×St)}{t:E}{u u':St}{n:Nat}{a v:O}{x o:Nat}{l:List S}(ha:os t a= .p x o) (hv:cellsOf (ov t v)=some l) (h:Ev.store u x o n l=some u'):mv call t u (.st n a v)=some (.o,u'):=by
 show(match os t a,cellsOf (ov t v)with
  | .p x o,some l=>(match Ev.store u x o n l with |some s=>some (V.o,s) |none=>none)
  |_,_=>none)=_
 rw[ha,hv]
 show(match Ev.store u x o n l with |some s=>some (V.o,s) |none=>none)=_
 rw[h]
theorem N6 (n:Nat) (a v:O) (dst:Option Nat):OpOk ⟨fSt n a v (pt dst).f⟩ dst (.m (.st n a v)):=by
 intro ck call hc e s k t u he hs h;have h':(match osR (AF e) a,cellsOf (AF e v)with
  | .p x o,some l=>EE s x o n l fun s=>(pt dst).f .o e fun e=>k e s
  |_,_=>false)=true:=h
 rw[he]at h';split at h'
 ·rename_i x o l ha hv;obtain⟨s',u',h1,h2,h3⟩:=hs.store h';exact Fg he (N5 ha hv h1) h2 h3
 ·cases h'
theorem WP (a v:O) (dst:Option Nat):OpOk ⟨Ka 1 a v (gt a).f (gt v).f (pt dst).f⟩ dst (.m (.st 1 a v)):=by
 intro ck call hc e s k t u he hs h;have h':@V.rec (fun _=>Bool) (fun _=>Bool) false (fun _=>Ny (gt a).f (gt v).f (pt dst).f ck e s k) (fun _=>fSt 1 a v (pt dst).f ck e s k) (fun _ _=>false) false (fun _ _ _ _=>false) ((gt v).f e)=true:=h;cases hv:(gt v).f e with
 |o=>rw[hv]at h';cases h'
 |t l=>rw[hv]at h';cases h'
 |a l=>rw[hv]at h';exact N6 1 a v dst ck call hc e s k t u he hs h'
 |c q=>
  rw[hv]at h';obtain⟨x,o,ha,h2⟩:=Kk (show unP ((gt a).f e) _=true from h');obtain⟨c,hc',h2⟩:=Ds h2;rw[he.gt]at ha hc';have h3:Option.rec (motive:=fun _=>Bool) false (fun b=>bif Nat.ble (Nat.succ o) b.n then Dq s b x o 1 fun s=>
   KB.rec (motive:=fun _=>Bool) (fun r m fam d'=>Ck s x (some ⟨CK r c (Nat.sub m (Nat.succ o)),m,fam,d'⟩) fun s=>(pt dst).f .o e fun e=>k e s) b else false) (AI s x)=true:=h2
  cases hb:AI s x with
  |none=>rw[hb]at h3;cases h3
  |some b=>
   rw[hb]at h3;have h4:(bif Nat.ble (Nat.succ o) b.n then Dq s b x o 1 fun s=>
    KB.rec (motive:=fun _=>Bool) (fun r m fam d'=>Ck s x (some ⟨CK r c (Nat.sub m (Nat.succ o)),m,fam,d'⟩) fun s=>(pt dst).f .o e fun e=>k e s) b else false)=true:=h3
   cases hle:Nat.ble (Nat.succ o) b.n with
   |false=>rw[hle]at h4;cases h4
   |true=>
    rw[hle]at h4;obtain⟨s',u',h5,h6,h7⟩:=hs.store1 hb hle h4;exact Fg he (N5 (Cw ha) (by rw[hc'];rfl) h5) h6 h7
theorem WQ {b nw:KB}(hn:b.n=b.r.length) {o n:Nat}{ns:List S}(h:GC b o n ns=some nw):nw.n=nw.r.length∧nw.r.length=n+ns.length∧ ∃l,Nat.ble (Nat.add o n) (Ad b.bk.c)=true∧l=Bq (Cb b.bk.c o) n∧nw.r.reverse=BL l ns:=by
 unfold GC at h;cases hc:(Nat.beq o 0&& Nat.beq n b.n)with
 |true=>
  rw[hc]at h;have h':some (⟨AL ns b.r,Nat.add n (Ad ns),0,0⟩:KB)=some nw:=h;simp only[Option.some.injEq]at h';obtain⟨c1,c2⟩:=(Bool.and_eq_true _ _).mp hc;have c1:o=0:=Nat.eq_of_beq_eq_true c1;have c2:n=b.n:=Nat.eq_of_beq_eq_true c2;subst h';subst c1;have hlen:n=b.r.length:=c2.trans hn;have e1:(AL ns b.r).length=n+ns.length:=by rw[CN];simp;omega
  refine⟨?_,e1,b.r.reverse,?_,?_,?_⟩
  ·show n+Ad ns= (AL ns b.r).length
   rw[AB,e1]
  ·rw[AB]
   show Nat.ble (0+n) (b.r.reverse.length)=true
   exact Nat.ble_eq_true_of_le (by simp;omega)
  ·rw[Dm,Dl]
   show b.r.reverse=List.take n (List.drop 0 b.r.reverse)
   rw[List.drop_zero,List.take_of_length_le (by simp;omega)]
  ·show(AL ns b.r).reverse=_
   rw[CN,D8];simp
 |false=>
  rw[hc]at h;have h':(match FN b o n with |some l=>some (⟨AL ns (AL l []),Nat.add n (Ad ns),0,0⟩:KB) |none=>none)=some nw:=h;split at h'
  ·rename_i l hl;simp only[Option.some.injEq]at h';obtain⟨h1,h2⟩:=NT hn hl;subst h';have hl':l.length=n:=by
    rw[h2,Dm,Dl];have:=Nat.le_of_ble_eq_true h1;rw[AB]at this;have this:o+n≤b.bk.c.length:=this;simp;omega
   have e1:(AL ns (AL l [])).length=n+ns.length:=by rw[CN,CN];simp;omega
   refine⟨?_,e1,l,h1,h2,?_⟩
   ·show n+Ad ns= (AL ns (AL l [])).length
    rw[AB,e1]
   ·show(AL ns (AL l [])).reverse=_
    rw[CN,CN,D8];simp
  ·cases h'
theorem RS.news {s:KS}{u:St}(r:RS s u) {sz:Nat}{y:S}{q:Nat×List S}(h:Nm s sz y=some q):Fy u sz y=some q:=by
 cases y with
 |l0=>exact h
 |l x o n sz' fl=>
  have h':(bif Nat.beq sz sz' then(match n with
   |0=>some (0,[])
   | .succ n=>match Cj s x o (Nat.mul (Nat.succ n) sz)with |some l=>some (Nat.succ n,l) |none=>none)else none)=some q:=h
  obtain⟨h1,h2⟩:=AH h'
  show(bif Nat.beq sz sz' then(match n with
   |0=>some (0,[])
   | .succ n=>match cellsAt u x o (Nat.mul (Nat.succ n) sz)with |some l=>some (Nat.succ n,l) |none=>none)else none)=some q
  rw[h1];cases n with
  |zero=>exact h2
  |succ n=>
   have h2':(match Cj s x o (Nat.mul (Nat.succ n) sz)with |some l=>some (Nat.succ n,l) |none=>none)=some q:=h2;split at h2'
   ·rename_i l hl
    show(match cellsAt u x o (Nat.mul (Nat.succ n) sz)with |some l=>some (Nat.succ n,l) |none=>none)=some q
    rw[r.cells hl];exact h2'
   ·cases h2'
 |_=>cases h
theorem RS.famOf {s:KS}{u:St}(r:RS s u) {bl:Nat}{b:KB}(hb:AI s bl=some b) {k:KS→Nat→Nat→List (Nat×Nat×Nat)→Bool}(h:ID s bl b k=true):
  ∃s' u' d f ms,Ev.famOf u bl=some (u',d,f,ms)∧RS s' u'∧s'.nb=s.nb∧k s' d f ms=true:=by
 have e1:=r.h bl;rw[hb]at e1;have hn:=r.n bl b hb;cases b with
 |mk br bn bf bd=>
  have e1':u.h.get bl=some ⟨br.reverse,bf,bd⟩:=e1;cases bf with
  |zero=>
   cases s with
   |mk hh nb fm nf=>
    have h':(Bd bl).m (some ⟨br,bn,Nat.succ nf,0⟩) hh (fun h=>k ⟨h,nb,T.upd (some [(bl,0,bn)]) fm nf,Nat.succ nf⟩ 0 nf [(bl,0,bn)])=true:=h;obtain⟨h2,h3,h4⟩:=IQ h';have q1:u.nf=nf:=r.nf;have q2:u.fm=fm:=r.fm;have q3:Ad br.reverse=bn:=by rw[AB,List.length_reverse];exact hn.symm
    refine⟨⟨h2,nb,T.upd (some [(bl,0,bn)]) fm nf,Nat.succ nf⟩,{u with h:=T.upd (some ⟨br.reverse,Nat.succ u.nf,0⟩) u.h bl,fm:=T.upd (some [(bl,0,Ad br.reverse)]) u.fm u.nf,nf:=Nat.succ u.nf},0,u.nf,[(bl,0,Ad br.reverse)],?_,?_,?_,?_⟩
    rotate_left 3
    ·rw[q1,q3];exact h3
    ·unfold Ev.famOf;simp only[e1']
    ·refine⟨r.nb,by show Nat.succ u.nf=Nat.succ nf;rw[q1],by dsimp only;rw[q1,q2,q3],fun y=> ?_,fun y c hy=> ?_⟩
     ·show(T.upd (some ⟨br.reverse,Nat.succ u.nf,0⟩) u.h bl).get y= ((Bd y).g h2).map KB.bk
      rw[T.get_upd,h4];by_cases hy:y=bl
      ·rw[if_pos hy,if_pos hy,q1];rfl
      ·rw[if_neg hy,if_neg hy];exact r.h y
     ·have hy':(Bd y).g h2=some c:=hy;rw[h4]at hy';by_cases hyb:y=bl
      ·rw[if_pos hyb]at hy';simp only[Option.some.injEq]at hy';rw[←hy'];exact hn
      ·rw[if_neg hyb]at hy';exact r.n y c hy'
    ·rfl
  |succ f=>
   have h':(match s.fm.get f with
    |none=>false
    |some ms=>k s bd f ms)=true:=h
   split at h'
   ·cases h'
   ·rename_i ms hms;have hms':u.fm.get f=some ms:=by rw[r.fm];exact hms
    refine⟨s,u,bd,f,ms,?_,r,rfl,h'⟩;unfold Ev.famOf;simp only[e1',hms']
theorem RS.grow {s:KS}{u:St}(r:RS s u) {f d lo hi:Nat}{ms:List (Nat×Nat×Nat)}{b:KB}(hn:b.n=b.r.length) {k:KS→Bool}(h:GB s f d lo hi ms b k=true):
  ∃s',RS s' (Ev.grow u f d lo hi ms b.r.reverse)∧k s'=true:=by
 unfold GB at h;obtain⟨s1,h1,h2,h3⟩:=r.kill h;have h2':RS (fmK s1 f (some ((s.nb,d,b.n)::(Ev.kill s.nb lo hi u.h ms).2))) {u with h:=(Ev.kill s.nb lo hi u.h ms).1,fm:=T.upd (some ((s.nb,d,b.n)::(Ev.kill s.nb lo hi u.h ms).2)) u.fm f}:=by
  have hf:u.fm=s1.fm:=h2.fm;exact⟨h2.nb,h2.nf,by unfold fmK;simp only[hf],h2.h,h2.n⟩
 obtain⟨s2,h4,h5⟩:=h2'.allocB (b:=⟨b.r,b.n,Nat.succ f,d⟩) hn h1;refine⟨s2,?_,h4⟩;have e:Ad b.r.reverse=b.n:=by rw[AB,List.length_reverse];exact hn.symm
 unfold Ev.grow;rw[e,r.nb];have hnb:u.nb=s.nb:=r.nb;rw[hnb]at h5;exact h5
noncomputable def N9 (u:St) (bl o n sz:Nat):Option (List S):=match n with |0=>some [] | .succ _=>cellsAt u bl o (Nat.mul n sz)
noncomputable def Oa (u:St) (sz bytes m:Nat) (ns:List S) (bl o n sz':Nat) (full:Bool):Option (V×St):=
 bif Nat.beq sz sz'&& (Nat.ble (Nat.mul (Nat.add n m) bytes) m47&& Nat.ble (Nat.add n m) m63)then
  match N9 u bl o n sz with
  |none=>none
  |some old=>
   bif full then some (.c (.l u.nb 0 (Nat.add n m) sz false),Ev.alloc u (BL old ns))
   else match Ev.famOf u bl with
    |none=>none
    |some (s',d,f,ms)=>
     let lo:=Nat.add (Nat.add d o) (Nat.mul n sz)
     some (.c (.l u.nb 0 (Nat.add n m) sz false),Ev.grow s' f (Nat.add d o) lo (Nat.add lo (Ad ns)) ms (BL old ns))
 else none
theorem WR {u:St}{sz bytes m:Nat}{ns:List S}{y:S}(h:Fy u sz y=some (m+1,ns)) (bl o n sz':Nat) (full:Bool):Ev.app u sz bytes (.l bl o n sz' full) y=Oa u sz bytes (m+1) ns bl o n sz' full:=by
 unfold Ev.app;rw[h];rfl
theorem WS {u:St}{bl o n sz:Nat}{b:KB}{l:List S}(hh:u.h.get bl= (some b).map KB.bk) (j3:Nat.ble (Nat.add o (Nat.mul n sz)) (Ad b.bk.c)=true) (j4:l=Bq (Cb b.bk.c o) (Nat.mul n sz)):
  N9 u bl o n sz=some l:=by
 cases n with
 |zero=>
  have:l=[]:=by
   rw[j4,Dm,show Nat.mul 0 sz=0 from Nat.zero_mul sz];simp
  rw[this];rfl
 |succ n=>
  show cellsAt u bl o (Nat.mul (n+1) sz)=some l
  unfold cellsAt;rw[hh]
  show(bif Nat.ble (Nat.add o (Nat.mul (n+1) sz)) (Ad b.bk.c)then some (Bq (Cb b.bk.c o) (Nat.mul (n+1) sz))else none)=_
  rw[j3,j4];rfl
theorem RS.app {s:KS}{u:St}(r:RS s u) {sz bytes:Nat}{x y:S}{k:V→KS→Bool}(h:J6 s sz bytes x y k=true):∃v s' u',Ev.app u sz bytes x y=some (v,u')∧RS s' u'∧k v s'=true:=by
 unfold J6 at h;split at h
 ·cases h
 ·rename_i m ns hnews;have hnews:=r.news hnews;cases m with
  |zero=>
   cases x with
   |l0=>exact⟨_,s,u,by unfold Ev.app;rw[hnews],r,h⟩
   |l a b c d e=>exact⟨_,s,u,by unfold Ev.app;rw[hnews],r,h⟩
   |_=>cases h
  |succ m=>
   cases x with
   |l0=>
    have h':(bif Nat.ble (Nat.mul (m+1) bytes) m47&& Nat.ble (m+1) m63 then BR s (mkB ns 0 0) (k (.c (.l s.nb 0 (m+1) sz false)))else false)=true:=h;cases hc:(Nat.ble (Nat.mul (m+1) bytes) m47&& Nat.ble (m+1) m63)with
    |false=>rw[hc]at h';cases h'
    |true=>
     rw[hc]at h';obtain⟨s',h1,h2⟩:=r.alloc h';rw[←r.nb]at h1;refine⟨_,s',_,?_,h2,h1⟩;unfold Ev.app;rw[hnews]
     show(bif Nat.ble (Nat.mul (m+1) bytes) m47&& Nat.ble (m+1) m63 then some (V.c (.l u.nb 0 (m+1) sz false),Ev.alloc u ns)else none)=_
     rw[hc];rfl
   |l bl o n sz' full=>
    rw[WR hnews];unfold Oa;cases hc:(Nat.beq sz sz'&& (Nat.ble (Nat.mul (Nat.add n (m+1)) bytes) m47&& Nat.ble (Nat.add n (m+1)) m63))with
    |false=>simp only[hc,cond_false]at h;cases h
    |true=>
     simp only[hc,cond_true]at h ⊢;cases hf:(full&& Nat.beq n 0)with
     |true=>
      rw[hf]at h;obtain⟨f1,f2⟩:=(Bool.and_eq_true _ _).mp hf;have f2:n=0:=Nat.eq_of_beq_eq_true f2;subst f1 f2;obtain⟨s',h1,h2⟩:=r.alloc (show BR s (mkB ns 0 0) _=true from h);rw[←r.nb]at h1;refine⟨_,s',_,rfl,?_,h1⟩;exact h2
     |false=>
      rw[hf]at h;have h':(match AI s bl with
       |none=>false
       |some b=>match GC b o (Nat.mul n sz) ns with
        |none=>false
        |some nw=>
         bif full then BR s nw (k (.c (.l s.nb 0 (Nat.add n (m+1)) sz false)))
         else ID s bl b fun s' d f ms=>
          GB s' f (Nat.add d o) (Nat.add (Nat.add d o) (Nat.mul n sz)) (Nat.add (Nat.add (Nat.add d o) (Nat.mul n sz)) (Ad ns)) ms nw (k (.c (.l s.nb 0 (Nat.add n (m+1)) sz false))))=true:=h
      split at h'
      ·cases h'
      ·rename_i b hb;have hn:=r.n bl b hb;have hh:=r.h bl;rw[hb]at hh;split at h'
       ·cases h'
       ·rename_i nw hnw;obtain⟨j1,j2,l,j3,j4,j5⟩:=WQ hn hnw;have old:=WS (n:=n) (sz:=sz) hh j3 j4;rw[old];cases full with
        |true=>
         obtain⟨s',h1,h2⟩:=r.allocB (b:=nw) j1 (show BR s nw _=true from h');have hz:nw.fam=0∧nw.d=0:=by
          unfold GC at hnw;cases hq:(Nat.beq o 0&& Nat.beq (Nat.mul n sz) b.n)with
          |true=>rw[hq]at hnw;have hnw':some (⟨AL ns b.r,_,0,0⟩:KB)=some nw:=hnw;simp only[Option.some.injEq]at hnw';rw[←hnw'];exact⟨rfl,rfl⟩
          |false=>
           rw[hq]at hnw;have hnw':(match FN b o (Nat.mul n sz)with |some l=>some (⟨AL ns (AL l []),Nat.add (Nat.mul n sz) (Ad ns),0,0⟩:KB) |none=>none)=some nw:=hnw;split at hnw'
           ·simp only[Option.some.injEq]at hnw';rw[←hnw'];exact⟨rfl,rfl⟩
           ·cases hnw'
         rw[←r.nb]at h1;refine⟨_,s',_,rfl,?_,h1⟩;have e2:nw.bk=⟨BL l ns,0,0⟩:=by
          show(⟨nw.r.reverse,nw.fam,nw.d⟩:Bk)=_
          rw[j5,hz.1,hz.2]
         rw[e2]at h2;exact h2
        |false=>
         have h'':ID s bl b (fun s' d f ms=>
          GB s' f (Nat.add d o) (Nat.add (Nat.add d o) (Nat.mul n sz)) (Nat.add (Nat.add (Nat.add d o) (Nat.mul n sz)) (Ad ns)) ms nw (k (.c (.l s.nb 0 (Nat.add n (m+1)) sz false))))=true:=h'
         obtain⟨s1,u1,d,f,ms,h1,h2,h3,h4⟩:=r.famOf hb h'';obtain⟨s2,h5,h6⟩:=h2.grow j1 h4;rw[←r.nb]at h6;refine⟨_,s2,_,?_,h5,h6⟩
         show(match Ev.famOf u bl with
          |none=>none
          |some (s',d,f,ms)=>
           some (V.c (.l u.nb 0 (Nat.add n (m+1)) sz false),Ev.grow s' f (Nat.add d o) (Nat.add (Nat.add d o) (Nat.mul n sz)) (Nat.add (Nat.add (Nat.add d o) (Nat.mul n sz)) (Ad ns)) ms (BL l ns)))=_
         rw[h1,j5]
   |_=>cases h
theorem WT (sz bytes:Nat) (x y:O) (dst:Option Nat):OpOk ⟨Nz sz bytes (gt x).f (gt y).f (pt dst).f⟩ dst (.m (.app sz bytes x y)):=by
 intro ck call hc e s k t u he hs h;obtain⟨a,ha,h⟩:=Ds (show unC ((gt x).f e) _=true from h);obtain⟨b,hb,h⟩:=Ds h;rw[he.gt]at ha hb;obtain⟨v,s',u',h1,h2,h3⟩:=hs.app h;refine Fg he ?_ h2 h3
 show Ev.app u sz bytes (os t x) (os t y)=_
 rw[Cw ha,Cw hb];exact h1
theorem WU (g:Nat) (xs:List O) (dst:Option Nat):OpOk ⟨NA g (gts xs).l (pt dst).f⟩ dst (.m (.call g xs)):=by
 intro ck call hc e s k t u he hs h;have h':ck g (FO e (gts xs).l) s (fun v s=>(pt dst).f v e fun e=>k e s)=true:=h;rw[Km he]at h';obtain⟨v,s',u',h1,h2,h3⟩:=hc _ _ _ _ u hs h';exact Fg he h1 h2 h3
theorem WV (x:O) (xs:List O) (dst:Option Nat):OpOk ⟨NB x (gts xs).l (pt dst).f⟩ dst (.m (.cal x xs)):=by
 intro ck call hc e s k t u he hs h;have h':(match osR (AF e) x with
  | .f g cs=>ck g (BL (FO e (gts xs).l) (cs.map fun c=>V.c (.p c.1 c.2))) s fun v s=>(pt dst).f v e fun e=>k e s
  |_=>false)=true:=h
 rw[Km he,he]at h';split at h'
 ·rename_i g cs hx;obtain⟨v,s',u',h1,h2,h3⟩:=hc _ _ _ _ u hs h';refine Fg he ?_ h2 h3;have hx':os t x= .f g cs:=hx;unfold mv;simp only[hx'];exact h1
 ·cases h'
theorem RS.clr {s:KS}{u:St}(r:RS s u) {sz:Nat}{z:List S}{x:S}{k:KS→Bool}(h:J7 s sz z x k=true):∃s' u',Fz u sz z x=some (.o,u')∧RS s' u'∧k s'=true:=by
 cases x with
 |l0=>exact⟨s,u,rfl,r,h⟩
 |l bl o n sz' fl=>
  have h':(bif Nat.beq sz sz' then(bif Nat.beq n 0 then k s else EE s bl o (Nat.mul n sz) (BI z n) k)else false)=true:=h;have goal:∀ {q},(bif Nat.beq sz sz' then(bif Nat.beq n 0 then some (V.o,u)else match Ev.store u bl o (Nat.mul n sz) (BI z n)with |some s=>some (.o,s) |none=>none)else none)=q→Fz u sz z (.l bl o n sz' fl)=q:=fun h=>h;cases h1:Nat.beq sz sz' with
  |false=>rw[h1]at h';cases h'
  |true=>
   rw[h1]at h' goal;cases h2:Nat.beq n 0 with
   |true=>rw[h2]at h' goal;exact⟨s,u,goal rfl,r,h'⟩
   |false=>
    rw[h2]at h' goal;obtain⟨s',u',h3,h4,h5⟩:=r.store (show EE s bl o (Nat.mul n sz) (BI z n) k=true from h');exact⟨s',u',goal (by rw[h3];rfl),h4,h5⟩
 |_=>cases h
theorem WW (sz:Nat) (z:List S) (x:O) (dst:Option Nat):OpOk ⟨NC sz z x (pt dst).f⟩ dst (.m (.clr sz z x)):=by
 intro ck call hc e s k t u he hs h;have h':J7 s sz z (osR (AF e) x) (fun s=>(pt dst).f .o e fun e=>k e s)=true:=h;rw[he]at h';obtain⟨s',u',h1,h2,h3⟩:=hs.clr h';exact Fg he h1 h2 h3
theorem RS.apz {s:KS}{u:St}(r:RS s u) {sz bytes:Nat}{z:List S}{n:Option Nat}{x:S}{k:V→KS→Bool}(h:IE s sz bytes z n x k=true):∃v s' u',FA u sz bytes z n x=some (v,u')∧RS s' u'∧k v s'=true:=by
 unfold IE at h;unfold FA;split at h
 ·split at h
  ·exact⟨_,s,u,rfl,r,h⟩
  ·rename_i m;cases hc:(Nat.ble (Nat.mul (m+1) bytes) m47&& Nat.ble (m+1) m63)with
   |false=>rw[hc]at h;cases h
   |true=>
    rw[hc]at h;obtain⟨s',h1,h2⟩:=r.alloc (show BR s (mkB (BI z (m+1)) 0 0) _=true from h);rw[←r.nb]at h1;refine⟨_,s',_,?_,h2,h1⟩;simp only[Nat.succ_eq_add_one,hc,cond_true]
  ·cases h
 ·cases h
theorem WX (sz bytes:Nat) (z:List S) (x n:O) (dst:Option Nat):OpOk ⟨ND sz bytes z x n (pt dst).f⟩ dst (.m (.apz sz bytes z x n)):=by
 intro ck call hc e s k t u he hs h;have h':IE s sz bytes z (onR (AF e) n) (osR (AF e) x) (fun v s=>(pt dst).f v e fun e=>k e s)=true:=h;rw[he]at h';obtain⟨v,s',u',h1,h2,h3⟩:=hs.apz h';exact Fg he h1 h2 h3
theorem WY (m:M) (dst:Option Nat):OpOk (opM m (pt dst)) dst (.m m):=by
 cases m with
 |st n a v=>
  show OpOk (bif Nat.beq n 1 then C9 (gt a) (gt v) (pt dst) (Ka n a v)else BS (pt dst) (fSt n a v)) dst (.m (.st n a v))
  rw[GH,Ec];cases h:Nat.beq n 1 with
  |true=>
   have:n=1:=Nat.eq_of_beq_eq_true h;subst this;exact WP a v dst
  |false=>exact N6 n a v dst
 |app sz b x y=>show OpOk (C9 _ _ _ _) _ _;rw[GH];exact WT sz b x y dst
 |call g xs=>show OpOk (GE _ _ _) _ _;rw[NW];exact WU g xs dst
 |cal x xs=>show OpOk (GE _ _ _) _ _;rw[NW];exact WV x xs dst
 |clr sz z x=>show OpOk (BS _ _) _ _;rw[Ec];exact WW sz z x dst
 |apz sz b z x n=>show OpOk (BS _ _) _ _;rw[Ec];exact WX sz b z x n dst
theorem Ob (o:MO) (dst:Option Nat):OpOk (Fd o (pt dst)) dst o:=by
 cases o with
 |w o=>exact WI o dst
 |r o=>exact WK o dst
 |a o=>exact WO o dst
 |m o=>exact WY o dst
theorem WZ {call:Nat→List V→St→Option (V×St)}{t:E}{u:St}{dst:Option Nat}{i:Nat}{want:Bool}{o:MO}{x:Bool}(h:ov t (.t i)= .c (.b x)):
  evG call t u dst (some (i,want)) o=bif (bif x then want else not want)then(match mo call t u o with |some (v,s)=>some (put t dst v,s) |none=>none)else some (put t dst (.t []),u):=by
 unfold evG;simp only[h];rfl
theorem W0 {call:Nat→List V→St→Option (V×St)}{t:E}{u:St}{dst:Option Nat}{i:Nat}{want:Bool}{o:MO}(h:ov t (.t i)= .t []):
  evG call t u dst (some (i,want)) o=some (put t dst (.t []),u):=by
 unfold evG;simp only[h]
def GOk (f:OpB) (dst:Option Nat) (g:Option (Nat×Bool)) (o:MO):Prop:=
 ∀ck call,Da ck call→ ∀e s k t u,RE e t→RS s u→f.f ck e s k=true→
  ∃t' u' e' s',evG call t u dst g o=some (t',u')∧RE e' t'∧RS s' u'∧k e' s'=true
theorem Oc (dst:Option Nat) (g:Option (Nat×Bool)) (o:MO):GOk (opG dst g o) dst g o:=by
 intro ck call hc e s k t u he hs h;cases g with
 |none=>
  obtain⟨v,u',e',s',h1,h2,h3,h4⟩:=Ob o dst ck call hc e s k t u he hs h;refine⟨put t dst v,u',e',s',?_,h2,h3,h4⟩
  show(match mo call t u o with |some (v,s)=>some (put t dst v,s) |none=>none)=_
  rw[h1]
 |some q=>
  obtain⟨i,want⟩:=q;have e1:opG dst (some (i,want)) o=⟨fG want (Fd o (pt dst)).f (gt (.t i)).f (pt dst).f⟩:=by
   show OpB.rec (motive:=fun _=>OpB) (fun f=>Br (gt (.t i)) (pt dst) (fG want f)) (Fd o (pt dst))=_
   cases Fd o (pt dst);rw[←Ed]
  rw[e1]at h;have h':(match (gt (.t i)).f e with
   | .c (.b x)=>bif (bif x then want else not want)then(Fd o (pt dst)).f ck e s k else(pt dst).f (.t []) e fun e=>k e s
   | .t []=>(pt dst).f (.t []) e fun e=>k e s
   |_=>false)=true:=h
  rw[he.gt]at h';split at h'
  ·rename_i x hx;rw[WZ hx];cases hb:(bif x then want else not want)with
   |true=>
    rw[hb]at h';obtain⟨v,u',e',s',h1,h2,h3,h4⟩:=Ob o dst ck call hc e s k t u he hs h';refine⟨put t dst v,u',e',s',?_,h2,h3,h4⟩;simp only[cond_true,h1]
   |false=>
    rw[hb]at h';obtain⟨e',h1,h2⟩:=he.put h';exact⟨_,u,e',s,rfl,h1,hs,h2⟩
  ·rename_i hx;rw[W0 hx];obtain⟨e',h1,h2⟩:=he.put h';exact⟨_,u,e',s,rfl,h1,hs,h2⟩
  ·cases h'
theorem W5 (t:E) (u:St) (p:Nat×R) (l:List (Nat×R)):Cr t u (p::l)=match ov t (.t p.1)with
   | .t []=>Cr t u l
   |v=>match rv t u p.2 with |some q=>vEq v q&& Cr t u l |none=>false:=rfl
theorem W6 (e:EK) (s:KS) (p:Nat×R) (l:List (Nat×R)):Fe e s (p::l)=match AF e (.t p.1)with
   | .t []=>Fe e s l
   |v=>match rvK (AF e) s p.2 with |some q=>vEq v q&& Fe e s l |none=>false:=rfl
theorem Kr {e:EK}{s:KS}{t:E}{u:St}(he:RE e t) (hs:RS s u):∀ {l:List (Nat×R)},Fe e s l=true→Cr t u l=true
 | [],_=>rfl
 |p::l,h=>by
  rw[W6,he]at h;rw[W5];have done:∀v,(match rvK (ov t) s p.2 with |some q=>vEq v q&& Fe e s l |none=>false)=true→(match rv t u p.2 with |some q=>vEq v q&& Cr t u l |none=>false)=true:=by
   intro v h';split at h'
   ·rename_i q hq;obtain⟨h1,h2⟩:=(Bool.and_eq_true _ _).mp h';rw[hs.rv hq]
    show(vEq v q&& Cr t u l)=true
    rw[h1,Kr he hs h2];rfl
   ·cases h'
  cases hv:ov t (.t p.1)with
  |t q=>
   cases q with
   |nil=>rw[hv]at h;exact Kr he hs h
   |cons a b=>rw[hv]at h;exact done _ h
  |_=>rw[hv]at h;exact done _ h
theorem W7 (t:E) (u:St) (p:Nat×A) (l:List (Nat×A)):Cs t u (p::l)=match ov t (.t p.1)with
   | .t []=>Cs t u l
   |v=>match av t p.2,DA v with
    |some (l',_),some x=>match u.h.get x with
     |some b=>lEq b.c l'&& Nat.beq b.fam 0&& Nat.beq b.d 0&& Cs t u l
     |none=>false
    |_,_=>false:=rfl
theorem W8 (e:EK) (s:KS) (p:Nat×A) (l:List (Nat×A)):Ff e s (p::l)=match AF e (.t p.1)with
   | .t []=>Ff e s l
   |v=>match avR (AF e) p.2,DA v with
    |some (l',_),some x=>match AI s x with
     |some b=>lEq (AL b.r []) l'&& Nat.beq b.fam 0&& Nat.beq b.d 0&& Ff e s l
     |none=>false
    |_,_=>false:=rfl
theorem Ks {e:EK}{s:KS}{t:E}{u:St}(he:RE e t) (hs:RS s u):∀ {l:List (Nat×A)},Ff e s l=true→Cs t u l=true
 | [],_=>rfl
 |p::l,h=>by
  rw[W8,he,NK]at h;rw[W7];have done:∀v,(match av t p.2,DA v with
    |some (l',_),some x=>match AI s x with
     |some b=>lEq (AL b.r []) l'&& Nat.beq b.fam 0&& Nat.beq b.d 0&& Ff e s l
     |none=>false
    |_,_=>false)=true→(match av t p.2,DA v with
    |some (l',_),some x=>match u.h.get x with
     |some b=>lEq b.c l'&& Nat.beq b.fam 0&& Nat.beq b.d 0&& Cs t u l
     |none=>false
    |_,_=>false)=true:=by
   intro v h';split at h'
   ·rename_i l' f x h1 h2;split at h'
    ·rename_i b hb;have hh:=hs.h x;rw[hb]at hh;have hh':u.h.get x=some b.bk:=hh;obtain⟨h3,h4⟩:=(Bool.and_eq_true _ _).mp h';have e1:b.bk.c=AL b.r []:=by rw[CN];simp[KB.bk]
     simp only[hh'];rw[e1]
     show(lEq (AL b.r []) l'&& Nat.beq b.fam 0&& Nat.beq b.d 0&& Cs t u l)=true
     rw[h3,Ks he hs h4];rfl
    ·cases h'
   ·cases h'
  cases hv:ov t (.t p.1)with
  |t q=>
   cases q with
   |nil=>rw[hv]at h;exact Ks he hs h
   |cons a b=>rw[hv]at h;exact done _ h
  |_=>rw[hv]at h;exact done _ h
theorem W9 (dst:Option Nat) (g:Option (Nat×Bool)) (m:M) (rs:List (Nat×R)) (as_:List (Nat×A)) {ck:By}{call:Nat→List V→St→Option (V×St)}(hc:Da ck call) {e:EK}{s:KS}{k:EK→KS→Bool}{t:E}{u:St}(he:RE e t) (hs:RS s u)
  (h:fMk rs as_ (opG dst g (.m m)).f ck e s k=true):∃t' u' e' s',stp call t u (.mk dst g m rs as_)=some (t',u')∧RE e' t'∧RS s' u'∧k e' s'=true:=by
 obtain⟨t',u',e',s',h1,h2,h3,h4⟩:=Oc dst g (.m m) ck call hc e s _ t u he hs h;cases hb:(Fe e' s' rs&& Ff e' s' as_)with
 |false=>rw[hb]at h4;cases h4
 |true=>
  rw[hb]at h4;obtain⟨b1,b2⟩:=(Bool.and_eq_true _ _).mp hb;refine⟨t',u',e',s',?_,h2,h3,h4⟩
  show(match evG call t u dst g (.m m)with
   |some (e,s)=>bif Cr e s rs&& Cs e s as_ then some (e,s)else none
   |none=>none)=_
  rw[h1]
  show(bif Cr t' u' rs&& Cs t' u' as_ then some (t',u')else none)=_
  rw[Kr h2 h3 b1,Ks h2 h3 b2];rfl
theorem RS.setc {s:KS}{u:St}(r:RS s u) {x o n:Nat}{l:List S}(hl:Nat.beq (Ad l) n=true) {b:KB}(hb:AI s x=some b) (hle:Nat.ble (Nat.add o n) b.n=true) {k:KS→Bool}(h:Ck s x (some (DM b o n l)) k=true):
  ∃s' u',Ev.setc u x o l=some u'∧RS s' u'∧k s'=true:=by
 obtain⟨p1,p2⟩:=NU (r.n x b hb) (l:=l) (by rw[←AB];exact Nat.eq_of_beq_eq_true hl) (Nat.le_of_ble_eq_true hle);obtain⟨s',h1,h2,_⟩:=r.set (fun c hc=>by simp only[Option.some.injEq]at hc;exact hc▸p2) h;refine⟨s',_,?_,h2,h1⟩;unfold Ev.setc;rw[r.h x,hb];simp only[Option.map_some,p1];rfl
theorem Xa (n₁:Nat) (a₁ v₁:O) (n₂:Nat) (a₂ v₂:O) {ck:By}{call:Nat→List V→St→Option (V×St)}{e:EK}{s:KS}{k:EK→KS→Bool}{t:E}{u:St}(he:RE e t) (hs:RS s u)
  (h:f2 n₁ a₁ v₁ n₂ a₂ v₂ ck e s k=true):∃t' u' e' s',stp call t u (.e2 n₁ a₁ v₁ n₂ a₂ v₂)=some (t',u')∧RE e' t'∧RS s' u'∧k e' s'=true:=by
 unfold f2 at h;rw[he]at h;split at h
 ·rename_i x₁ o₁ l₁ x₂ o₂ l₂ g1 g2 g3 g4;cases hc:(((not (Nat.beq x₁ x₂)) || Nat.ble (Nat.add o₁ n₁) o₂ || Nat.ble (Nat.add o₂ n₂) o₁)&& Nat.beq (Ad l₁) n₁&& Nat.beq (Ad l₂) n₂)with
  |false=>rw[hc]at h;cases h
  |true=>
   rw[hc]at h;obtain⟨c1,c3⟩:=(Bool.and_eq_true _ _).mp hc;obtain⟨_,c2⟩:=(Bool.and_eq_true _ _).mp c1;simp only[cond_true]at h;split at h
   ·cases h
   ·rename_i b₁ hb₁;cases q1:Nat.ble (Nat.add o₁ n₁) b₁.n with
    |false=>rw[q1]at h;cases h
    |true=>
     rw[q1]at h;simp only[cond_true]at h;obtain⟨s1,u1,i1,i2,i3,_,_⟩:=hs.prep hb₁ q1 h;split at i3
     ·cases i3
     ·rename_i b₂ hb₂;cases q2:Nat.ble (Nat.add o₂ n₂) b₂.n with
      |false=>rw[q2]at i3;cases i3
      |true=>
       rw[q2]at i3;simp only[cond_true]at i3;obtain⟨s2,u2,j1,j2,j3,_,_⟩:=i2.prep hb₂ q2 i3;split at j3
       ·cases j3
       ·rename_i b₃ hb₃;cases q3:Nat.ble (Nat.add o₁ n₁) b₃.n with
        |false=>rw[q3]at j3;cases j3
        |true=>
         rw[q3]at j3;simp only[cond_true]at j3;obtain⟨s3,u3,k1,k2,k3⟩:=j2.setc c2 hb₃ q3 j3;split at k3
         ·cases k3
         ·rename_i b₄ hb₄;cases q4:Nat.ble (Nat.add o₂ n₂) b₄.n with
          |false=>rw[q4]at k3;cases k3
          |true=>
           rw[q4]at k3;simp only[cond_true]at k3;obtain⟨s4,u4,m1,m2,m3⟩:=k2.setc c3 hb₄ q4 k3;refine⟨t,u4,e,s4,?_,he,m2,m3⟩;have g1':os t a₁= .p x₁ o₁:=g1;have g3':os t a₂= .p x₂ o₂:=g3;unfold stp;simp only[g1',g2,g3',g4,hc,cond_true,i1,j1,k1,m1]
 ·cases h
theorem Od (o:Stp) {ck:By}{call:Nat→List V→St→Option (V×St)}(hc:Da ck call) {e:EK}{s:KS}{k:EK→KS→Bool}{t:E}{u:St}(he:RE e t) (hs:RS s u) (h:(Ea o).f ck e s k=true):
  ∃t' u' e' s',stp call t u o=some (t',u')∧RE e' t'∧RS s' u'∧k e' s'=true:=by
 cases o with
 |ev dst g o=>exact Oc dst g o ck call hc e s k t u he hs h
 |mk dst g o rs as_=>
  have e1:Ea (.mk dst g o rs as_)=⟨fMk rs as_ (opG dst g (.m o)).f⟩:=by
   show OpB.rec (motive:=fun _=>OpB) (fun f=>⟨fMk rs as_ f⟩) (opG dst g (.m o))=_
   cases opG dst g (.m o);rfl
  rw[e1]at h;exact W9 dst g o rs as_ hc he hs h
 |e2 n₁ a₁ v₁ n₂ a₂ v₂=>exact Xa (ck:=ck) n₁ a₁ v₁ n₂ a₂ v₂ he hs h
theorem Xb (x y:Stp) (l:List Stp):Dr (x::y::l)=⟨Kb (Ea x).f (Dr (y::l)).f⟩:=by
 show OpB.rec (motive:=fun _=>OpB) (fun f=>OpB.rec (motive:=fun _=>OpB) (fun g=>⟨Kb f g⟩) (Dr (y::l))) (Ea x)=_
 cases Ea x;cases Dr (y::l);rfl
theorem Oe {ck:By}{call:Nat→List V→St→Option (V×St)}(hc:Da ck call):∀ {l:List Stp}{e:EK}{s:KS}{kn:EK→KS→Bool}{t:E}{u:St},RE e t→RS s u→(Dr l).f ck e s kn=true→
  ∃t' u' e' s',reg call l t u=some (t',u')∧RE e' t'∧RS s' u'∧kn e' s'=true
 | [],e,s,kn,t,u,he,hs,h=>⟨t,u,e,s,rfl,he,hs,h⟩
 | [x],e,s,kn,t,u,he,hs,h=>by
  obtain⟨t1,u1,e1,s1,h1,h2,h3,h4⟩:=Od x hc he hs (show(Ea x).f ck e s kn=true from h);refine⟨t1,u1,e1,s1,?_,h2,h3,h4⟩
  show(match stp call t u x with |some (e,s)=>reg call [] e s |none=>none)=_
  rw[h1];rfl
 |x::y::l,e,s,kn,t,u,he,hs,h=>by
  rw[Xb]at h;obtain⟨t1,u1,e1,s1,h1,h2,h3,h4⟩:=Od x hc he hs (show(Ea x).f ck e s (fun e s=>(Dr (y::l)).f ck e s kn)=true from h);obtain⟨t2,u2,e2,s2,k1,k2,k3,k4⟩:=Oe hc h2 h3 h4;refine⟨t2,u2,e2,s2,?_,k2,k3,k4⟩
  show(match stp call t u x with |some (e,s)=>reg call (y::l) e s |none=>none)=_
  rw[h1];exact k1
def EG (r:Rs) (kn:EK→KS→Bool) (kx:Nat→EK→KS→Bool) (kr:EK→KS→Bool):Prop:=
 match r with
 | .no t u=>∃e s,RE e t∧RS s u∧kn e s=true
 | .ex id t u=>∃e s,RE e t∧RS s u∧kx id e s=true
 | .rt t u=>∃e s,RE e t∧RS s u∧kr e s=true
 | .bad=>False
def Of (N:Nat) (m:MC):Prop:=
 ∀ck call,Da ck call→ ∀e s kn kx kr t u,RE e t→RS s u→(cdB N m).f ck e s kn kx kr=true→EG (ev call N m t u) kn kx kr
theorem Og {N:Nat}{m:MC}(hm:Of N m) {ck:By}{call:Nat→List V→St→Option (V×St)}(hc:Da ck call) {kn:EK→KS→Bool}{kx:Nat→EK→KS→Bool}{kr:EK→KS→Bool}:∀ (n:Nat) (e:EK) (s:KS) (t:E) (u:St),RE e t→RS s u→
  Nat.rec (motive:=fun _=>EK→KS→Bool) (fun _ _=>false) (fun _ ih e s=>(cdB N m).f ck e s ih kx kr) n e s=true→
  EG (Nat.rec (motive:=fun _=>E→St→Rs) (fun _ _=> .bad) (fun _ ih e s=>match ev call N m e s with | .no e s=>ih e s |r=>r) n t u) kn kx kr
 |0,e,s,t,u,he,hs,h=>by cases h
 |n+1,e,s,t,u,he,hs,h=>by
  have h1:=hm ck call hc e s _ kx kr t u he hs h
  show EG (match ev call N m t u with
   | .no e s=>Nat.rec (motive:=fun _=>E→St→Rs) (fun _ _=> .bad) (fun _ ih e s=>match ev call N m e s with | .no e s=>ih e s |r=>r) n e s
   |r=>r) kn kx kr
  cases hr:ev call N m t u with
  |no t' u'=>
   rw[hr]at h1;obtain⟨e',s',k1,k2,k3⟩:=h1;exact Og hm hc n e' s' t' u' k1 k2 k3
  |ex id t' u'=>rw[hr]at h1;exact h1
  |rt t' u'=>rw[hr]at h1;exact h1
  |bad=>rw[hr]at h1;exact h1
theorem Fh (N:Nat):∀m:MC,Of N m
 | .skip=>fun ck call hc e s kn kx kr t u he hs h=>⟨e,s,he,hs,h⟩
 | .exit id=>fun ck call hc e s kn kx kr t u he hs h=>⟨e,s,he,hs,h⟩
 | .ret=>fun ck call hc e s kn kx kr t u he hs h=>⟨e,s,he,hs,h⟩
 | .reg l=>fun ck call hc e s kn kx kr t u he hs h=>by
  have e1:cdB N (.reg l)=⟨Kc (Dr l).f⟩:=by
   show OpB.rec (motive:=fun _=>CdB) (fun f=>⟨Kc f⟩) (Dr l)=_
   cases Dr l;rfl
  rw[e1]at h;obtain⟨t',u',e',s',h1,h2,h3,h4⟩:=Oe hc he hs (show(Dr l).f ck e s kn=true from h)
  show EG (match reg call l t u with |some (e,s)=> .no e s |none=> .bad) kn kx kr
  rw[h1];exact⟨e',s',h2,h3,h4⟩
 | .seq a b=>fun ck call hc e s kn kx kr t u he hs h=>by
  have e1:cdB N (.seq a b)=⟨NE (cdB N a).f (cdB N b).f⟩:=by
   show seqB (cdB N a) (cdB N b)=_
   unfold seqB;cases cdB N a;cases cdB N b;rfl
  rw[e1]at h;have h1:=Fh N a ck call hc e s _ kx kr t u he hs (show(cdB N a).f ck e s (fun e s=>(cdB N b).f ck e s kn kx kr) kx kr=true from h)
  show EG (match ev call N a t u with | .no e s=>ev call N b e s |r=>r) kn kx kr
  cases hr:ev call N a t u with
  |no t' u'=>
   rw[hr]at h1;obtain⟨e',s',k1,k2,k3⟩:=h1;exact Fh N b ck call hc e' s' kn kx kr t' u' k1 k2 k3
  |ex id t' u'=>rw[hr]at h1;exact h1
  |rt t' u'=>rw[hr]at h1;exact h1
  |bad=>rw[hr]at h1;exact h1
 | .cond c a b=>fun ck call hc e s kn kx kr t u he hs h=>by
  have e1:cdB N (.cond c a b)=⟨NF (gt c).f (cdB N a).f (cdB N b).f⟩:=by
   show Kd (gt c) (cdB N a) (cdB N b)=_
   unfold Kd;cases gt c;cases cdB N a;cases cdB N b;rfl
  rw[e1]at h;obtain⟨x,hx,h1⟩:=NL (show unB ((gt c).f e) (fun x=>Bool.rec (motive:=fun _=>Bool) ((cdB N b).f ck e s kn kx kr) ((cdB N a).f ck e s kn kx kr) x)=true from h);rw[he.gt]at hx
  show EG (match os t c with | .b x=>Bool.rec (ev call N b t u) (ev call N a t u) x |_=> .bad) kn kx kr
  rw[Cw hx];cases x with
  |false=>exact Fh N b ck call hc e s kn kx kr t u he hs h1
  |true=>exact Fh N a ck call hc e s kn kx kr t u he hs h1
 | .blk id m=>fun ck call hc e s kn kx kr t u he hs h=>by
  have e1:cdB N (.blk id m)=⟨NG id (cdB N m).f⟩:=by
   show Kf id (cdB N m)=_
   unfold Kf;cases cdB N m;rfl
  rw[e1]at h;have h1:=Fh N m ck call hc e s kn _ kr t u he hs (show(cdB N m).f ck e s kn (fun i e s=>Bool.rec (motive:=fun _=>Bool) (kx i e s) (kn e s) (Nat.beq i id)) kr=true from h)
  show EG (match ev call N m t u with | .ex id' e s=>bif Nat.beq id' id then .no e s else .ex id' e s |r=>r) kn kx kr
  cases hr:ev call N m t u with
  |no t' u'=>rw[hr]at h1;exact h1
  |ex i t' u'=>
   rw[hr]at h1;obtain⟨e',s',k1,k2,k3⟩:=h1
   show EG (bif Nat.beq i id then .no t' u' else .ex i t' u') kn kx kr
   have k3':Bool.rec (motive:=fun _=>Bool) (kx i e' s') (kn e' s') (Nat.beq i id)=true:=k3;cases hb:Nat.beq i id with
   |true=>rw[hb]at k3';exact⟨e',s',k1,k2,k3'⟩
   |false=>rw[hb]at k3';exact⟨e',s',k1,k2,k3'⟩
  |rt t' u'=>rw[hr]at h1;exact h1
  |bad=>rw[hr]at h1;exact h1
 | .loop m=>fun ck call hc e s kn kx kr t u he hs h=>by
  have e1:cdB N (.loop m)=⟨NH N (cdB N m).f⟩:=by
   show Kg N (cdB N m)=_
   unfold Kg;cases cdB N m;rfl
  rw[e1]at h;exact Og (Fh N m) hc N e s t u he hs h
theorem Xc {e:EK}{s:KS}{t:E}{u:St}(he:RE e t) (hs:RS s u) {r:MRes}{v:V}(h:Kh e s r=some v):Ep t u r=some v:=by
 cases r with
 |t i=>
  have h':(match AF e (.t i)with | .t _=>none |v=>some v)=some v:=h;rw[he]at h';exact h'
 |c n i=>
  have h':IB s n (osR (AF e) (.t i))=some v:=h;rw[he]at h';exact hs.ldv h'
theorem Kt {e:EK}{s:KS}{t:E}{u:St}(he:RE e t) (hs:RS s u):∀ {l:List MRes}{vs:List V},Ki e s l=some vs→DB t u l=some vs
 | [],vs,h=>h
 |x::l,vs,h=>by
  have h':(match Kh e s x,Ki e s l with |some v,some l=>some (v::l) |_,_=>none)=some vs:=h
  show(match Ep t u x,DB t u l with |some v,some l=>some (v::l) |_,_=>none)=some vs
  split at h'
  ·rename_i v l' h1 h2;rw[Xc he hs h1,Kt he hs h2];exact h'
  ·cases h'
theorem Ku {e:EK}{s:KS}{t:E}{u:St}(he:RE e t) (hs:RS s u) {l:List MRes}{k:V→KS→Bool}(h:IH l e s k=true):∃v,results t u l=some (v,u)∧k v s=true:=by
 unfold IH at h;unfold results;split at h
 ·rename_i v hv;rw[Kt he hs hv];exact⟨v,rfl,h⟩
 ·rename_i l' hne hv;rw[Kt he hs hv];refine⟨.t l',?_,h⟩;split
  ·rename_i v hh;simp only[Option.some.injEq]at hh;exact absurd hh (hne v)
  ·rename_i l2 _ hh;simp only[Option.some.injEq]at hh;rw[hh]
  ·rename_i hh;cases hh
 ·cases h
theorem Xd {e:EK}{s:KS}{t:E}{u:St}(he:RE e t) {i:Nat}{k:V→KS→Bool}(h:II (gt (.t i)).f e s k=true):∃v,results t u [.t i]=some (v,u)∧k v s=true:=by
 have hx:=he.gt (.t i);have h':@V.rec (fun _=>Bool) (fun _=>Bool) (k ((gt (.t i)).f e) s) (fun _=>k ((gt (.t i)).f e) s) (fun _=>k ((gt (.t i)).f e) s) (fun _ _=>false) false (fun _ _ _ _=>false) ((gt (.t i)).f e)=true:=h;have goal:∀v,ov t (.t i)=v→(match v with | .t _=>none |v=>some v)=some v→k v s=true→ ∃v,results t u [.t i]=some (v,u)∧k v s=true:=by
  intro v hv hr hk;refine⟨v,?_,hk⟩;have e1:Ep t u (.t i)=some v:=by
   show(match ov t (.t i)with | .t _=>none |v=>some v)=some v
   rw[hv];exact hr
  have e2:DB t u [.t i]=some [v]:=by
   show(match Ep t u (.t i),DB t u []with |some v,some l=>some (v::l) |_,_=>none)=_
   rw[e1];rfl
  unfold results;rw[e2]
 cases hq:(gt (.t i)).f e with
 |o=>rw[hq]at h' hx;exact goal _ hx.symm rfl h'
 |c c=>rw[hq]at h' hx;exact goal _ hx.symm rfl h'
 |a l=>rw[hq]at h' hx;exact goal _ hx.symm rfl h'
 |t l=>rw[hq]at h';cases h'
theorem Oh {e:EK}{s:KS}{t:E}{u:St}(he:RE e t) (hs:RS s u) {l:List MRes}{k:V→KS→Bool}(h:(Eb l).f e s k=true):∃v,results t u l=some (v,u)∧k v s=true:=by
 have e1:∀i,Eb [.t i]=⟨II (gt (.t i)).f⟩:=fun i=>by
  show Gt.rec (motive:=fun _=>ResB) (fun g=>⟨II g⟩) (gt (.t i))=_
  cases gt (.t i);rfl
 match l,h with
 | [.t i],h=>rw[e1]at h;exact Xd he h
 | [],h=>exact Ku he hs h
 | [.c n i],h=>exact Ku he hs h
 |a::b::l,h=>
  have e2:Eb (a::b::l)=⟨IH (a::b::l)⟩:=by cases a <;> rfl
  rw[e2]at h;exact Ku he hs h
theorem Oi:∀ {vs:List V}{i:Nat}{k:EK→Bool},IJ vs i k=true→ ∃e,RE e (D4 vs i)∧k e=true
 | [],i,k,h=>⟨EK.zero,RE.zero,h⟩
 |v::vs,i,k,h=>by
  obtain⟨e,h1,h2⟩:=Oi (show IJ vs (Nat.succ i) (fun e=>(pt (some i)).f v e k)=true from h);obtain⟨e',h3,h4⟩:=h1.put h2;exact⟨e',h3,h4⟩
theorem Kv {tbl:T MFn}{N:Nat}{ext:By}{xt:Nat→List V→St→Option (V×St)}(hx:Da ext xt):∀d,Da (fnK tbl N ext d) (fn tbl N xt d)
 |0=>fun g vs s k u hs h=>by cases h
 |d+1=>fun g vs s k u hs h=>by
  have ih:=Kv (tbl:=tbl) (N:=N) hx d;have h':(fnB tbl N ext g).f (fnK tbl N ext d) vs s k=true:=h;unfold fnB at h';have goal:∀ {q},(match tbl.get g with
   |none=>xt g vs u
   |some f=>match ev (fn tbl N xt d) N f.body (D4 vs 0) u with
    | .no e s=>results e s f.res
    | .rt e s=>results e s f.res
    |_=>none)=q→fn tbl N xt (d+1) g vs u=q:=fun h=>h
  split at h'
  ·rename_i hg;rw[hg]at goal;obtain⟨v,s',u',h1,h2,h3⟩:=hx g vs s k u hs h';exact⟨v,s',u',goal h1,h2,h3⟩
  ·rename_i f hg;rw[hg]at goal;have e1:(CdB.rec (motive:=fun _=>FnB) (fun c=>ResB.rec (motive:=fun _=>FnB) (fun r=>⟨fFn c r⟩) (Eb f.res)) (cdB N f.body):FnB)=⟨fFn (cdB N f.body).f (Eb f.res).f⟩:=by
    cases cdB N f.body;cases Eb f.res;rfl
   rw[e1]at h';obtain⟨e,h1,h2⟩:=Oi (show IJ vs 0 (fun e=>(cdB N f.body).f (fnK tbl N ext d) e s (fun e s=>(Eb f.res).f e s k) (fun _ _ _=>false) (fun e s=>(Eb f.res).f e s k))=true from h');have h3:=Fh N f.body _ _ ih e s _ _ _ _ u h1 hs h2;cases hr:ev (fn tbl N xt d) N f.body (D4 vs 0) u with
   |no t' u'=>
    rw[hr]at h3;obtain⟨e',s',k1,k2,k3⟩:=h3;obtain⟨v,k4,k5⟩:=Oh k1 k2 k3;refine⟨v,s',u',goal ?_,k2,k5⟩;simp only[hr];exact k4
   |rt t' u'=>
    rw[hr]at h3;obtain⟨e',s',k1,k2,k3⟩:=h3;obtain⟨v,k4,k5⟩:=Oh k1 k2 k3;refine⟨v,s',u',goal ?_,k2,k5⟩;simp only[hr];exact k4
   |ex id t' u'=>rw[hr]at h3;obtain⟨_,_,_,_,k3⟩:=h3;cases k3
   |bad=>rw[hr]at h3;exact h3.elim
end Go.Ev
