/- Parts of the proof of FnDepthsHold, FnEnds, FnMeant, FnMovedWhenever. -/
import Derived.Test.YtfmebaafpfkeiaaGreatY32
set_option linter.unusedVariables false
set_option linter.unusedSimpArgs false
set_option maxRecDepth 1000000
set_option maxHeartbeats 16000000
namespace Go.Proofs.YtfmebaafpfkeiaaGreat
open Go.RowKit
section
variable {E:Nat→Nat→Prop}{fs:List F2}{dep:List (List Int)}{fin:List Int}{L:VmL}{A:AbS}{h b n:Nat}{ps:List Nat}
theorem Sim.vin (S:Sim E fs L A h b n ps) (hf:fs.all inF=true) (hfl:fs.length≤60) (hof:∀f,f < fs.length→(fs.getD f fn0).os.length≤3000) (htot:fs.length+tot fs≤100000) (hok:okA fs A=true) (ho:A.os.length≤1000) {c:Int}(hc:0≤c∧c≤5):
  EQ {L with code:=c}∧CA {L with code:=c}≤1048576:=by
 have hw:=DW hok;have F:=S.right.frame;have f1:=F.h1;have f2:=F.base;have f3:=F.n1;have f4:=F.len;rw[List.all_eq_true]at hf;simp only[okA,BY,En,Bool.and_eq_true,Bool.or_eq_true,decide_eq_true_eq,List.all_eq_true,List.mem_range]at hok;obtain⟨⟨k1,k2,k3,_⟩,k4,_⟩:=hok;have hss:=S.ss.1;refine⟨⟨?_,S.zi,?_,?_,?_,?_,?_,?_,?_⟩,?_⟩
 ·show ∀x∈L.fs,Gv x
  rw[S.lf];exact fun x hx=>Lf (hf x hx)
 ·show(-9223372036854775808:Int)≤L.h∧L.h≤9223372036854775807
  rw[S.lh];omega
 ·show(-9223372036854775808:Int)≤L.b∧L.b≤9223372036854775807
  rw[S.lb];omega
 ·show(-9223372036854775808:Int)≤L.n∧L.n≤9223372036854775807
  rw[S.ln];omega
 ·exact CB (fun x hx=>(S.word hw hx).2.2)
 ·show ∀x∈L.cs,FU x
  rw[S.cs];intro x hx;obtain⟨j,hj,rfl⟩:=List.mem_iff_getElem.1 hx;have h4:=k2 j hj;simp only[CI,Bool.and_eq_true]at h4;obtain⟨⟨c1,c2⟩,c3,_⟩:=h4;rw[List.getD_eq_getElem?_getD,List.getElem?_eq_getElem hj]at c1 c2 c3;have c1:=Aw.1 c1;have c2:=Aw.1 c2;have c3:=Aw.1 c3;dsimp only[Option.getD_some]at c1 c2 c3;have:=hof (A.cs[j].c.toNat) (by omega);exact⟨by omega,by omega,by omega⟩
 ·show GT L.os
  rw[S.os];exact CB (fun x hx=>by have:=Aw.1 (show inB x (-1073741824) 1073741823=true from k4 x hx);omega)
 ·show(-9223372036854775808:Int)≤c∧c≤9223372036854775807
  omega
 ·unfold CA
  show L.fs.length+tot L.fs+L.zs.length+L.ss.length+L.cs.length+L.os.length≤1048576
  rw[S.lf,S.cs,S.os,hss];omega
end
section
variable {k:Nat}{half:Nat}
def Mo (k half i:Nat) (L:VmL):Prop:=Along (pfs.getD k []) AG i∧ ∃E b n ps,Sim E (pfs.getD k []) L (As (pfs.getD k []) i AG) half b n ps
theorem Mo.moment (hk:k < 7) {i:Nat}{L:VmL}(M:Mo k half i L):Moment (pfs.getD k []) (pds.getD k []) (pes.getD k []) (As (pfs.getD k []) i AG):=Moment.of (Dc k hk).1 M.1
theorem Mo.code (hk:k < 7) {i:Nat}{L:VmL}(M:Mo k half i L):(As (pfs.getD k []) i AG).code=0∨(As (pfs.getD k []) i AG).code=1:=by
 by_cases hc:(As (pfs.getD k []) i AG).code=0
 ·exact .inl hc
 ·exact .inr ((M.moment hk).done hc).1
theorem Mo.right (hk:k < 7) {i:Nat}{L:VmL}(M:Mo k half i L) {c:Int}(hc:c=L.code∨c=2):vmOk {L with code:=c}=true∧EQ {L with code:=c}∧CA {L with code:=c}≤1048576:=by
 have Q:=M.moment hk;have hco:=M.code hk;obtain⟨ha,E,b,n,ps,S⟩:=M;obtain⟨p1,p2,p3⟩:=DY k hk;have hfl:=KL (Dc k hk).2;have hcc:c= (As (pfs.getD k []) i AG).code∨c=2:=by rw[←S.code];exact hc
 have v:=S.vin p3 hfl.1 hfl.2 p2 Q.ok (Nat.le_trans Q.pre.length_le p1) (c:=c) (by omega);exact⟨S.vmOk (Dc k hk).2 Q.ok hco c hcc,v.1,v.2⟩
theorem Mo.runOk (hk:k < 7) {i:Nat}{L:VmL}(M:Mo k half i L) (hh:2≤half) (N:Nat):RunOk L N:=by
 obtain⟨r1,r2,r3⟩:=M.right hk (c:=L.code) (.inl rfl);obtain⟨ha,E,b,n,ps,S⟩:=M;exact Pk (El (Dc k hk).1 ha).2 (Dc k hk).2 (DY k hk).1 S hh r1 r2 r3 N
theorem Mo.zlen {i:Nat}{L:VmL}(M:Mo k half i L) (hh:2≤half):4≤L.zs.length:=by
 obtain⟨ha,E,b,n,ps,S⟩:=M;have:=S.zlen;omega
theorem KD {L:VmL}(h0:L.code≠0) (h1:vmOk L=true) (h2:EQ L) (h3:CA L≤1048576) (h4:4≤L.zs.length) (N:Nat):RunOk L N:=
 ⟨h1,h2,h3,fun i _ hc=>absurd (by rw[DX h0]at hc;exact hc) h0,fun i _=>by rw[DX h0];exact h4⟩
theorem OQ (fs:List F2):∀ (i j:Nat) (A:AbS),As fs (i+j) A=As fs j (As fs i A):=by
 intro i;induction i with
 |zero=>intro j A;rw[Nat.zero_add];rfl
 |succ i ih=>
  intro j A;rw[show i+1+j= (i+j)+1 by omega];exact ih j (Dv fs A)
theorem Along.add {fs:List F2}{A:AbS}{i j:Nat}(h:Along fs A i) (h':Along fs (As fs i A) j):Along fs A (i+j):=fun m hm=>by
 by_cases hl:m < i
 ·exact h m hl
 ·have:=h' (m - i) (by omega);rw[←OQ,show i+ (m - i)=m by omega]at this;exact this
structure On (k half N i j:Nat) (L L' R:VmL) (no:Prop):Prop where
 mo:Mo k half j L'
 at_:∃d,j=i+d∧At (pfs.getD k []) (As (pfs.getD k []) i AG) half N d L' R no
 how:(R=L'∧ ¬no)∨(R= {L' with code:=2}∧no)
 room:no→FX (pfs.getD k []) (As (pfs.getD k []) j AG)∧half < BC L'+1+mkA (pfs.getD k []) (As (pfs.getD k []) j AG)∧(As (pfs.getD k []) j AG).code=0
 long:600≤N→ ¬no→(As (pfs.getD k []) j AG).code≠0
theorem Mo.run (hk:k < 7) {i:Nat}{L:VmL}(M:Mo k half i L) (N:Nat):∃j L' no,On k half N i j L L' (Ak N L) no:=by
 obtain⟨ha,E,b,n,ps,S⟩:=M;have ht:=(El (Dc k hk).1 ha).2;obtain⟨d,L',no,X⟩:=S.run N ht;have hd:=(El ht X.along).1;have e:As (pfs.getD k []) (i+d) AG=As (pfs.getD k []) d (As (pfs.getD k []) i AG):=OQ _ _ _ _;have hs:=X.sim;have hw:=X.how;rw[←e]at hs hw;refine⟨i+d,L',no,⟨ha.add X.along,hs⟩,⟨d,rfl,X⟩,?_,fun hn=> ?_,fun hN hn=> ?_⟩
 ·rcases hw with ⟨h1,_,h2⟩ |⟨h1,_,_,_,h2⟩
  ·exact .inl ⟨h1,h2⟩
  ·exact .inr ⟨h1,h2⟩
 ·rcases hw with ⟨_,_,h2⟩ |⟨_,h1,h2,h3,_⟩
  ·exact absurd hn h2
  ·exact⟨h2,h3,h1⟩
 ·rcases hw with ⟨_,h1,_⟩ |⟨_,_,_,_,h2⟩
  ·rcases h1 with h1 |h1
   ·omega
   ·exact h1
  ·exact absurd h2 hn
theorem IZ (k:Nat) {half:Nat}(h1:1≤half) (h2:half≤3000) (each:Bool):Mo k half 0 (Ba (pfs.getD k []) half each):=
 ⟨fun j hj=>by omega,_,_,_,_,Le (pfs.getD k []) h1 h2 each⟩
structure SeenR (k:Nat) (M:VmL):Prop where
 ok:vmOk M=true
 vin:EQ M
 sz:CA M≤1048576
 os:M.os <+:pes.getD k []
 sl:M.os.length≤1000
 code:M.code=0∨M.code=1∨M.code=2
 halt:M.code=1→Ended k M
theorem I0 (hk:k < 7) {j:Nat}{L:VmL}(M:Mo k half j L) (hc:(As (pfs.getD k []) j AG).code≠0):Ended k L:=by
 have Q:=M.moment hk;obtain⟨ha,E,b,n,ps,S⟩:=M;have hp:L.os <+:pes.getD k []:=by rw[S.os];exact Q.pre
 obtain⟨c1,c2,x,c3,c4,c5⟩:=PT k hk ha hc S;exact⟨hp,.inl c1,fun _=>⟨c2,x,half,b,n,ps,c3,S.lh,S.lb,S.ln,S.right,S.zi,c4,c5⟩,Nat.le_trans hp.length_le (DY k hk).1⟩
theorem Mo.seen (hk:k < 7) {i:Nat}{L:VmL}(M:Mo k half i L) {c:Int}(hc:c=L.code∨c=2):SeenR k {L with code:=c}:=by
 have Q:=M.moment hk;have hco:=M.code hk;obtain⟨r1,r2,r3⟩:=M.right hk hc;have M':=M;obtain⟨ha,E,b,n,ps,S⟩:=M;have hp:L.os <+:pes.getD k []:=by rw[S.os];exact Q.pre
 refine⟨r1,r2,r3,hp,Nat.le_trans hp.length_le (DY k hk).1,?_,fun h1=> ?_⟩
 ·show c=0∨c=1∨c=2
  rw[S.code]at hc;omega
 ·have h1':c=1:=h1;have e:c=L.code:=by rcases hc with h |h <;> omega
  subst e;exact I0 hk M' (by rw[←S.code];omega)
theorem Yw (hk:k < 7) (h1:2≤half) (h2:half≤3000) (each:Bool) (N:Nat):SeenR k (Ak N (Ba (pfs.getD k []) half each)):=by
 obtain⟨j,L',no,X⟩:=(IZ k (show 1≤half by omega) h2 each).run hk N;rcases X.how with ⟨e,_⟩ |⟨e,_⟩
 ·rw[e];exact X.mo.seen hk (c:=L'.code) (.inl rfl)
 ·rw[e];exact X.mo.seen hk (.inr rfl)
theorem Yx (hk:k < 7) (h1:2000≤half) (h2:half≤3000) (each:Bool) (N:Nat) (hN:600≤N):Ended k (Ak N (Ba (pfs.getD k []) half each))∧(Ak N (Ba (pfs.getD k []) half each)).code=1:=by
 obtain⟨j,L',no,X⟩:=(IZ k (show 1≤half by omega) h2 each).run hk N;have Q:=X.mo.moment hk;rcases X.how with ⟨e,hn⟩ |⟨e,hn⟩
 ·rw[e];have hc:=X.long hN hn;have he:=I0 hk X.mo hc;refine⟨he,?_⟩;obtain⟨_,E,b,n,ps,S⟩:=X.mo;rw[S.code];exact(Q.done hc).1
 ·exfalso;obtain⟨m1,m2,m3⟩:=X.room hn;obtain⟨_,E,b,n,ps,S⟩:=X.mo;have hl:=S.live_tot (DW Q.ok);have ht:=Q.tot;have hgo:=(Q.go m3).1;have hop:FY (opA (pfs.getD k []) (Ah (As (pfs.getD k []) j AG))) (As (pfs.getD k []) j AG).ss.length=true:=by
   simp only[goA,Bool.and_eq_true]at hgo;exact hgo.1.2
  obtain⟨_,_,_,_,o5⟩:=Lc hop;have:=(o5 m1).1;unfold mkA at m2;omega
end
end Go.Proofs.YtfmebaafpfkeiaaGreat
