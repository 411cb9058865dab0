/- Parts of the proof of FnNoRoom. -/
import Derived.Test.YtfmebaafpfkeiaaGreatZ25
import Derived.Test.YtfmebaafpfkeiaaGreatZ18
import Derived.Test.YtfmebaafpfkeiaaGreatZ41
import Derived.Test.YtfmebaafpfkeiaaGreatZ42
import Derived.Test.YtfmebaafpfkeiaaGreatZ43
set_option linter.unusedVariables false
set_option linter.unusedSimpArgs false
section
namespace Go.Proofs.YtfmebaafpfkeiaaGreat
open Go.RowKit
section
variable {E :Nat→Nat→Prop} {fs :List F2} {dep :List (List Int)} {fin :List Int} {L :VmL} {A :AbS} {h b n :Nat} {ps :List Nat}
theorem okA_calls (hok :okA fs A=true) (hc :A.code=0) :(0 < A.cs.length∧A.cs.length≤120)∧(∃f k :Nat,(topA A).c=f∧f < fs.length∧(topA A).n=k∧k < (fs.getD f fn0).os.length)∧(1≤(topA A).m∧(topA A).m≤(A.ss.length :Int)-1) :=by
 simp only [okA,callsOk,callsAll,Bool.and_eq_true,Bool.or_eq_true,decide_eq_true_eq,List.all_eq_true,List.mem_range] at hok
 obtain ⟨⟨_,h1,hl,h2⟩,_⟩ :=hok
 have h3 :0 < A.cs.length :=by
  rcases h2 with e | e
  ·rw [hc] at e;cases e
  ·exact e
 have h4 :=h1 (A.cs.length-1) (by omega)
 simp only [callOk,Bool.and_eq_true] at h4
 obtain ⟨⟨c1,c2⟩,c3,_⟩ :=h4
 have c1 :=inB_true.1 c1
 have c2 :=inB_true.1 c2
 have c3 :=inB_true.1 c3
 change 0≤(topA A).c∧(topA A).c≤(fs.length :Int)-1 at c1
 change 0≤(topA A).n∧(topA A).n≤((fs.getD (topA A).c.toNat fn0).os.length :Int)-1 at c2
 change 1≤(topA A).m∧(topA A).m≤(A.ss.length :Int)-1 at c3
 refine ⟨⟨h3,hl⟩,⟨(topA A).c.toNat,(topA A).n.toNat,by omega,by omega,by omega,by omega⟩,c3⟩
theorem funsOk_len (hf :funsOk fs=true) :fs.length≤60∧∀f,f < fs.length→(fs.getD f fn0).os.length≤3000 :=by
 unfold funsOk at hf
 simp only [Bool.and_eq_true,List.all_eq_true] at hf
 obtain ⟨⟨h1,_⟩,h2,_⟩ :=hf
 refine ⟨by have :=(inB_true.1 h1).2;omega,fun f hfl=> ?_⟩
 rw [fs_getD hfl]
 have :=h2 _ (List.getElem_mem hfl)
 unfold fnHead at this
 rw [Bool.and_eq_true] at this
 have :=(inB_true.1 this.2).2
 omega
theorem Sim.word (S :Sim E fs L A h b n ps) (hw :wordsA A=true) {x :Int} (hx :x∈L.ss) :(x%2≠0→ -1073741824≤x/2∧x/2≤1073741823)∧BkAt L x∧(-9223372036854775808≤x∧x≤9223372036854775807) :=by
 have ha :=S.words hw
 rw [List.all_eq_true] at ha
 have hwx :=ha x hx
 unfold wordIn at hwx
 by_cases he :x%2=0
 ·rw [if_pos he,decide_eq_true_eq] at hwx
  obtain ⟨p,hp,e⟩ :=hwx
  obtain ⟨r1,r2,r3,r4,_⟩ :=S.right.at_ hp
  have hl :=S.right.n_le
  have hpe :(x/2).toNat=p :=by omega
  refine ⟨fun hne=> absurd he hne,fun _=> ⟨by omega,?_,?_⟩,by omega⟩
  ·rw [hpe];exact r3
  ·rw [hpe];omega
 ·rw [if_neg he] at hwx
  have :=inB_true.1 hwx
  exact ⟨fun _=> this,fun hh=> absurd hh he,by omega⟩
theorem Sim.zlen (S :Sim E fs L A h b n ps) :L.zs.length=2*h∧L.zs.length≤6000∧1≤h :=by
 have F :=S.right.frame
 have f0 :=F.h0
 have f1 :=F.h1
 have f2 :=F.len
 exact ⟨by omega,by omega,f0⟩
theorem Sim.fits (S :Sim E fs L A h b n ps) (hok :okA fs A=true) :Fits L :=by
 have hw :=okA_words hok
 have hz :=S.zlen
 refine ⟨fun e=> by rw [e] at hz;simp at hz;omega,hz.2.1,S.zi,?_,fun x hx=> (S.word hw hx).1,fun x hx=> (S.word hw hx).2.1⟩
 simp only [okA,Bool.and_eq_true,decide_eq_true_eq] at hok
 rw [S.ss.1]
 exact hok.1.1
theorem Sim.stepOk (S :Sim E fs L A h b n ps) (hf :funsOk fs=true) (hok :okA fs A=true) (hgo :goA fs A=true) (hh :2≤h) (hos :A.os.length≤1000) : ∃f k,StepOk L f k :=by
 have hc :=goA_code hgo
 obtain ⟨hcl,⟨f,k,t1,t2,t3,t4⟩,t5⟩ :=okA_calls hok hc
 have et :topC L=topA A :=by unfold topC topA;rw [S.cs]
 have eo :opL L (topA A)=opA fs (topA A) :=by unfold opL opA;rw [S.lf]
 have hop :opOkA (opA fs (topA A)) A.ss.length=true :=by
  simp only [goA,Bool.and_eq_true] at hgo
  exact hgo.1.2
 obtain ⟨o1,o2,o3,o4,o5⟩ :=opOkA_all hop
 have S' :Sim E fs (midL L) (midA A) h b n ps :=by
  unfold midL midA
  rw [et]
  exact S.put S.ss (by rw [S.cs]) S.os rfl
 have hfits :=S.fits hok
 have hfl :=funsOk_len hf
 have hz :=S.zlen
 refine ⟨f,k,by rw [et];exact t1,by rw [S.lf];exact t2,by rw [et];exact t3,by rw [S.lf];exact t4,by have :=hfl.2 f t2;omega,by omega,?_⟩
 rw [et,eo]
 refine ⟨⟨hfits.z0,hfits.z1,hfits.z2,hfits.s1,hfits.s2,hfits.s3⟩,S.rightB (S.words (okA_words hok)),?_,?_,o1,o2,o3,o4,fun e=> (o5 e).1,?_⟩
 ·have :(midL L).cs.length=L.cs.length :=by unfold midL setPc;simp
  rw [this,S.cs]
  exact hcl
 ·show 1≤(topA A).m∧(topA A).m≤(L.ss.length :Int)-1
  rw [S.ss.1]
  exact t5
 ·show L.os.length≤_
  rw [S.os];omega
theorem run_stepOk {T :Nat} (ht :traceOk fs dep fin T A=true) (hf :funsOk fs=true) (hfin :fin.length≤1000) (S :Sim E fs L A h b n ps) (hh :2≤h) (i :Nat) :
  ((runL i L).code=0→∃f k,StepOk (runL i L) f k)∧4≤(runL i L).zs.length :=by
 obtain ⟨j,L',no,X⟩ :=S.run (fs :=fs) (dep :=dep) (fin :=fin) i ht
 obtain ⟨E',b',n',ps',S'⟩ :=X.sim
 have M :=Moment.of ht X.along
 have hz :=S'.zlen
 have hos :(iterA fs j A).os.length≤1000 :=Nat.le_trans M.pre.length_le hfin
 rcases X.how with ⟨e,h1,h2⟩ | ⟨e,h1,_⟩
 ·rw [e]
  refine ⟨fun hc=> ?_,by omega⟩
  have hc' :(iterA fs j A).code=0 :=by rw [← S'.code];exact hc
  exact S'.stepOk hf M.ok (M.go hc').1 hh hos
 ·rw [e]
  exact ⟨(fun hc=> by cases hc),(by show 4≤L'.zs.length;omega)⟩
theorem run_ok {T :Nat} (ht :traceOk fs dep fin T A=true) (hf :funsOk fs=true) (hfin :fin.length≤1000) (S :Sim E fs L A h b n ps) (hh :2≤h) (hok :vmOk L=true) (hin :vmIn L) (hsz :vmSz L≤1048576) (N :Nat) :RunOk L N :=
 ⟨hok,hin,hsz,fun i _ hc=> (run_stepOk ht hf hfin S hh i).1 hc,fun i _=> (run_stepOk ht hf hfin S hh i).2⟩
end
end Go.Proofs.YtfmebaafpfkeiaaGreat
end
section
namespace Go.Proofs.YtfmebaafpfkeiaaGreat.fnNoRoom
open Go.ChangeShapes Go.WideShapes Go.ChangeAt Go.RowKit
set_option maxRecDepth 100000
theorem bt {a b :Bool} (h :a=true) (k :b=true) :(a&&b)=true :=by rw [h,k];rfl
theorem joined :joinedFacts Tryz.prog 7 Tryz.f7 Rows.fnNoRoomSpec Rows.fnNoRoomRow=true :=(bt (bt (bt (bt (bt (bt (bt (bt (bt (bt (bt (bt (bt (bt (bt (bt (bt (bt (bt (bt (bt (bt (bt (bt (bt (bt (bt (bt (bt (bt (bt j0 j1) j2) j3) j4) j5) j6) j7) j8) j9) j10) j11) j12) j13) j14) j15) j16) j17) j18) j19) j20) j21) j22) j23) j24) j25) j26) j27) j28) j29) j30) j31)
end Go.Proofs.YtfmebaafpfkeiaaGreat.fnNoRoom
end
