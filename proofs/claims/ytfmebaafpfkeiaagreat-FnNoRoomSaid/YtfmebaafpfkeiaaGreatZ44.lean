/- Parts of the proof of FnNoRoom. -/
import Derived.Test.YtfmebaafpfkeiaaGreatZ16
import Derived.Test.YtfmebaafpfkeiaaGreatZ18
import Derived.Test.YtfmebaafpfkeiaaGreatZ25
import Derived.Test.YtfmebaafpfkeiaaGreatZ27
import Derived.Test.YtfmebaafpfkeiaaGreatZ28
import Derived.Test.YtfmebaafpfkeiaaGreatZ29
import Derived.Test.YtfmebaafpfkeiaaGreatZ30
import Derived.Test.YtfmebaafpfkeiaaGreatZ31
import Derived.Test.YtfmebaafpfkeiaaGreatZ32
import Derived.Test.YtfmebaafpfkeiaaGreatZ33
import Derived.Test.YtfmebaafpfkeiaaGreatZ34
import Derived.Test.YtfmebaafpfkeiaaGreatZ35
import Derived.Test.YtfmebaafpfkeiaaGreatZ36
import Derived.Test.YtfmebaafpfkeiaaGreatZ37
import Derived.Test.YtfmebaafpfkeiaaGreatZ38
import Derived.Test.YtfmebaafpfkeiaaGreatZ39
import Derived.Test.YtfmebaafpfkeiaaGreatZ40
import Derived.Test.YtfmebaafpfkeiaaGreatZ26
import Derived.Test.YtfmebaafpfkeiaaGreatZ12
import Derived.Test.YtfmebaafpfkeiaaGreatZ13
set_option linter.unusedVariables false
set_option linter.unusedSimpArgs false
section
namespace Go.Proofs.YtfmebaafpfkeiaaGreat
open Go.RowKit Go.Ev
set_option maxRecDepth 100000
def pfs :List (List F2) := [pf0,pf1,pf2,pf3,pf4,pf5,pf6]
def funsA :List (List FunL) := [funs0,funs1,funs2,funs3,funs4,funs5,funs6]
theorem pf_of (k :Nat) (hk :k < 7) :(funsA.getD k []).map toF2=pfs.getD k []∧(funsA.getD k []).length≤maxLen∧(∀f∈funsA.getD k [],f.2.length≤maxLen)∧0 < (funsA.getD k []).length :=by
 have hk' :k=0∨k=1∨k=2∨k=3∨k=4∨k=5∨k=6 :=by omega
 rcases hk' with rfl | rfl | rfl | rfl | rfl | rfl | rfl <;> decide+kernel
theorem pipe_i (k :Nat) (hk :k < 7) : ∃p b f uP uC uG,PipeI (srcs.getD k []) (funsA.getD k []) p b f uP uC uG :=by
 have hk' :k=0∨k=1∨k=2∨k=3∨k=4∨k=5∨k=6 :=by omega
 rcases hk' with rfl | rfl | rfl | rfl | rfl | rfl | rfl
 ·exact pipeI okI1_0 okI2_0
 ·exact pipeI okI1_1 okI2_1
 ·exact pipeI okI1_2 okI2_2
 ·exact pipeI okI1_3 okI2_3
 ·exact pipeI okI1_4 okI2_4
 ·exact pipeI okI1_5 okI2_5
 ·exact pipeI okI1_6 okI2_6
theorem pipe_s (k :Nat) (hk :k < 7) : ∃p b f uP uC uG,PipeS (srcs.getD k []) p b f uP uC uG :=by
 have hk' :k=0∨k=1∨k=2∨k=3∨k=4∨k=5∨k=6 :=by omega
 rcases hk' with rfl | rfl | rfl | rfl | rfl | rfl | rfl
 ·exact pipeS okS1_0 okS2_0
 ·exact pipeS okS1_1 okS2_1
 ·exact pipeS okS1_2 okS2_2
 ·exact pipeS okS1_3 okS2_3
 ·exact pipeS okS1_4 okS2_4
 ·exact pipeS okS1_5 okS2_5
 ·exact pipeS okS1_6 okS2_6
theorem build_k (k :Nat) (hk :k < 7) (x :Value) (hx :StrIs x (srcs.getD k [])) (w :World) :
  Calls Tryz.prog 83 #[x] w fun e w'=> ∃fv,e= .returned (.tuple #[fv, .int .i64 0])∧Below w.heap.size w w'∧RdF w'.heap.size w' fv (pfs.getD k [])∧
   ∀W,Below w'.heap.size w' W→Calls Tryz.prog 156 #[fv] W fun e W'=> e= .returned (.bool true)∧Kp w.heap.size w' fv (pfs.getD k []) W'∧Ke w' W W' :=by
 obtain ⟨p,b,f,uP,uC,uG,H⟩ :=pipe_i k hk
 obtain ⟨e1,e2,e3,e4⟩ :=pf_of k hk
 obtain ⟨bs,rfl,hs⟩ :=hx
 refine (iBuild_any H bs hs w).mono ?_
 rintro e w' ⟨fv,ρ,rfl,sf,n⟩
 have hB : ∀x cb sh z,ρ x=some (cb,sh,z)→cb < w'.heap.size :=fun x cb sh z e=> by
  obtain ⟨cs,el,f1,_⟩ :=n.rel.blk x cb sh z e
  rcases Nat.lt_or_ge cb w'.heap.size with h | h
  ·exact h
  ·rw [Array.getElem?_eq_none h] at f1;cases f1
 have rd : ∀W,Kn w ρ uG W→RdF w'.heap.size W fv (pfs.getD k []) :=fun W N=> by rw [← e1];exact ev_funs_rd N.rel sf hB H.funs e2 e3 e4
 refine ⟨fv,rfl,n.below,rd w' n,fun W hb=> ?_⟩
 have N :=n.later hb
 refine (show Calls Tryz.prog 156 #[fv] W fun e w'=> ∃cv,e= .returned cv∧VR ρ (.c (.b true)) cv∧Kn w ρ uG w'∧Go.Ev.Left ρ W ρ w' from
  N.entK H.verify (cargs := [fv]) ⟨sf,trivial⟩).mono ?_
 rintro e W' ⟨cv,rfl,hv,N',L⟩
 have hv' :cv= .bool true :=hv
 subst hv'
 exact ⟨rfl,⟨n.below.size,⟨N'.below.os.trans n.below.os.symm,N'.below.tape.trans n.below.tape.symm,N'.below.output.trans n.below.output.symm,Nat.le_trans hb.size L.size,fun c hc=> (N'.below.block c hc).trans (n.below.block c hc).symm⟩,rd W' N'⟩,⟨L.size,fun c h1 h2=> (L.keep c (n.far h1 h2)).2⟩⟩
end Go.Proofs.YtfmebaafpfkeiaaGreat
end
section
namespace Go.Proofs.YtfmebaafpfkeiaaGreat
open Go.RowKit Go.Ev
theorem pf_sz (k :Nat) (hk :k < 7) :(pfs.getD k []).length≤1000∧tot (pfs.getD k [])≤4294967296 :=by
 have hk' :k=0∨k=1∨k=2∨k=3∨k=4∨k=5∨k=6 :=by omega
 rcases hk' with rfl | rfl | rfl | rfl | rfl | rfl | rfl <;> decide+kernel
theorem OwnV.setCell {base :Nat} {w :World} {fv hv sv cv ov :Value} {L :VmL} (h :OwnV base w fv hv sv cv ov L) {a :Addr} (ha :a.block < base) (u :Value) :OwnV base (w.setCell a u) fv hv sv cv ov L :=
 ⟨OwnF.setCell h.f ha u,ownsRow_setCell_below h.z ha u,ownsRow_setCell_below h.s ha u,ownsRow_setCell_below h.c ha u,ownsRow_setCell_below h.o ha u⟩
theorem Bx.set10 {w :World} {g :Nat} {z0 z1 z2 z3 z4 z5 z6 z7 z8 z9 :Value} (k :Bx w g #[z0,z1,z2,z3,z4,z5,z6,z7,z8,z9]) (a0 a1 a2 a3 a4 a5 a6 a7 a8 a9 :Value) {fv hv sv cv ov :Value} {L :VmL} (h :OwnV (g+1) w fv hv sv cv ov L) :
  Bx ((((((((((w.setCell ⟨g,0,none⟩ a0).setCell ⟨g,1,none⟩ a1).setCell ⟨g,2,none⟩ a2).setCell ⟨g,3,none⟩ a3).setCell ⟨g,4,none⟩ a4).setCell ⟨g,5,none⟩ a5).setCell ⟨g,6,none⟩ a6).setCell ⟨g,7,none⟩ a7).setCell ⟨g,8,none⟩ a8).setCell ⟨g,9,none⟩ a9) g #[a0,a1,a2,a3,a4,a5,a6,a7,a8,a9]∧Below g w ((((((((((w.setCell ⟨g,0,none⟩ a0).setCell ⟨g,1,none⟩ a1).setCell ⟨g,2,none⟩ a2).setCell ⟨g,3,none⟩ a3).setCell ⟨g,4,none⟩ a4).setCell ⟨g,5,none⟩ a5).setCell ⟨g,6,none⟩ a6).setCell ⟨g,7,none⟩ a7).setCell ⟨g,8,none⟩ a8).setCell ⟨g,9,none⟩ a9)∧OwnV (g+1) ((((((((((w.setCell ⟨g,0,none⟩ a0).setCell ⟨g,1,none⟩ a1).setCell ⟨g,2,none⟩ a2).setCell ⟨g,3,none⟩ a3).setCell ⟨g,4,none⟩ a4).setCell ⟨g,5,none⟩ a5).setCell ⟨g,6,none⟩ a6).setCell ⟨g,7,none⟩ a7).setCell ⟨g,8,none⟩ a8).setCell ⟨g,9,none⟩ a9) fv hv sv cv ov L :=by
 have :=((((((((((k.set_ 0 (by simp) a0).set_ 1 (by simp) a1).set_ 2 (by simp) a2).set_ 3 (by simp) a3).set_ 4 (by simp) a4).set_ 5 (by simp) a5).set_ 6 (by simp) a6).set_ 7 (by simp) a7).set_ 8 (by simp) a8).set_ 9 (by simp) a9)
 exact ⟨by simpa using this,((((((((((Below.refl g w).setCell (p :=⟨g,0,none⟩) (Nat.le_refl g) a0).setCell (p :=⟨g,1,none⟩) (Nat.le_refl g) a1).setCell (p :=⟨g,2,none⟩) (Nat.le_refl g) a2).setCell (p :=⟨g,3,none⟩) (Nat.le_refl g) a3).setCell (p :=⟨g,4,none⟩) (Nat.le_refl g) a4).setCell (p :=⟨g,5,none⟩) (Nat.le_refl g) a5).setCell (p :=⟨g,6,none⟩) (Nat.le_refl g) a6).setCell (p :=⟨g,7,none⟩) (Nat.le_refl g) a7).setCell (p :=⟨g,8,none⟩) (Nat.le_refl g) a8).setCell (p :=⟨g,9,none⟩) (Nat.le_refl g) a9,((((((((((h.setCell (a :=⟨g,0,none⟩) (Nat.lt_succ_self g) a0).setCell (a :=⟨g,1,none⟩) (Nat.lt_succ_self g) a1).setCell (a :=⟨g,2,none⟩) (Nat.lt_succ_self g) a2).setCell (a :=⟨g,3,none⟩) (Nat.lt_succ_self g) a3).setCell (a :=⟨g,4,none⟩) (Nat.lt_succ_self g) a4).setCell (a :=⟨g,5,none⟩) (Nat.lt_succ_self g) a5).setCell (a :=⟨g,6,none⟩) (Nat.lt_succ_self g) a6).setCell (a :=⟨g,7,none⟩) (Nat.lt_succ_self g) a7).setCell (a :=⟨g,8,none⟩) (Nat.lt_succ_self g) a8).setCell (a :=⟨g,9,none⟩) (Nat.lt_succ_self g) a9)⟩
set_option maxHeartbeats 3200000 in
set_option maxRecDepth 100000 in
theorem made_k (k :Nat) (hk :k < 7) (bs :ByteArray) (hx :StrIs (.string bs) (srcs.getD k [])) (half :Nat) (h1 :1≤half) (h2 :half≤3000) (each :Bool) (w :World) :
  Calls Tryz.prog 34 #[.string bs, .int .i64 half, .bool each] w fun e w'=> ∃fv hv sv cv ov,e= .returned (.tuple #[vmV fv hv sv cv ov (startL (pfs.getD k []) half each), .int .i64 0])∧OwnV (w.heap.size+1) w' fv hv sv cv ov (startL (pfs.getD k []) half each)∧Below w.heap.size w w' :=by
 obtain ⟨z1,z2⟩ :=pf_sz k hk
 have HB :=Lib.hid (fun (W :World)=> build_k k hk (.string bs) hx W)
 clear hx
 obtain ⟨fs,hfs⟩ : ∃fs,pfs.getD k []=fs :=⟨_,rfl⟩
 rw [hfs] at z1 z2 HB ⊢
 clear hfs
 obtain ⟨L,hL⟩ : ∃L,startL fs half each=L :=⟨_,rfl⟩
 rw [hL]
 have HL :=Lib.hid hL
 clear hL
 go_enter Tryz.func34,Tryz.ntmps34
 go_wp2_with fail
 generalize hxx :w.alloc _=w0
 obtain ⟨bz,k6⟩ :=Bx.alloc hxx
 have zz0 :w0.heap.size=w.heap.size+1 :=by rw [← hxx,World.size_alloc]
 clear hxx
 refine (HB.out w0).mono ?_
 rintro e w1 ⟨fv,rfl,b1,rd,hv⟩
 have HN :=iVmNew_yes (B0 :=w0.heap.size) fv fs half each w1 rd z1 z2 h1 h2 hv
 rw [HL.out] at HN
 replace HN :=Lib.hid HN
 replace k6 :=k6.below b1 (by omega)
 replace bz :=bz.trans (b1.mono (by omega))
 have b1s :=b1.size
 clear rd hv b1 HB
 have ck6 :=k6.2.1
 have yk6 :=k6.1
 have zk6 :=k6.2.2
 go_wp2_with fail
 refine HN.out.mono ?_
 rintro e w2 ⟨fv2,hv2,sv2,cv2,ov2,rfl,rv,b2⟩
 obtain ⟨fa,fc,ha,hc,sa,sc,ca,cc,oa,oc,rfl,rfl,rfl,rfl,rfl⟩ :=(RdV.of_own rv).forms
 clear ck6 yk6 zk6
 replace k6 :=k6.below b2 (by omega)
 replace bz :=bz.trans (b2.mono (by omega))
 have RV :=Lib.hid (rv.base (show w.heap.size+1≤w1.heap.size+1 by have :=b1s;omega))
 clear rv b2 HN
 have ck6 :=k6.2.1
 have yk6 :=k6.1
 have zk6 :=k6.2.2
 unfold vmV
 go_wp2
 clear ck6 yk6 zk6
 obtain ⟨kq,b3,o3⟩ :=k6.set10 (.slice fa L.fs.length fc) (.slice ha L.zs.length hc) (.int .i64 L.h) (.int .i64 L.b) (.int .i64 L.n) (.slice sa L.ss.length sc) (.slice ca L.cs.length cc) (.slice oa L.os.length oc) (.int .i64 L.code) (.bool L.each) RV.out
 generalize hxx :World.setCell _ _ _=y at kq b3 o3 ⊢
 generalize hyy :y.alloc _=y2
 obtain ⟨b4,_⟩ :=Bx.alloc hyy
 have kq :=kq.below b4 kq.1
 have o3 :=o3.below b4
 have b5 :=b3.trans (b4.mono (by have :=kq.1;have :=b3.size;have :=k6.1;omega))
 have q4 :=kq.2.1
 refine bodyPost_ret (v := .tuple #[.agg #[.slice fa L.fs.length fc, .slice ha L.zs.length hc, .int .i64 L.h, .int .i64 L.b, .int .i64 L.n, .slice sa L.ss.length sc, .slice ca L.cs.length cc, .slice oa L.os.length oc, .int .i64 L.code, .bool L.each], .int .i64 0]) ?_ rfl ⟨_,_,_,_,_,rfl,o3,bz.trans b5⟩
 simp [results,Tryz.results34,go_sem,q4]
end Go.Proofs.YtfmebaafpfkeiaaGreat
end
section
namespace Go.Proofs.YtfmebaafpfkeiaaGreat
open Go.RowKit Go.Ev
set_option maxRecDepth 100000
def pds :List (List (List Int)) := [pd0,pd1,pd2,pd3,pd4,pd5,pd6]
def pes :List (List Int) := [pe0,pe1,pe2,pe3,pe4,pe5,pe6]
def inO (o :O3) :Bool :=inB o.c (-1000000) 1000000&&(inB o.n (-1000000) 1000000&&inB o.m (-1000000) 1000000)
def inF (x :F2) :Bool :=inB x.f (-1000000) 1000000&&x.os.all inO
theorem inF_fn {x :F2} (h :inF x=true) :fnIn x :=by
 unfold inF at h
 rw [Bool.and_eq_true,List.all_eq_true] at h
 refine ⟨by have :=inB_true.1 h.1;omega,fun o ho=> ?_⟩
 have :=h.2 o ho
 unfold inO at this
 rw [Bool.and_eq_true,Bool.and_eq_true] at this
 have h1 :=inB_true.1 this.1
 have h2 :=inB_true.1 this.2.1
 have h3 :=inB_true.1 this.2.2
 exact ⟨by omega,by omega,by omega⟩
theorem tr_k (k :Nat) (hk :k < 7) :traceOk (pfs.getD k []) (pds.getD k []) (pes.getD k []) 600 startA=true∧funsOk (pfs.getD k [])=true :=by
 have hk' :k=0∨k=1∨k=2∨k=3∨k=4∨k=5∨k=6 :=by omega
 rcases hk' with rfl | rfl | rfl | rfl | rfl | rfl | rfl
 ·exact ⟨tr0,fo0⟩
 ·exact ⟨tr1,fo1⟩
 ·exact ⟨tr2,fo2⟩
 ·exact ⟨tr3,fo3⟩
 ·exact ⟨tr4,fo4⟩
 ·exact ⟨tr5,fo5⟩
 ·exact ⟨tr6,fo6⟩
theorem pf_bd (k :Nat) (hk :k < 7) :(pes.getD k []).length≤1000∧(pfs.getD k []).length+tot (pfs.getD k [])≤100000∧(pfs.getD k []).all inF=true :=by
 have hk' :k=0∨k=1∨k=2∨k=3∨k=4∨k=5∨k=6 :=by omega
 rcases hk' with rfl | rfl | rfl | rfl | rfl | rfl | rfl <;> decide+kernel
theorem start_in (k :Nat) (hk :k < 7) {half :Nat} (h2 :half≤3000) (each :Bool) :vmIn (startL (pfs.getD k []) half each)∧vmSz (startL (pfs.getD k []) half each)≤1048576 :=by
 obtain ⟨_,h3,h4⟩ :=pf_bd k hk
 rw [List.all_eq_true] at h4
 have i2 :intsIn [1,1] :=fun j=> by
  match j with
  | 0=> exact ⟨by decide,by decide⟩
  | 1=> exact ⟨by decide,by decide⟩
  | j+2=> exact ⟨by simp,by simp⟩
 refine ⟨⟨fun x hx=> inF_fn (h4 x hx),intsOk_of (fun x hx=> by rw [List.eq_of_mem_replicate hx];omega),?_,?_,?_,i2,?_,?_,?_⟩,?_⟩
 ·show (-9223372036854775808 :Int)≤(half :Int)∧(half :Int)≤9223372036854775807
  omega
 ·show (-9223372036854775808 :Int)≤0∧(0 :Int)≤9223372036854775807
  omega
 ·show (-9223372036854775808 :Int)≤0∧(0 :Int)≤9223372036854775807
  omega
 ·intro x hx
  have hx' :x∈ [(⟨0,0,1⟩ :O3)] :=hx
  rw [List.mem_singleton.1 hx']
  exact ⟨by decide,by decide,by decide⟩
 ·intro j
  show (-9223372036854775808 :Int)≤([] :List Int).getD j 0∧([] :List Int).getD j 0≤9223372036854775807
  simp
 ·show (-9223372036854775808 :Int)≤0∧(0 :Int)≤9223372036854775807
  omega
 ·unfold vmSz startL
  dsimp only
  rw [List.length_replicate]
  simp only [List.length_cons,List.length_nil]
  omega
theorem start_ok (k :Nat) (hk :k < 7) {half :Nat} (h1 :2≤half) (h2 :half≤3000) (each :Bool) (N :Nat) :RunOk (startL (pfs.getD k []) half each) N :=by
 obtain ⟨t1,t2⟩ :=tr_k k hk
 obtain ⟨i1,i2⟩ :=start_in k hk h2 each
 have S :=start_sim (pfs.getD k []) (show 1≤half by omega) h2 each
 exact run_ok t1 t2 (pf_bd k hk).1 S h1 (S.vmOk t2 (trace_moment t1).1.ok (.inl rfl) 0 (.inl rfl)) i1 i2 N
end Go.Proofs.YtfmebaafpfkeiaaGreat
end
section
namespace Go.Proofs.YtfmebaafpfkeiaaGreat
open Go.RowKit Go.Ev
theorem Bx.set10g {w :World} {g :Nat} {z0 z1 z2 z3 z4 z5 z6 z7 z8 z9 :Value} (k :Bx w g #[z0,z1,z2,z3,z4,z5,z6,z7,z8,z9]) (a0 a1 a2 a3 a4 a5 a6 a7 a8 a9 :Value) :
  Bx ((((((((((w.setCell ⟨g,0,none⟩ a0).setCell ⟨g,1,none⟩ a1).setCell ⟨g,2,none⟩ a2).setCell ⟨g,3,none⟩ a3).setCell ⟨g,4,none⟩ a4).setCell ⟨g,5,none⟩ a5).setCell ⟨g,6,none⟩ a6).setCell ⟨g,7,none⟩ a7).setCell ⟨g,8,none⟩ a8).setCell ⟨g,9,none⟩ a9) g #[a0,a1,a2,a3,a4,a5,a6,a7,a8,a9]∧w.grownBy ((((((((((w.setCell ⟨g,0,none⟩ a0).setCell ⟨g,1,none⟩ a1).setCell ⟨g,2,none⟩ a2).setCell ⟨g,3,none⟩ a3).setCell ⟨g,4,none⟩ a4).setCell ⟨g,5,none⟩ a5).setCell ⟨g,6,none⟩ a6).setCell ⟨g,7,none⟩ a7).setCell ⟨g,8,none⟩ a8).setCell ⟨g,9,none⟩ a9) (some g) :=by
 have :=((((((((((k.set_ 0 (by simp) a0).set_ 1 (by simp) a1).set_ 2 (by simp) a2).set_ 3 (by simp) a3).set_ 4 (by simp) a4).set_ 5 (by simp) a5).set_ 6 (by simp) a6).set_ 7 (by simp) a7).set_ 8 (by simp) a8).set_ 9 (by simp) a9)
 exact ⟨by simpa using this,((((((((((grownBy.setCell w g 0 a0).trans' (grownBy.setCell _ g 1 a1)).trans' (grownBy.setCell _ g 2 a2)).trans' (grownBy.setCell _ g 3 a3)).trans' (grownBy.setCell _ g 4 a4)).trans' (grownBy.setCell _ g 5 a5)).trans' (grownBy.setCell _ g 6 a6)).trans' (grownBy.setCell _ g 7 a7)).trans' (grownBy.setCell _ g 8 a8)).trans' (grownBy.setCell _ g 9 a9))⟩
theorem RdV.stored {base g :Nat} {w W :World} {fv hv sv cv ov :Value} {L :VmL} (rd :RdV w.heap.size w fv hv sv cv ov L) (ap :Apt base w fv sv cv ov L.fs) (hg :g < base) (gT :w.grownBy W (some g))
  (k :Bx w g #[.slice none 0 0, .slice none 0 0, .int .i64 0, .int .i64 0, .int .i64 0, .slice none 0 0, .slice none 0 0, .slice none 0 0, .int .i64 0, .bool false]) (hz :4≤L.zs.length) :RdV W.heap.size W fv hv sv cv ov L :=by
 have lo : ∀i,(sv.ownBlock=some i∨cv.ownBlock=some i∨ov.ownBlock=some i)→some i≠some g :=fun i hi e=> by
  have :=ap.lo i hi
  have :=Option.some.inj e
  omega
 exact ⟨RdF.of_own (ap.f.to_h.same (fun q h1 h2=> gT.block q h2 (fun e=> by have :=Option.some.inj e;omega))).to_f,rd.z.grow gT (fun i hi e=> not_there rd.z hz k i hi (Option.some.inj e)),rd.s.grow gT (fun i hi=> lo i (.inl hi)),RdO.grow rd.c gT (fun i hi=> lo i (.inr (.inl hi))),rd.o.grow gT (fun i hi=> lo i (.inr (.inr hi)))⟩
set_option maxHeartbeats 3200000 in
set_option maxRecDepth 100000 in
theorem runOf_k (k :Nat) (hk :k < 7) (bs :ByteArray) (hx :StrIs (.string bs) (srcs.getD k [])) (half :Nat) (h1 :2≤half) (h2 :half≤3000) (each :Bool) (n :Int) (w :World) :
  Calls Tryz.prog 11 #[.string bs, .int .i64 half, .bool each, .int .i64 n] w fun e w'=> ∃fv hv sv cv ov,e= .returned (.tuple #[vmV fv hv sv cv ov (runL (stepsOf n) (startL (pfs.getD k []) half each)), .int .i64 0])∧RdV w'.heap.size w' fv hv sv cv ov (runL (stepsOf n) (startL (pfs.getD k []) half each))∧Below w.heap.size w w' :=by
 have HM :=Lib.hid (fun (W :World)=> made_k k hk bs hx half (by omega) h2 each W)
 have HO :=Lib.hid (start_ok k hk h1 h2 each (stepsOf n))
 clear hx
 obtain ⟨fs,hfs⟩ : ∃fs,pfs.getD k []=fs :=⟨_,rfl⟩
 rw [hfs] at HM HO ⊢
 clear hfs
 obtain ⟨L,hL⟩ : ∃L,startL fs half each=L :=⟨_,rfl⟩
 rw [hL] at HM HO ⊢
 clear hL
 obtain ⟨R,hR⟩ : ∃R,runL (stepsOf n) L=R :=⟨_,rfl⟩
 rw [hR]
 have HV :=Lib.hid (fun (W :World) {B :Nat} {fv hv sv cv ov :Value} (hr :RdV B W fv hv sv cv ov L)=> (by have :=iVmRun_any fv hv sv cv ov L n W hr HO.out;rw [hR] at this;exact this :Calls Tryz.prog 24 #[vmV fv hv sv cv ov L, .int .i64 n] W _))
 have HF :=Lib.hid (show R.fs=L.fs by rw [← hR];exact runL_fs _ _)
 have HZ :=Lib.hid (show 4≤R.zs.length by rw [← hR];exact HO.out.z4 _ (Nat.le_refl _))
 clear hR
 go_enter Tryz.func11,Tryz.ntmps11
 go_wp2_with fail
 generalize hxx :w.alloc _=w0
 obtain ⟨bz,k6⟩ :=Bx.alloc hxx
 have zz0 :w0.heap.size=w.heap.size+1 :=by rw [← hxx,World.size_alloc]
 clear hxx
 refine (HM.out w0).mono ?_
 rintro e w1 ⟨fv,hv,sv,cv,ov,rfl,o1,b1⟩
 obtain ⟨fa,fc,ha,hc,sa,sc,ca,cc,oa,oc,rfl,rfl,rfl,rfl,rfl⟩ :=(RdV.of_own o1).forms
 replace k6 :=k6.below b1 (by omega)
 replace bz :=bz.trans (b1.mono (by omega))
 have b1s :=b1.size
 have R1 :=Lib.hid (RdV.of_own o1)
 clear o1 b1 HM
 unfold vmV
 go_wp2_with fail
 generalize hxx :w1.alloc _=w2
 obtain ⟨b2,k2⟩ :=Bx.alloc hxx
 clear hxx
 have b2s :=b2.size
 replace k6 :=k6.below b2 k6.1
 replace bz :=bz.trans (b2.mono (by omega))
 refine (HV.out w2 (R1.out.below b2 (Nat.le_refl _))).mono ?_
 rintro e w3 ⟨fv3,hv3,sv3,cv3,ov3,rfl,rd3,b3,ap3⟩
 obtain ⟨fa3,fc3,ha3,hc3,sa3,sc3,ca3,cc3,oa3,oc3,rfl,rfl,rfl,rfl,rfl⟩ :=rd3.forms
 have b3s :=b3.size
 have hk6 :=k6.1
 replace k6 :=k6.below b3 k6.1
 replace bz :=bz.trans (b3.mono (by omega))
 have RD :=Lib.hid rd3
 have AP :=Lib.hid ap3
 have B3 :=Lib.hid b3
 clear rd3 ap3 b3
 have ck6 :=k6.2.1
 have yk6 :=k6.1
 have zk6 :=k6.2.2
 unfold vmV
 go_wp2
 clear ck6 yk6 zk6
 obtain ⟨kq,g4⟩ :=k6.set10g (.slice fa3 R.fs.length fc3) (.slice ha3 R.zs.length hc3) (.int .i64 R.h) (.int .i64 R.b) (.int .i64 R.n) (.slice sa3 R.ss.length sc3) (.slice ca3 R.cs.length cc3) (.slice oa3 R.os.length oc3) (.int .i64 R.code) (.bool R.each)
 generalize hxx :World.setCell _ _ _=y at kq g4 ⊢
 have rd4 :=RD.out.stored (by have h :=AP.out;rw [← HF.out] at h;exact h) hk6 g4 k6 HZ.out
 have b5 :=Below.of_grown g4 (show w.heap.size≤w3.heap.size by omega) (fun k hk=> by have :=Option.some.inj hk;omega)
 have q4 :=kq.2.1
 refine bodyPost_ret (v := .tuple #[.agg #[.slice fa3 R.fs.length fc3, .slice ha3 R.zs.length hc3, .int .i64 R.h, .int .i64 R.b, .int .i64 R.n, .slice sa3 R.ss.length sc3, .slice ca3 R.cs.length cc3, .slice oa3 R.os.length oc3, .int .i64 R.code, .bool R.each], .int .i64 0]) ?_ rfl ⟨_,_,_,_,_,rfl,rd4,bz.trans b5⟩
 simp [results,Tryz.results11,go_sem,q4]
end Go.Proofs.YtfmebaafpfkeiaaGreat
end
section
namespace Go.Proofs.YtfmebaafpfkeiaaGreat
open Go.RowKit
theorem Sim.moved_room {E :Nat→Nat→Prop} {fs :List F2} {L :VmL} {A :AbS} {h b n :Nat} {ps :List Nat} (S :Sim E fs L A h b n ps) (hw :wordsA A=true) :
  (movedL L).b+(movedL L).h-(movedL L).n=(h :Int)-liveL L :=by
 obtain ⟨S2,_⟩ :=S.moved (S.words hw)
 rw [S2.lh,S2.lb,S2.ln];omega
structure Heapy (M :VmL) :Prop where
 zi :intsOk M.zs
 zl :M.zs.length≤6000
 h :0≤M.h∧M.h≤3000
 b :0≤M.b∧M.b≤3000
 n :0≤M.n∧M.n≤6000
theorem Sim.heapy {E :Nat→Nat→Prop} {fs :List F2} {L :VmL} {A :AbS} {h b n :Nat} {ps :List Nat} (S :Sim E fs L A h b n ps) :Heapy L :=by
 have F :=S.right.frame
 have h1 :=F.h1
 have h2 :=F.base
 have h3 :=F.n1
 have h4 :=F.len
 have h5 :b≤h :=by omega
 refine ⟨S.zi,by omega,?_,?_,?_⟩
 ·rw [S.lh];omega
 ·rw [S.lb];omega
 ·rw [S.ln];omega
structure NoRoom (M :VmL) :Prop where
 op : ∃f k :Nat,(topC M).c=f∧f < M.fs.length∧(topC M).n=k∧k < (M.fs.getD f fn0).os.length
 calls :0 < M.cs.length
 sl :M.ss.length≤600
 cl :M.cs.length≤120
 made :(opL M (topC M)).c=5∨(opL M (topC M)).c=8
 heap :Heapy M
 moved :Heapy (movedL M)
 room :roomOf (movedL M).zs (movedL M).h (movedL M).b (movedL M).n≤(opL M (topC M)).m
theorem noroom {fs :List F2} {dep :List (List Int)} {fin :List Int} {T :Nat} {h :Nat} {L0 :VmL} {A :AbS} {E :Nat→Nat→Prop} {b n :Nat} {ps :List Nat} (S :Sim E fs L0 A h b n ps) (ht :traceOk fs dep fin T A=true) (N :Nat) (hc :(runL N L0).code=2) :NoRoom (runL N L0) :=by
 obtain ⟨i,L',no,X⟩ :=S.run N ht
 obtain ⟨E',b',n',ps',S'⟩ :=X.sim
 have M :=Moment.of ht X.along
 rcases X.how with ⟨e,h1,h2⟩ | ⟨e,h1,h2,h3,_⟩
 ·exfalso
  rw [e,S'.code] at hc
  by_cases h0 :(iterA fs i A).code=0
  ·omega
  ·have :=(M.done h0).1;omega
 ·have hok :=M.ok
  have hgo :=(M.go h1).1
  obtain ⟨hcl,⟨f,k,t1,t2,t3,t4⟩,t5⟩ :=okA_calls hok h1
  have et :topC {L' with code :=2}=topA (iterA fs i A) :=by unfold topC topA;rw [show ({L' with code :=2} :VmL).cs=L'.cs from rfl,S'.cs]
  have eo :opL {L' with code :=2} (topA (iterA fs i A))=opA fs (topA (iterA fs i A)) :=by unfold opL opA;rw [show ({L' with code :=2} :VmL).fs=L'.fs from rfl,S'.lf]
  have hop :opOkA (opA fs (topA (iterA fs i A))) (iterA fs i A).ss.length=true :=by
   simp only [goA,Bool.and_eq_true] at hgo
   exact hgo.1.2
  obtain ⟨o1,o2,o3,o4,o5⟩ :=opOkA_all hop
  have hw :=okA_words hok
  have m2 :=S'.moved_room hw
  obtain ⟨S2,_⟩ :=S'.moved (S'.words hw)
  have hsl :(iterA fs i A).ss.length≤600 :=by
   simp only [okA,Bool.and_eq_true,decide_eq_true_eq] at hok
   exact hok.1.1
  have y1 :=S'.heapy
  have y2 :=S2.heapy
  rw [e]
  refine ⟨⟨f,k,?_,?_,?_,?_⟩,?_,?_,?_,?_,⟨y1.zi,y1.zl,y1.h,y1.b,y1.n⟩,⟨y2.zi,y2.zl,y2.h,y2.b,y2.n⟩,?_⟩
  ·rw [et];exact t1
  ·show f < L'.fs.length
   rw [S'.lf];exact t2
  ·rw [et];exact t3
  ·show k < (L'.fs.getD f fn0).os.length
   rw [S'.lf];exact t4
  ·show 0 < L'.cs.length
   rw [S'.cs];exact hcl.1
  ·show L'.ss.length≤600
   rw [S'.ss.1];exact hsl
  ·show L'.cs.length≤120
   rw [S'.cs];exact hcl.2
  ·rw [et,eo];exact h2
  ·rw [et,eo]
   show roomOf (movedL L').zs (movedL L').h (movedL L').b (movedL L').n≤_
   have e3 :((mkA fs (iterA fs i A) :Nat) :Int)=(opA fs (topA (iterA fs i A))).m :=by unfold mkA;omega
   unfold roomOf
   split
   ·rw [m2];omega
   ·omega
end Go.Proofs.YtfmebaafpfkeiaaGreat
end
section
namespace Go.Proofs.YtfmebaafpfkeiaaGreat
open Go.RowKit Go.Ev
theorem halves_in {h :Int} (hh :h∈halves) : ∃half :Nat,h=half∧2≤half∧half≤3000∧half*2≤3000 :=by
 have :h=5∨h=12∨h=20∨h=30∨h=45∨h=80∨h=300∨h=1500 :=by simpa [halves] using hh
 exact ⟨h.toNat,by omega,by omega,by omega,by omega⟩
theorem specBuild_k (k :Nat) (hk :k < 7) (bs :ByteArray) (hs :bs.data.toList.map UInt8.toNat=srcs.getD k []) (w :World) :
  Calls Tryz.prog 12 #[.string bs] w fun e w'=> ∃fv,e= .returned (.tuple #[fv, .int .i64 0])∧Below w.heap.size w w' :=by
 obtain ⟨p,b,f,uP,uC,uG,H⟩ :=pipe_s k hk
 exact sBuild_any H bs hs w
theorem run_noroom (k :Nat) (hk :k < 7) (bs :ByteArray) (hs :bs.data.toList.map UInt8.toNat=srcs.getD k []) (half :Nat) (h1 :2≤half) (h2 :half≤3000) (each :Bool) (n :Int) : ∃M :VmL,(M.code=2→NoRoom M)∧
  ∀w :World,Calls Tryz.prog 11 #[.string bs, .int .i64 half, .bool each, .int .i64 n] w fun e w'=> ∃fv hv sv cv ov,e= .returned (.tuple #[vmV fv hv sv cv ov M, .int .i64 0])∧RdV w'.heap.size w' fv hv sv cv ov M∧Below w.heap.size w w' :=
 ⟨_,noroom (start_sim (pfs.getD k []) (show 1≤half by omega) h2 each) (tr_k k hk).1 (stepsOf n),fun w=> runOf_k k hk bs ⟨bs,rfl,hs⟩ half h1 h2 each n w⟩
end Go.Proofs.YtfmebaafpfkeiaaGreat
end
section
namespace Go.Proofs.YtfmebaafpfkeiaaGreat
open Go.RowKit
set_option maxHeartbeats 8000000 in
set_option maxRecDepth 100000 in
theorem walkFnNoRoom (w :World) (u0 :Value) (z0 :List Int) (r0 :Rd w.heap.size .u8 w u0 z0) (i0 :bytesIn z0) :
  Calls Tryz.prog 7 #[u0] w fun e w'=> e= .returned (.bool true)∧Below w.heap.size w w' :=by
 by_cases hbig :1048576 < z0.length
 ·have HB :=Lib.hid (big_any u0 z0 w r0)
  rw [decide_eq_true hbig] at HB
  obtain ⟨a0,c0,rfl⟩ :=r0.form
  clear r0 i0
  go_enter Tryz.func7,Tryz.ntmps7
  go_wp2_with fail
  refine HB.out.mono ?_
  rintro e w1 ⟨rfl,rfl⟩
  go_wp2
  go_ret
  exact ⟨rfl,Below.refl _ _⟩
 ·have HB :=Lib.hid (big_any u0 z0 w r0)
  rw [decide_eq_false hbig] at HB
  have HD :=Lib.hid (DrawRunning_any u0 z0 w r0 i0 (by omega))
  obtain ⟨a0,c0,rfl⟩ :=r0.form
  clear r0 i0
  go_enter Tryz.func7,Tryz.ntmps7
  go_wp2_with fail
  refine HB.out.mono ?_
  rintro e w1 ⟨rfl,rfl⟩
  clear HB hbig
  go_wp2_with fail
  refine HD.out.mono ?_
  rintro e w1 ⟨⟨x,k,h,b,st,rfl,hk,⟨bs,rfl,hbs⟩,hh,s0,s1⟩,bb⟩
  obtain ⟨half,rfl,hf1,hf2,_⟩ :=halves_in hh
  have HS :=Lib.hid (fun (W :World)=> specBuild_k k hk bs hbs W)
  obtain ⟨M,hN,hO⟩ :=run_noroom k hk bs hbs half hf1 hf2 b 60000
  have HO :=Lib.hid hO
  have HN :=Lib.hid hN
  clear HD hh hbs hN hO
  go_wp2_with fail
  refine (HO.out _).mono ?_
  rintro e w2 ⟨fv,hv,sv,cv,ov,rfl,rd,b2⟩
  obtain ⟨fa,fc,ha,hc,sa,sc,ca,cc,oa,oc,rfl,rfl,rfl,rfl,rfl⟩ :=rd.forms
  replace bb :=bb.trans (b2.mono bb.size)
  have RD :=Lib.hid rd
  clear rd b2 HO
  unfold vmV
  go_wp2_with fail
  generalize hxx :w2.alloc _=w3
  obtain ⟨b3,k7⟩ :=Bx.alloc hxx
  clear hxx
  have RD3 :=Lib.hid (RD.out.below' b3)
  replace bb :=bb.trans (b3.mono bb.size)
  have z3 :=b3.size
  clear RD b3
  refine (HS.out _).mono ?_
  rintro e w4 ⟨fv',rfl,b4⟩
  replace k7 :=k7.below b4 k7.1
  have RD4 :=Lib.hid (RD3.out.below' b4)
  replace bb :=bb.trans (b4.mono bb.size)
  clear RD3 b4 HS
  have q5 :=k7.2.1 8
  simp at q5
  by_cases hc2 :M.code=2
  ·have N :=HN.out hc2
   clear HN
   obtain ⟨⟨f,kk,n1,n2,n3,n4⟩,n5,n6,n7,n8,n9,n10,n11⟩ :=N
   have NH :=Lib.hid n9
   have NM :=Lib.hid n10
   have NR :=Lib.hid n11
   have NS :=Lib.hid n8
   clear n8 n9 n10 n11
   obtain ⟨i,hi⟩ : ∃i,M.cs.length-1=i :=⟨_,rfl⟩
   have hil :i < M.cs.length :=by omega
   have htop :topC M=M.cs[i] :=by unfold topC;rw [hi,List.getD_eq_getElem?_getD,List.getElem?_eq_getElem hil];rfl
   have e1 :IntKind.i64.wrap ((M.cs.length :Int)-1)=(i :Int) :=by rw [IntWalk.i64_in _ (by omega)];omega
   obtain ⟨cb,coff,ccap,hcv,hcb1,hcb2,hcb3,hcells⟩ :=RdE.at_ RD4.out.c hil
   cases hcv
   obtain ⟨tc,htc⟩ : ∃tc,topC M=tc :=⟨_,rfl⟩
   rw [htc] at n1 n3 NR NS
   rw [← htop,htc] at hcells
   obtain ⟨o,ho⟩ : ∃o,opL M tc=o :=⟨_,rfl⟩
   rw [ho] at NR NS
   have d0 :w4.cell? ⟨cb,coff+i*3,none⟩ =some (.int .i64 (f :Int)) :=by rw [← n1];exact hcells 0 (by decide)
   have d1 :w4.cell? ⟨cb,coff+i*3+1,none⟩ =some (.int .i64 (kk :Int)) :=by rw [← n3];exact hcells 1 (by decide)
   have d2 :w4.cell? ⟨cb,coff+i*3+2,none⟩ =some (.int .i64 tc.m) :=hcells 2 (by decide)
   have HO :=Lib.hid ho
   have HTC :=Lib.hid (And.intro n1 n3)
   have hil' :(i :Int) < (M.cs.length :Int) :=by omega
   clear htop hcells htc ho n1 n3 hi
   have ck7 :=k7.2.1
   have yk7 :=k7.1
   have zk7 :=k7.2.2
   go_wp2_with fail
   clear ck7 yk7 zk7
   generalize hxx :w4.alloc _=w5
   obtain ⟨b5,k11⟩ :=Bx.alloc hxx
   clear hxx d0 d1 d2
   replace k7 :=k7.below b5 k7.1
   have RD5 :=Lib.hid (RD4.out.below' b5)
   replace bb :=bb.trans (b5.mono bb.size)
   have z5 :=b5.size
   clear b5 RD4
   obtain ⟨fb,foff,fcap,lv,hfv,hfb0,hfb,_,_,cf1,ro⟩ :=RD5.out.f.at_ n2
   cases hfv
   rw [fs_getD n2] at n4
   obtain ⟨ob,ooff,ocap,hlv,hob0,hob,_,ocells⟩ :=RdE.at_ ro n4
   subst hlv
   obtain ⟨tn1,tn3⟩ :=HTC.out
   have hok :M.fs[f].os[kk]=o :=by
    rw [← HO.out]
    unfold opL
    rw [tn1,tn3,Int.toNat_natCast,Int.toNat_natCast,fs_getD n2,List.getD_eq_getElem?_getD,List.getElem?_eq_getElem n4];rfl
   rw [hok] at ocells
   have o0 :w5.cell? ⟨ob,ooff+kk*3,none⟩ =some (.int .i64 o.c) :=ocells 0 (by decide)
   have o1 :w5.cell? ⟨ob,ooff+kk*3+1,none⟩ =some (.int .i64 o.n) :=ocells 1 (by decide)
   have o2 :w5.cell? ⟨ob,ooff+kk*3+2,none⟩ =some (.int .i64 o.m) :=ocells 2 (by decide)
   have q0 :=k7.2.1 0
   have t0 :=k11.2.1 0
   have t1 :=k11.2.1 1
   simp at q0 t0 t1
   obtain ⟨ol,hol'⟩ : ∃ol,M.fs[f].os.length=ol :=⟨_,rfl⟩
   rw [hol'] at cf1 n4
   have n2' :(f :Int) < (M.fs.length :Int) :=by omega
   have n4' :(kk :Int) < (ol :Int) :=by omega
   refine wp_region_held_drew (S :=(fun w'=> w'.cell? ⟨w2.heap.size,0,none⟩ =some (.slice (some ⟨fb,foff,none⟩) M.fs.length fc)∧w'.cell? ⟨w4.heap.size,0,none⟩ =some (.int .i64 (f :Int))∧w'.cell? ⟨w4.heap.size,1,none⟩ =some (.int .i64 (kk :Int))∧w'.cell? ⟨fb,foff+f*2+1,none⟩ =some (.slice (some ⟨ob,ooff,none⟩) ol ocap)∧w'.cell? ⟨ob,ooff+kk*3,none⟩ =some (.int .i64 o.c)∧w'.cell? ⟨ob,ooff+kk*3+1,none⟩ =some (.int .i64 o.n)∧w'.cell? ⟨ob,ooff+kk*3+2,none⟩ =some (.int .i64 o.m))) (by kernel_rfl) (by first | (dsimp only;exact ⟨q0,t0,t1,cf1,o0,o1,o2⟩) | (exact ⟨q0,t0,t1,cf1,o0,o1,o2⟩)) (fun hHeld=> ?_)
   clear q0 t0 t1 cf1 o0 o1 o2 ocells ro
   refine tkH (i :=0) ?_
   refine tkH (i :=1) ?_
   refine tkH (i :=2) ?_
   refine tkH (i :=3) ?_
   refine tkH (i :=4) ?_
   refine tkH (i :=5) ?_
   refine tkH (i :=6) ?_
   refine tkH (i :=7) ?_
   refine tkH (i :=8) ?_
   refine tkH (i :=9) ?_
   refine tkH (i :=10) ?_
   generalize hxd :w5.drew=w6 at hHeld
   have hd :Below w5.heap.size w5 w6 :=by rw [← hxd];exact (Below.refl _ _).drew
   have RD6 :=Lib.hid (RD5.out.below' hd)
   replace k7 :=k7.below hd k7.1
   replace k11 :=k11.below hd k11.1
   replace bb :=bb.trans (hd.mono bb.size)
   have z6 :=hd.size
   have hb6 :=bb.size
   have hw4 :w4.heap.size < w6.heap.size :=k11.1
   have hw2 :w2.heap.size < w6.heap.size :=k7.1
   have hfb' :fb < w6.heap.size :=by omega
   have hob' :ob < w6.heap.size :=by omega
   clear hxd hd RD5
   refine rdH (i :=11) (fun K hK=> ?_)
   go_simp
   generalize hy :w6.alloc _=w7
   obtain ⟨b7,k12⟩ :=Bx.alloc hy
   clear hy
   refine bkH hK (by first | (dsimp only;exact ⟨(b7.cell hw2).trans hHeld.1,(b7.cell hw4).trans hHeld.2.1,(b7.cell hw4).trans hHeld.2.2.1,(b7.cell hfb').trans hHeld.2.2.2.1,(b7.cell hob').trans hHeld.2.2.2.2.1,(b7.cell hob').trans hHeld.2.2.2.2.2.1,(b7.cell hob').trans hHeld.2.2.2.2.2.2⟩) | (exact ⟨(b7.cell hw2).trans hHeld.1,(b7.cell hw4).trans hHeld.2.1,(b7.cell hw4).trans hHeld.2.2.1,(b7.cell hfb').trans hHeld.2.2.2.1,(b7.cell hob').trans hHeld.2.2.2.2.1,(b7.cell hob').trans hHeld.2.2.2.2.2.1,(b7.cell hob').trans hHeld.2.2.2.2.2.2⟩)) (fun hHeld=> ?_)
   clear hK K
   replace k7 :=k7.below b7 k7.1
   have RD7 :=Lib.hid (RD6.out.below' b7)
   replace bb :=bb.trans (b7.mono bb.size)
   have z7 :=b7.size
   have k12s :=((k12.set 0 (by simp) (.int .i64 o.c)).set 1 (by simp) (.int .i64 o.n)).set 2 (by simp) (.int .i64 o.m)
   have b8 :Below w6.heap.size w7 (((w7.setCell ⟨w6.heap.size,0,none⟩ (.int .i64 o.c)).setCell ⟨w6.heap.size,1,none⟩ (.int .i64 o.n)).setCell ⟨w6.heap.size,2,none⟩ (.int .i64 o.m)) :=
    (((Below.refl _ w7).setCell (p :=⟨w6.heap.size,0,none⟩) (Nat.le_refl _) _).setCell (p :=⟨w6.heap.size,1,none⟩) (Nat.le_refl _) _).setCell (p :=⟨w6.heap.size,2,none⟩) (Nat.le_refl _) _
   have ck12 :=k12.2.1
   have yk12 :=k12.1
   have zk12 :=k12.2.2
   refine rdH (i :=12) (fun K hK=> ?_)
   go_simp
   refine bkH hK (by first | (dsimp only;exact ⟨(b8.cell hw2).trans hHeld.1,(b8.cell hw4).trans hHeld.2.1,(b8.cell hw4).trans hHeld.2.2.1,(b8.cell hfb').trans hHeld.2.2.2.1,(b8.cell hob').trans hHeld.2.2.2.2.1,(b8.cell hob').trans hHeld.2.2.2.2.2.1,(b8.cell hob').trans hHeld.2.2.2.2.2.2⟩) | (exact ⟨(b8.cell hw2).trans hHeld.1,(b8.cell hw4).trans hHeld.2.1,(b8.cell hw4).trans hHeld.2.2.1,(b8.cell hfb').trans hHeld.2.2.2.1,(b8.cell hob').trans hHeld.2.2.2.2.1,(b8.cell hob').trans hHeld.2.2.2.2.2.1,(b8.cell hob').trans hHeld.2.2.2.2.2.2⟩)) (fun hHeld=> ?_)
   clear hK K
   refine wpAnyH_done (by kernel_rfl) ?_ _
   generalize hxx :World.setCell _ _ _=w8 at k12s b8 ⊢
   have k12' :Bx w8 w6.heap.size #[.int .i64 o.c, .int .i64 o.n, .int .i64 o.m] :=by simpa using k12s
   replace k7 :=k7.below b8 hw2
   have RD8 :=Lib.hid (RD7.out.below b8 (Nat.le_refl _))
   replace bb :=bb.trans (b8.mono hb6)
   have z8 :=b8.size
   clear hxx k12s b8 k12 ck12 yk12 zk12 hHeld RD7 k11 RD6 b7
   obtain ⟨zi,zl,zh,zb,zn⟩ :=NH.out
   have HC :=Lib.hid (iCollect_any _ _ M.zs M.ss M.h M.b M.n w8 RD8.out.z zi (by omega) RD8.out.s (by omega) (by omega) (by omega) (by omega))
   have ck7 :=k7.2.1
   have yk7 :=k7.1
   have zk7 :=k7.2.2
   go_wp2_with fail
   refine HC.out.mono ?_
   rintro e w9 ⟨⟨uv,qv,rfl,ou,oq,_⟩,b9⟩
   clear ck7 yk7 zk7
   obtain ⟨ua,uc,rfl⟩ :=own_form ou
   obtain ⟨qa,qc,rfl⟩ :=own_form oq
   have RU :=Lib.hid (Rd.of_own ou)
   obtain ⟨m1,m2,m3,m4,m5⟩ :=NM.out
   have nr :=NR.out
   obtain ⟨C,hC⟩ : ∃C,collectOf M.zs M.h M.b M.n M.ss=C :=⟨_,rfl⟩
   rw [show (movedL M).zs=C.ws by rw [← hC];rfl,show (movedL M).h=M.h from rfl,show (movedL M).b=C.base by rw [← hC];rfl,show (movedL M).n=C.next by rw [← hC];rfl] at nr
   rw [show (movedL M).zs=C.ws by rw [← hC];rfl] at m1 m2
   rw [show (movedL M).b=C.base by rw [← hC];rfl] at m4
   rw [show (movedL M).n=C.next by rw [← hC];rfl] at m5
   rw [hC] at RU ⊢
   clear hC HC NM NR NH m3 ou oq
   have k12n :=k12'.below b9 k12'.1
   replace k7 :=k7.below b9 k7.1
   replace bb :=bb.trans (b9.mono (by have :=bb.size;omega))
   have z9 :=b9.size
   clear b9 k12' RD8
   go_wp2_with fail
   generalize hxx :w9.alloc _=w10
   obtain ⟨b10,k13⟩ :=Bx.alloc hxx
   clear hxx
   have k12 :=k12n.below b10 k12n.1
   replace bb :=bb.trans (b10.mono bb.size)
   have RU1 :=Lib.hid (RU.out.below' b10)
   have z10 :=b10.size
   clear b10 k12n RU k7
   rcases NS.out with h5 | h5
   ·rw [h5] at k12
    refine wp_region_held_drew (S :=(fun w'=> (∀j,w'.cell? ⟨w6.heap.size,j,none⟩ = #[.int .i64 5, .int .i64 o.n, .int .i64 o.m][j]?)∧∀j,w'.cell? ⟨w9.heap.size,j,none⟩ = #[.slice ua C.ws.length uc, .int .i64 M.h, .int .i64 C.base, .int .i64 C.next][j]?)) (by kernel_rfl) (by first | (dsimp only;exact ⟨k12.2.1,k13.2.1⟩) | (exact ⟨k12.2.1,k13.2.1⟩)) (fun hHeld=> ?_)
    refine tkH (i :=0) ?_
    refine tkH (i :=1) ?_
    refine tkH (i :=2) ?_
    refine tkH (i :=3) ?_
    refine skH (i :=4) ?_
    refine skH (i :=5) ?_
    refine skH (i :=6) ?_
    refine tkH (i :=7) ?_
    refine tkH (i :=8) ?_
    refine tkH (i :=9) ?_
    refine tkH (i :=11) ?_
    refine tkH (i :=12) ?_
    generalize hxd :w10.drew=w11 at hHeld
    have hd :Below w10.heap.size w10 w11 :=by rw [← hxd];exact (Below.refl _ _).drew
    have k12d :=k12.below hd k12.1
    have k13d :=k13.below hd k13.1
    have bbd :=bb.trans (hd.mono bb.size)
    have RU2 :=RU1.out.below' hd
    clear hxd
    refine rdH (i :=10) (fun K hK=> ?_)
    go_simp
    refine (iRoom_any _ C.ws M.h C.base C.next w11 RU2 m1 (by omega) (by omega) (by omega) (by omega)).mono ?_
    rintro e w12 ⟨rfl,b12⟩
    refine bkH hK (by first | (dsimp only;exact ⟨(k12d.below b12 k12d.1).2.1,(k13d.below b12 k13d.1).2.1⟩) | (exact ⟨(k12d.below b12 k12d.1).2.1,(k13d.below b12 k13d.1).2.1⟩)) (fun hHeld=> ?_)
    clear hK K
    refine tkH (i :=13) ?_
    refine tkH (i :=14) ?_
    refine tkH (i :=15) ?_
    refine wpAnyH_done (by kernel_rfl) ?_ _
    have bbe :=bbd.trans (b12.mono bbd.size)
    go_wp2
    go_ret
    exact ⟨rfl,bbe⟩
   ·rw [h5] at k12
    refine wp_region_held_drew (S :=(fun w'=> (∀j,w'.cell? ⟨w6.heap.size,j,none⟩ = #[.int .i64 8, .int .i64 o.n, .int .i64 o.m][j]?)∧∀j,w'.cell? ⟨w9.heap.size,j,none⟩ = #[.slice ua C.ws.length uc, .int .i64 M.h, .int .i64 C.base, .int .i64 C.next][j]?)) (by kernel_rfl) (by first | (dsimp only;exact ⟨k12.2.1,k13.2.1⟩) | (exact ⟨k12.2.1,k13.2.1⟩)) (fun hHeld=> ?_)
    refine tkH (i :=0) ?_
    refine tkH (i :=1) ?_
    refine tkH (i :=2) ?_
    refine tkH (i :=3) ?_
    refine tkH (i :=4) ?_
    refine tkH (i :=5) ?_
    refine tkH (i :=6) ?_
    refine tkH (i :=7) ?_
    refine tkH (i :=8) ?_
    refine tkH (i :=9) ?_
    refine tkH (i :=11) ?_
    refine tkH (i :=12) ?_
    generalize hxd :w10.drew=w11 at hHeld
    have hd :Below w10.heap.size w10 w11 :=by rw [← hxd];exact (Below.refl _ _).drew
    have k12d :=k12.below hd k12.1
    have k13d :=k13.below hd k13.1
    have bbd :=bb.trans (hd.mono bb.size)
    have RU2 :=RU1.out.below' hd
    clear hxd
    refine rdH (i :=10) (fun K hK=> ?_)
    go_simp
    refine (iRoom_any _ C.ws M.h C.base C.next w11 RU2 m1 (by omega) (by omega) (by omega) (by omega)).mono ?_
    rintro e w12 ⟨rfl,b12⟩
    refine bkH hK (by first | (dsimp only;exact ⟨(k12d.below b12 k12d.1).2.1,(k13d.below b12 k13d.1).2.1⟩) | (exact ⟨(k12d.below b12 k12d.1).2.1,(k13d.below b12 k13d.1).2.1⟩)) (fun hHeld=> ?_)
    clear hK K
    refine tkH (i :=13) ?_
    refine tkH (i :=14) ?_
    refine tkH (i :=15) ?_
    refine wpAnyH_done (by kernel_rfl) ?_ _
    have bbe :=bbd.trans (b12.mono bbd.size)
    go_wp2
    go_ret
    exact ⟨rfl,bbe⟩
  ·clear HN
   have ck7 :=k7.2.1
   have yk7 :=k7.1
   have zk7 :=k7.2.2
   go_wp2
   go_ret
   exact ⟨rfl,bb⟩
end Go.Proofs.YtfmebaafpfkeiaaGreat
end
