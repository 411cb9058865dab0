/- Parts of the proof of FnEnds, FnMeant, FnMovedWhenever, FnSizes. -/
import Derived.Test.YtfmebaafpfkeiaaGreatY10
set_option linter.unusedVariables false
set_option linter.unusedSimpArgs false
set_option maxRecDepth 1000000
set_option maxHeartbeats 16000000
namespace Go.Ev
open Go Go.Proofs.Tryz
noncomputable def Db (cells:Nat→Nat→Nat→Option (List S)) (d k:Nat) (name:List Nat) (m:Nat):S→Bool
 | .l b o n sz _=>Nat.beq sz 3&& (Nat.ble (Nat.succ d) n&& (match cells b o (Nat.mul n 3)with
  |some l=>(match l[d*3]?,l[d*3+1]?,l[d*3+2]? with
   |some (.s _),some (.i _),some (.l b2 o2 n2 sz2 _)=>Nat.beq sz2 2&& ((Nat.ble (Nat.succ k) n2&& Nat.ble n2 1000)&& (match cells b2 o2 (Nat.mul n2 2)with
    |some l2=>(match l2[k*2]?,l2[k*2+1]? with
     |some (.s q),some (.l _ _ n3 _ _)=>decide (q=name)&& Nat.beq n3 m
     |some (.s q),some .l0=>decide (q=name)&& Nat.beq 0 m
     |_,_=>false)
    |none=>false))
   |_,_,_=>false)
  |none=>false))
 |_=>false
def XQ (m:Nat) (y:S):Prop:=(∃b o e f,y= .l b o m e f)∨(y= .l0∧m=0)
theorem OA {cells:Nat→Nat→Nat→Option (List S)}{d k:Nat}{name:List Nat}{m:Nat}{x:S}(h:Db cells d k name m x=true):
  ∃b o n fl l b2 o2 n2 fl2 l2 y nm vr,x= .l b o n 3 fl∧d < n∧cells b o (Nat.mul n 3)=some l∧(l[d*3]?=some (.s nm)∧l[d*3+1]?=some (.i vr))∧l[d*3+2]?=some (.l b2 o2 n2 2 fl2)∧(k < n2∧n2≤1000)∧cells b2 o2 (Nat.mul n2 2)=some l2∧l2[k*2]?=some (.s name)∧l2[k*2+1]?=some y∧XQ m y:=by
 cases x with
 |l b o n sz fl=>
  unfold Db at h;rw[Bool.and_eq_true,Bool.and_eq_true]at h;obtain⟨h1,h2,h3⟩:=h;have h1:=Nat.eq_of_beq_eq_true h1;have h2:=Nat.le_of_ble_eq_true h2;subst h1;split at h3
  ·rename_i l hl;split at h3
   ·rename_i nm vr b2 o2 n2 sz2 fl2 hq0 hq1 hq;rw[Bool.and_eq_true,Bool.and_eq_true]at h3;obtain⟨g1,g2,g3⟩:=h3;have g1:=Nat.eq_of_beq_eq_true g1;rw[Bool.and_eq_true]at g2;have g2:=And.intro (Nat.le_of_ble_eq_true g2.1) (Nat.le_of_ble_eq_true g2.2);subst g1;split at g3
    ·rename_i l2 hl2;split at g3
     ·rename_i q b3 o3 n3 e3 f3 r1 r2;rw[Bool.and_eq_true]at g3;obtain⟨k1,k2⟩:=g3;have k1:=of_decide_eq_true k1;have k2:=Nat.eq_of_beq_eq_true k2;subst k1 k2;exact⟨b,o,n,fl,l,b2,o2,n2,fl2,l2,_,nm,vr,rfl,h2,hl,⟨hq0,hq1⟩,hq,g2,hl2,r1,r2,.inl ⟨_,_,_,_,rfl⟩⟩
     ·rename_i q r1 r2;rw[Bool.and_eq_true]at g3;obtain⟨k1,k2⟩:=g3;have k1:=of_decide_eq_true k1;have k2:=Nat.eq_of_beq_eq_true k2;subst k1;exact⟨b,o,n,fl,l,b2,o2,n2,fl2,l2,_,nm,vr,rfl,h2,hl,⟨hq0,hq1⟩,hq,g2,hl2,r1,r2,.inr ⟨rfl,k2.symm⟩⟩
     ·cases g3
    ·cases g3
   ·cases h3
  ·cases h3
 |_=>cases h
noncomputable def IW (p:List S) (k:S→Bool):Bool:=match p with |l::q=>Nat.beq (Ad q) 5&& k l | []=>false
theorem GM {p:List S}{k:S→Bool}(h:IW p k=true):∃l q,p=l::q∧q.length=5∧k l=true:=by
 cases p with
 |nil=>cases h
 |cons l q=>
  obtain⟨h1,h2⟩:=(Bool.and_eq_true _ _).mp (show(Nat.beq (Ad q) 5&& k l)=true from h);exact⟨l,q,rfl,by rw[←AB];exact Nat.eq_of_beq_eq_true h1,h2⟩
noncomputable def Ky (src n0 n1:List Nat) (m0 m1:Nat):Bool:=Bz 13 [.c (.s src)] KS.zero fun v sP=>isP v fun p=>IW p fun l=>
 Db (Cj sP) 0 0 n0 m0 l&& Db (Cj sP) 0 1 n1 m1 l
structure PipeT (src n0 n1:List Nat) (m0 m1:Nat) (l:S) (q:List S) (uP:St):Prop where
 parse:Ent prog 13 [.c (.s src)] St.zero (.t [.a (l::q),.c (.i (-1))]) uP
 len:q.length=5
 c0:Db (cellsAt uP) 0 0 n0 m0 l=true
 c1:Db (cellsAt uP) 0 1 n1 m1 l=true
theorem IX {c c':Nat→Nat→Nat→Option (List S)}(hc:∀x o n l,c x o n=some l→c' x o n=some l) {d k:Nat}{name:List Nat}{m:Nat}{x:S}(h:Db c d k name m x=true):Db c' d k name m x=true:=by
 obtain⟨b,o,n,fl,l,b2,o2,n2,fl2,l2,y,nm,vr,rfl,h1,h2,⟨h30,h31⟩,h3,h4,h5,h6,h7,h8⟩:=OA h;unfold Db;rw[Bool.and_eq_true,Bool.and_eq_true];refine⟨rfl,Nat.ble_eq_true_of_le h1,?_⟩;simp only[hc _ _ _ _ h2,h30,h31,h3];rw[Bool.and_eq_true,Bool.and_eq_true];refine⟨rfl,by rw[Bool.and_eq_true];exact⟨Nat.ble_eq_true_of_le h4.1,Nat.ble_eq_true_of_le h4.2⟩,?_⟩;simp only[hc _ _ _ _ h5,h6,h7];rcases h8 with ⟨b3,o3,e3,f3,rfl⟩ |⟨rfl,rfl⟩
 ·simp
 ·simp
theorem XR {src n0 n1:List Nat}{m0 m1:Nat}(h:Ky src n0 n1 m0 m1=true):∃l q uP,PipeT src n0 n1 m0 m1 l q uP:=by
 obtain⟨v,sP,uP,a1,a2,a3⟩:=Cx _ _ _ _ _ Ef h;obtain⟨p,rfl,a4⟩:=Ee a3;obtain⟨l,q,rfl,a5,a6⟩:=GM a4;obtain⟨b1,b2⟩:=(Bool.and_eq_true _ _).mp a6;exact⟨l,q,uP,CO CQ a1,a5,IX (fun x o n l h=>a2.cells h) b1,IX (fun x o n l h=>a2.cells h) b2⟩
def GN (x:S):Bool:=match x with | .l _ _ _ _ _=>true | .l0=>true |_=>false
noncomputable def EN (src:List Nat):Bool:=Bz 13 [.c (.s src)] KS.zero fun v sP=>isP v fun p=>IW p GN
theorem XS {src:List Nat}(h:EN src=true):∃l q uP,Ent prog 13 [.c (.s src)] St.zero (.t [.a (l::q),.c (.i (-1))]) uP∧q.length=5∧GN l=true:=by
 obtain⟨v,sP,uP,a1,a2,a3⟩:=Cx _ _ _ _ _ Ef h;obtain⟨p,rfl,a4⟩:=Ee a3;obtain⟨l,q,rfl,a5,a6⟩:=GM a4;exact⟨l,q,uP,CO CQ a1,a5,a6⟩
end Go.Ev
