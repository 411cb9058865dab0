/- Parts of the proof of FnEnds, FnMeant. -/
import Derived.Test.YtfmebaafpfkeiaaGreatY34
set_option linter.unusedVariables false
set_option linter.unusedSimpArgs false
set_option maxRecDepth 1000000
set_option maxHeartbeats 16000000
namespace Go.Ev
open Go Go.Proofs.Tryz
inductive CE where
 |num (n:Int)
 |nul (s:List Nat)
 |one (s:List Nat) (t:CE)
noncomputable def Eg (cells:Nat→Nat→Nat→Option (List S)):CE→List S→Bool
 | .num m,[.i k,.i n,.s [],.l0]=>ieq k 1&& ieq n m
 | .nul s,[.i k,.i n,.s q,.l0]=>(ieq k 2&& ieq n 0)&& decide (q=s)
 | .one s t,[.i k,.i n,.s q,.l b o 1 4 _]=>((ieq k 2&& ieq n 0)&& decide (q=s))&& (match cells b o 4 with |some l=>Eg cells t l |none=>false)
 |_,_=>false
noncomputable def GO (cells:Nat→Nat→Nat→Option (List S)) (zs:List Int):S→Bool
 | .l0=>decide (zs=[])
 | .l b o n 1 _=>Nat.beq n (Ad zs)&& (Nat.ble 1 n&& (match cells b o n with |some l=>decide (l=zs.map S.i) |none=>false))
 |_=>false
def Kz (v:V) (k:List S→S→Bool):Bool:=match v with | .a [.i (.ofNat 0),a,b,c,d,o]=>k [a,b,c,d] o |_=>false
theorem OC {v:V}{k:List S→S→Bool}(h:Kz v k=true):∃a b c d o,v= .a [.i 0,a,b,c,d,o]∧k [a,b,c,d] o=true:=by
 unfold Kz at h;split at h
 ·exact⟨_,_,_,_,_,rfl,h⟩
 ·cases h
noncomputable def DP (src:List Nat) (t:CE) (zs:List Int):Bool:=Bz 13 [.c (.s src)] KS.zero fun v sP=>isP v fun p=>IW p fun l=>GN l&& Bz 18 [.a p,.c (.i 4000)] sP fun v sE=>CP sP sE sP.nb&& Kz v fun r o=>Eg (Cj sE) t r&& GO (Cj sE) zs o
structure PipeV (src:List Nat) (t:CE) (zs:List Int) (l:S) (q:List S) (r:List S) (o:S) (uP uE:St):Prop where
 parse:Ent prog 13 [.c (.s src)] St.zero (.t [.a (l::q),.c (.i (-1))]) uP
 len:q.length=5
 sl:GN l=true
 eval:Ent prog 18 [.a (l::q),.c (.i 4000)] uP (.a (.i 0::(r++ [o]))) uE
 rlen:r.length=4
 keep:∀x b,x < uP.nb→uP.h.get x=some b→uE.h.get x=some b
 val:Eg (cellsAt uE) t r=true
 out:GO (cellsAt uE) zs o=true
theorem OD {c c':Nat→Nat→Nat→Option (List S)}(hc:∀x o n l,c x o n=some l→c' x o n=some l):∀ (t:CE) (l:List S),Eg c t l=true→Eg c' t l=true:=by
 intro t;induction t with
 |num m=>
  intro l h
  match l,h with
  | [.i k,.i n,.s [],.l0],h=>exact h
 |nul s=>
  intro l h
  match l,h with
  | [.i k,.i n,.s q,.l0],h=>exact h
 |one s t ih=>
  intro l h
  match l,h with
  | [.i k,.i n,.s q,.l b o 1 4 f],h=>
   have h':(((ieq k 2&& ieq n 0)&& decide (q=s))&& (match c b o 4 with |some l=>Eg c t l |none=>false))=true:=h;rw[Bool.and_eq_true]at h'
   show(((ieq k 2&& ieq n 0)&& decide (q=s))&& (match c' b o 4 with |some l=>Eg c' t l |none=>false))=true
   rw[Bool.and_eq_true];refine⟨h'.1,?_⟩;have h2:=h'.2;cases hl:c b o 4 with
   |none=>rw[hl]at h2;cases h2
   |some l'=>rw[hl]at h2;rw[hc _ _ _ _ hl];exact ih _ h2
theorem OE {c c':Nat→Nat→Nat→Option (List S)}(hc:∀x o n l,c x o n=some l→c' x o n=some l) {zs:List Int}{x:S}(h:GO c zs x=true):GO c' zs x=true:=by
 match x,h with
 | .l0,h=>exact h
 | .l b o n 1 f,h=>
  have h':(Nat.beq n (Ad zs)&& (Nat.ble 1 n&& (match c b o n with |some l=>decide (l=zs.map S.i) |none=>false)))=true:=h;rw[Bool.and_eq_true,Bool.and_eq_true]at h'
  show(Nat.beq n (Ad zs)&& (Nat.ble 1 n&& (match c' b o n with |some l=>decide (l=zs.map S.i) |none=>false)))=true
  rw[Bool.and_eq_true,Bool.and_eq_true];refine⟨h'.1,h'.2.1,?_⟩;have h2:=h'.2.2;cases hl:c b o n with
  |none=>rw[hl]at h2;cases h2
  |some l'=>rw[hl]at h2;rw[hc _ _ _ _ hl];exact h2
theorem XZ {src:List Nat}{t:CE}{zs:List Int}(h:DP src t zs=true):∃l q r o uP uE,PipeV src t zs l q r o uP uE:=by
 obtain⟨v,sP,uP,a1,a2,a3⟩:=Cx _ _ _ _ _ Ef h;obtain⟨p,rfl,a4⟩:=Ee a3;obtain⟨l,q,rfl,a5,a6⟩:=GM a4;obtain⟨a7,a8⟩:=(Bool.and_eq_true _ _).mp a6;obtain⟨v,sE,uE,b1,b2,b3⟩:=Cx _ _ _ _ _ a2 a8;obtain⟨b0,b3⟩:=(Bool.and_eq_true _ _).mp b3;obtain⟨a,b,c,d,o,rfl,b4⟩:=OC b3;obtain⟨b5,b6⟩:=(Bool.and_eq_true _ _).mp b4;exact⟨l,q,[a,b,c,d],o,uP,uE,CO CQ a1,a5,a7,CO CQ b1,rfl,(fun x b hx hb=>by rw[←IU a2 b2 b0 x (by rw[←a2.nb];exact hx)];exact hb),OD (fun x o n l h=>b2.cells h) _ _ b5,OE (fun x o n l h=>b2.cells h) b6⟩
theorem X0 {src n0 n1:List Nat}{m0 m1:Nat}{t:CE}{zs:List Int}(h0:Ky src n0 n1 m0 m1=true) (h:DP src t zs=true):∃l q r o uP uE,PipeV src t zs l q r o uP uE∧PipeT src n0 n1 m0 m1 l q uP:=by
 obtain⟨v0,sP0,uP0,c1,c2,c3⟩:=Cx _ _ _ _ _ Ef h0;obtain⟨v,sP,uP,a1,a2,a3⟩:=Cx _ _ _ _ _ Ef h;rw[c1]at a1;simp only[Option.some.injEq,Prod.mk.injEq]at a1;obtain⟨rfl,rfl⟩:=a1;obtain⟨p0,rfl,c4⟩:=Ee c3;obtain⟨l9,q9,rfl,c5,c6⟩:=GM c4;obtain⟨c7,c8⟩:=(Bool.and_eq_true _ _).mp c6;obtain⟨p,hp,a4⟩:=Ee a3;obtain⟨l,q,rfl,a5,a6⟩:=GM a4;simp only[V.t.injEq,List.cons.injEq,V.a.injEq,and_true]at hp;obtain⟨rfl,rfl⟩:=hp;obtain⟨a7,a8⟩:=(Bool.and_eq_true _ _).mp a6;obtain⟨v,sE,uE,b1,b2,b3⟩:=Cx _ _ _ _ _ a2 a8;obtain⟨b0,b3⟩:=(Bool.and_eq_true _ _).mp b3;obtain⟨a,b,c,d,o,rfl,b4⟩:=OC b3;obtain⟨b5,b6⟩:=(Bool.and_eq_true _ _).mp b4;exact⟨_,_,[a,b,c,d],o,uP0,uE,⟨CO CQ c1,a5,a7,CO CQ b1,rfl,(fun x b hx hb=>by rw[←IU a2 b2 b0 x (by rw[←a2.nb];exact hx)];exact hb),OD (fun x o n l h=>b2.cells h) _ _ b5,OE (fun x o n l h=>b2.cells h) b6⟩,
  ⟨CO CQ c1,c5,IX (fun x o n l h=>c2.cells h) c7,IX (fun x o n l h=>c2.cells h) c8⟩⟩
end Go.Ev
