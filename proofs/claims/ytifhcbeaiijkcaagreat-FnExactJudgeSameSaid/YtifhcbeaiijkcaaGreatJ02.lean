/- Parts of the proof of FnExactJudgeSame. -/
import Derived.Test.YtifhcbeaiijkcaaGreatRows
import Derived.Test.YtifhcbeaiijkcaaGreatJ01
set_option linter.unusedVariables false
set_option linter.unusedSimpArgs false
set_option maxRecDepth 1000000
set_option maxHeartbeats 16000000
section
namespace Go.Proofs.YtifhcbeaiijkcaaGreat
open Go.RowKit
open _root_.Go.World renaming alloc→Wa,setCell→Ws
open _root_.Go.Proofs.Tryz renaming prog→Pq
theorem A8 (n lo hi:Int) (w:World):
  Calls Pq 77 #[.int .i64 n,.int .i64 lo,.int .i64 hi] w fun e w'=>e= .returned (.bool (inB n lo hi))∧w=w':=by
 go_enter Tryz.func77,Tryz.ntmps77;go_wp2
 all_goals go_ret
 all_goals exact⟨Ac (by unfold inB;rw[Ds];simp;try omega),rfl⟩
theorem AZ (n lo hi:Int) (w:World):
  Calls Pq 65 #[.int .i64 n,.int .i64 lo,.int .i64 hi] w fun e w'=>e= .returned (.bool (inB n lo hi))∧w=w':=by
 go_enter Tryz.func65,Tryz.ntmps65;go_wp2
 all_goals go_ret
 all_goals exact⟨Ac (by unfold inB;rw[Ds];simp;try omega),rfl⟩
theorem DP (n:Int) (w:World):
  Calls Pq 81 #[.int .i64 n] w fun e w'=>e= .returned (.bool (AU n))∧w=w':=by
 go_enter Tryz.func81,Tryz.ntmps81;go_wp2_with (go_at_call 77;refine(A8 _ _ _ _).mono ?_;rintro e w' ⟨rfl,rfl⟩);go_ret;exact⟨rfl,rfl⟩
theorem Dd (n:Int) (w:World):
  Calls Pq 68 #[.int .i64 n] w fun e w'=>e= .returned (.bool (AU n))∧w=w':=by
 go_enter Tryz.func68,Tryz.ntmps68;go_wp2_with (go_at_call 65;refine(AZ _ _ _ _).mono ?_;rintro e w' ⟨rfl,rfl⟩);go_ret;exact⟨rfl,rfl⟩
theorem DQ (n:Int) (w:World):
  Calls Pq 186 #[.int .i64 n] w fun e w'=>e= .returned (.bool (n%2==0))∧w=w':=by
 go_enter Tryz.func186,Tryz.ntmps186;go_wp2;go_ret;exact⟨rfl,rfl⟩
theorem Fv (n:Int) (w:World):
  Calls Pq 187 #[.int .i64 n] w fun e w'=>e= .returned (.int .i64 (n/2))∧w=w':=by
 go_enter Tryz.func187,Tryz.ntmps187;go_wp2;go_ret;exact⟨rfl,rfl⟩
theorem Nh (n:Int) (w:World):
  Calls Pq 189 #[.int .i64 n] w fun e w'=>e= .returned (.int .i64 (n/2))∧w=w':=by
 go_enter Tryz.func189,Tryz.ntmps189;go_wp2;go_ret;exact⟨rfl,rfl⟩
theorem Eo (n:Int) (w:World):
  Calls Pq 130 #[.int .i64 n] w fun e w'=>e= .returned (.bool (n%2==0))∧w=w':=by
 go_enter Tryz.func130,Tryz.ntmps130;go_wp2;go_ret;exact⟨rfl,rfl⟩
theorem Ni (n:Int) (w:World):
  Calls Pq 133 #[.int .i64 n] w fun e w'=>e= .returned (.int .i64 (n/2))∧w=w':=by
 go_enter Tryz.func133,Tryz.ntmps133;go_wp2;go_ret;exact⟨rfl,rfl⟩
theorem JP (n:Int) (w:World):
  Calls Pq 132 #[.int .i64 n] w fun e w'=>e= .returned (.int .i64 (n/2))∧w=w':=by
 go_enter Tryz.func132,Tryz.ntmps132;go_wp2;go_ret;exact⟨rfl,rfl⟩
theorem GD (s:Str):(BI s).length=s.size:=by
 simp[BI]
theorem Jy {s:Str}{k:Nat}(h:k < s.size):(BI s)[k]'(by rw[GD];exact h)=s[k].toNat:=by
 simp[BI];rfl
theorem Mu {a b:Str}(h:BI a=BI b):a=b:=by
 obtain⟨⟨la⟩⟩:=a;obtain⟨⟨lb⟩⟩:=b;unfold BI at h;have:=(List.map_inj_right (f:=UInt8.toNat) (fun x y e=>UInt8.toNat.inj e)).1 h;simp at this;rw[this]
theorem E7 (first:Nat→Bool) (s:Str):DC first s= (decide (1≤s.size∧s.size≤8)&& (first ((BI s).getD 0 0)&& (BI s).all A9)):=by
 have h:=GD s;unfold DC;cases hc:BI s with
 |nil=>
  rw[hc]at h;simp at h;simp[←h]
 |cons c cs=>
  rw[hc]at h;simp only[List.length_cons]at h;simp only[←h,List.getD_cons_zero]
  congr 1
  simp
theorem Jz {s:Str}{k:Nat}(h:k < s.size) (hl:A9 s[k].toNat=false):(BI s).all A9=false:=by
 rw[Ec];refine⟨_,An (by rw[GD];exact h),?_⟩;rw[Jy h,hl];simp
theorem JA {s:Str}(h:∀j (hj:j < s.size),A9 s[j].toNat=true):(BI s).all A9=true:=by
 rw[BA];intro x hx;obtain⟨j,hj,rfl⟩:=DG hx;rw[GD]at hj;rw[Jy hj];exact h j hj
def Ih (w:World) (b off:Nat) (zs:List Str):Prop:=∀j (h:j < zs.length),w.cell? ⟨b,off+j,none⟩=some (.string zs[j])
def kwS:List Str:=[⟨#[100,97,116,97]⟩,⟨#[108,101,116]⟩,⟨#[114,101,99]⟩,⟨#[105,110]⟩,⟨#[102,117,110]⟩,⟨#[99,97,115,101]⟩,⟨#[111,102]⟩,⟨#[105,102]⟩,⟨#[116,104,101,110]⟩,⟨#[101,108,115,101]⟩,⟨#[112,117,116]⟩]
def inS (zs:List Str) (s:Str):Bool:=zs.any fun z=>decide (z=s)
theorem Mq {zs:List Str}{s:Str}{k:Nat}(h:k < zs.length) (e:zs[k]=s):inS zs s=true:=by
 unfold inS;rw[Kc];exact⟨_,An h,by simp[e]⟩
theorem Mr {zs:List Str}{s:Str}(h:∀j (h:j < zs.length),zs[j]≠s):inS zs s=false:=by
 unfold inS;rw[List.any_eq_false];intro x hx;obtain⟨j,hj,rfl⟩:=DG hx;simp[h j hj]
theorem Ms (s:Str):inS kwS s=kws.contains (BI s):=by
 have h:kws=kwS.map BI:=by rfl
 rw[h,Ds,List.contains_iff_mem,Gc];unfold inS;rw[Kc];constructor
 ·rintro⟨a,ha,e⟩;exact⟨a,ha,by rw[of_decide_eq_true e]⟩
 ·rintro⟨a,ha,e⟩;exact⟨a,ha,by rw[Mu e];simp⟩
theorem FT (a b:Str):(a.toList==b.toList)=decide (a=b):=by
 by_cases h:a=b
 ·subst h;simp
 ·rw[AF h,Kj];intro e;rw[ByteArray.toList_eq,ByteArray.toList_eq]at e;apply h;obtain⟨⟨la⟩⟩:=a;obtain⟨⟨lb⟩⟩:=b;simp at e;rw[e]
theorem Dz {a b:Str}(h:a=b):(a.toList==b.toList)=true:=by rw[FT];exact Ax h
theorem Em {a b:Str}(h:a≠b):(a.toList==b.toList)=false:=by rw[FT];exact AF h
theorem Rj (zs:List Str) (b off cap:Nat) (s:Str) (w:World) (hl:zs.length≤1048576) (hc:Ih w b off zs):Calls Pq 240 #[.slice (some ⟨b,off,none⟩) zs.length cap,.string s] w fun e w'=>e= .returned (.bool (inS zs s))∧w'=w:=by
 go_enter Tryz.func240,Tryz.ntmps240;go_wp2
 go_loop [5] (fun i=>∃k:Nat,k≤zs.length∧i= .int .i64 k∧Hid (∀j (h:j < zs.length),j < k→zs[j]≠s)) (fun i=>zs.length - (intOf i).toNat)
 case atStart=>exact⟨0,Ao _,rfl,Aa (fun j h hk=>absurd hk (Aw j))⟩
 case round=>
  obtain⟨k,hk,rfl,hd⟩:=hrel;by_cases hlt:k < zs.length
  ·have c1:=hc k hlt;have hki:(k:Int) < (zs.length:Int):=by omega
   by_cases he:zs[k]=s
   ·have he':=Aa he;have hq:=Dz he;clear he;go_wp2;go_ret;exact⟨Ac (Mq hlt he'.out).symm,rfl⟩
   ·have he':=Aa he;have hq:=Em he;clear he;go_wp2
    go_round
    case rel=>exact⟨k+1,hlt,by go_num,Aa (fun j h hj=>by
     by_cases e:j=k
     ·subst e;exact he'.out
     ·exact hd.out j h (by omega))⟩
    case measure=>simp[intOf];omega
  ·obtain rfl:k=zs.length:=by omega
   go_wp2;go_ret;exact⟨Ac (Mr (fun j hj=>hd.out j hj hj)).symm,rfl⟩
theorem Rk (zs:List Str) (b off cap:Nat) (s:Str) (w:World) (hl:zs.length≤1048576) (hc:Ih w b off zs):Calls Pq 211 #[.slice (some ⟨b,off,none⟩) zs.length cap,.string s] w fun e w'=>(∃r:Int,e= .returned (.int .i64 r)∧(0≤r↔inS zs s=true))∧w'=w:=by
 go_enter Tryz.func211,Tryz.ntmps211;go_wp2
 go_loop [5,8] (fun _ i=>∃k:Nat,k≤zs.length∧i= .int .i64 k∧Hid (∀j (h:j < zs.length),j < k→zs[j]≠s)) (fun _ i=>zs.length - (intOf i).toNat)
 case atStart=>exact⟨0,Ao _,rfl,Aa (fun j h hk=>absurd hk (Aw j))⟩
 case round=>
  obtain⟨k,hk,rfl,hd⟩:=hrel;by_cases hlt:k < zs.length
  ·have c1:=hc k hlt;have hki:(k:Int) < (zs.length:Int):=by omega
   by_cases he:zs[k]=s
   ·have he':=Aa he;have hq:=Dz he.symm;clear he;go_wp2;go_ret;exact⟨⟨k,rfl,by rw[Mq hlt he'.out];simp⟩,rfl⟩
   ·have he':=Aa he;have hq:=Em (fun h=>he (Eq.symm h));clear he;go_wp2
    go_round
    case rel=>exact⟨k+1,hlt,by go_num,Aa (fun j h hj=>by
     by_cases e:j=k
     ·subst e;exact he'.out
     ·exact hd.out j h (by omega))⟩
    case measure=>simp[intOf];omega
  ·obtain rfl:k=zs.length:=by omega
   go_wp2;go_ret;exact⟨⟨-1,rfl,by rw[Mr (fun j hj=>hd.out j hj hj)];simp⟩,rfl⟩
theorem Mt (zs:List Str) (b off cap:Nat) (s:Str) (w:World) (hl:zs.length≤1048576) (hc:Ih w b off zs):Calls Pq 163 #[.slice (some ⟨b,off,none⟩) zs.length cap,.string s] w fun e w'=>e= .returned (.bool (inS zs s))∧w'=w:=by
 go_enter Tryz.func163,Tryz.ntmps163;go_wp2_with fail;refine(Rk zs b off cap s w hl hc).mono ?_;rintro e w' ⟨⟨r,rfl,hr⟩,rfl⟩;have HR:=Aa hr;clear hr;go_wp2
 all_goals go_ret
 all_goals exact⟨Ac (by have:=HR.out;rw[Ds];simp only[Du];exact this),rfl⟩
theorem Rl (s:Str) (w:World):Calls Pq 215 #[.string s] w fun e w'=>e= .returned (.bool (kws.contains (BI s)))∧Below w.heap.size w w':=by
 have HK:=Aa (Ms s);go_enter Tryz.func215,Tryz.ntmps215;go_wp2_with fail;generalize hx:w.alloc _=x;obtain⟨bb,k1⟩:=Bx.alloc hx;clear hx;refine(Rj kwS w.heap.size 0 11 s x (by decide) (fun j h=> ?_)).mono ?_
 ·have:=k1.2.1 j;rw[BS,this]
  match j,h with
  |0,_=>rfl
  |1,_=>rfl
  |2,_=>rfl
  |3,_=>rfl
  |4,_=>rfl
  |5,_=>rfl
  |6,_=>rfl
  |7,_=>rfl
  |8,_=>rfl
  |9,_=>rfl
  |10,_=>rfl
 rintro e w' ⟨rfl,rfl⟩;go_wp2;go_ret;exact⟨Ac HK.out,bb⟩
theorem Rm (s:Str) (w:World):Calls Pq 205 #[.string s] w fun e w'=>e= .returned (.bool (kws.contains (BI s)))∧Below w.heap.size w w':=by
 have HK:=Aa (Ms s);go_enter Tryz.func205,Tryz.ntmps205;go_wp2_with fail;generalize hx:w.alloc _=x;obtain⟨bb,k1⟩:=Bx.alloc hx;clear hx;refine(Mt kwS w.heap.size 0 11 s x (by decide) (fun j h=> ?_)).mono ?_
 ·have:=k1.2.1 j;rw[BS,this]
  match j,h with
  |0,_=>rfl
  |1,_=>rfl
  |2,_=>rfl
  |3,_=>rfl
  |4,_=>rfl
  |5,_=>rfl
  |6,_=>rfl
  |7,_=>rfl
  |8,_=>rfl
  |9,_=>rfl
  |10,_=>rfl
 rintro e w' ⟨rfl,rfl⟩;go_wp2;go_ret;exact⟨Ac HK.out,bb⟩
theorem Rn (s:Str) (k:Nat) (h:k < s.size) (hl:A9 s[k].toNat=false):BJ s=false:=by
 unfold BJ;rw[E7,Jz h hl];simp
theorem Ro (s:Str) (k:Nat) (h:k < s.size) (hl:A9 s[k].toNat=false):Bg s=false:=by
 unfold Bg;rw[E7,Jz h hl];simp
theorem Ii {s:Str}(h:0 < s.size):(BI s).getD 0 0=s[0].toNat:=by
 rw[List.getD_eq_getElem?_getD,Ay (by rw[GD];exact h),Option.getD_some,Jy h]
theorem Rp {s:Str}(h:∀j (hj:j < s.size),A9 s[j].toNat=true) (h0:0 < s.size) (h8:s.size≤8):BJ s= (Cu s[0].toNat&& !(kws.contains (BI s))):=by
 unfold BJ;rw[E7,JA h,Ii h0,Ax (⟨h0,h8⟩:1≤s.size∧s.size≤8)];simp
theorem Rq {s:Str}(h:¬(1≤s.size∧s.size≤8)):BJ s=false:=by
 unfold BJ;rw[E7,AF h];simp
theorem Mv (s:Str):Bg s= (DC Cv s&& !(decide (s.toList=[73,110,116]))):=by
 unfold Bg;have:(BI s==[73,110,116])=decide (s.toList=[73,110,116]):=by
  rw[Ds,beq_iff_eq,Du];have h3:(⟨#[73,110,116]⟩:Str).toList=[73,110,116]:=by rw[ByteArray.toList_eq]
  rw[←h3];exact⟨fun e=>by rw[Mu (b:=⟨#[73,110,116]⟩) e],fun e=>by
   have:=FT s ⟨#[73,110,116]⟩;rw[e]at this;rw[of_decide_eq_true (this.symm.trans (by simp))];rfl⟩
 rw[this]
theorem Rr {s:Str}(h:∀j (hj:j < s.size),A9 s[j].toNat=true) (h0:0 < s.size) (h8:s.size≤8):Bg s= (Cv s[0].toNat&& !(decide (s.toList=[73,110,116]))):=by
 rw[Mv,E7,JA h,Ii h0,Ax (⟨h0,h8⟩:1≤s.size∧s.size≤8)];simp
theorem Rt {s:Str}(h:¬(1≤s.size∧s.size≤8)):Bg s=false:=by
 unfold Bg;rw[E7,AF h];simp
theorem FU (s:Str) (w:World) (hs:s.size≤1048576):Calls Pq 173 #[.string s] w fun e w'=>e= .returned (.bool (BJ s))∧Below w.heap.size w w':=by
 have HP:=Aa (Rn s);have HY:=Aa (@Rp s);have HZ:=Aa (@Rq s);generalize BJ s=np at*;go_enter Tryz.func173,Tryz.ntmps173;go_wp2
 go_loop [3] (fun i=>∃k:Nat,k≤s.size∧i= .int .i64 k∧Hid (∀j (h:j < s.size),j < k→A9 s[j].toNat=true)) (fun i=>s.size - (intOf i).toNat)
 case atStart=>exact⟨0,Ao _,rfl,Aa (fun j h hk=>absurd hk (Aw j))⟩
 case round=>
  obtain⟨k,hk,rfl,hd⟩:=hrel;by_cases hlt:k < s.size
  ·have hki:(k:Int) < (s.size:Int):=by omega
   go_wp2_with fail;refine(IZ s[k].toNat _).mono ?_;rintro e w1 ⟨rfl,rfl⟩;cases h1:Cu s[k].toNat with
   |true=>
    have hl:=Aa (show A9 s[k].toNat=true by unfold A9;rw[h1];rfl);clear h1;go_wp2
    go_round
    case rel=>exact⟨k+1,hlt,by go_num,Aa (fun j h hj=>by
     by_cases e:j=k
     ·subst e;exact hl.out
     ·exact hd.out j h (by omega))⟩
    case measure=>simp[intOf];omega
   |false=>
    have h1':=Aa h1;clear h1;go_wp2_with fail;refine(I1 s[k].toNat _).mono ?_;rintro e w1 ⟨rfl,rfl⟩;cases h2:Cv s[k].toNat with
    |true=>
     have hl:=Aa (show A9 s[k].toNat=true by unfold A9;rw[h2];simp);clear h2;go_wp2
     go_round
     case rel=>exact⟨k+1,hlt,by go_num,Aa (fun j h hj=>by
      by_cases e:j=k
      ·subst e;exact hl.out
      ·exact hd.out j h (by omega))⟩
     case measure=>simp[intOf];omega
    |false=>
     have hl:=Aa (HP.out k hlt (show A9 s[k].toNat=false by unfold A9;rw[h1'.out,h2];rfl));clear h2;go_wp2;go_ret;exact⟨Ac hl.out.symm,Ab _ _⟩
  ·obtain rfl:k=s.size:=by omega
   by_cases h8:1≤s.size∧s.size≤8
   ·have hy:=HY.out (fun j hj=>hd.out j hj hj) (by omega) h8.2;have hy:=Aa hy;have h0:0 < s.size:=by omega
    have hi:=AZ s.size 1 8 w;rw[show inB (s.size:Int) 1 8=true by simp[inB];omega]at hi;go_wp2_with fail;refine hi.mono ?_;rintro e w1 ⟨rfl,rfl⟩;go_wp2_with fail;refine(IZ s[0].toNat _).mono ?_;rintro e w1 ⟨rfl,rfl⟩;cases h1:Cu s[0].toNat with
    |true=>
     rw[h1]at hy;clear h1;go_wp2_with fail;refine(Rl s _).mono ?_;rintro e w2 ⟨rfl,b2⟩;go_wp2;go_ret;exact⟨Ac (by rw[hy.out];simp),b2⟩
    |false=>
     rw[h1]at hy;clear h1;go_wp2;go_ret;exact⟨Ac (by rw[hy.out];simp),Ab _ _⟩
   ·have hz:=Aa (HZ.out h8);have hi:=AZ s.size 1 8 w;rw[show inB (s.size:Int) 1 8=false by simp[inB];omega]at hi;go_wp2_with fail;refine hi.mono ?_;rintro e w1 ⟨rfl,rfl⟩;go_wp2;go_ret;exact⟨Ac hz.out.symm,Ab _ _⟩
theorem GE (s:Str) (w:World) (hs:s.size≤1048576):Calls Pq 110 #[.string s] w fun e w'=>e= .returned (.bool (Bg s))∧Below w.heap.size w w':=by
 have HP:=Aa (Ro s);have HY:=Aa (@Rr s);have HZ:=Aa (@Rt s);generalize Bg s=np at*;go_enter Tryz.func110,Tryz.ntmps110;go_wp2
 go_loop [3] (fun i=>∃k:Nat,k≤s.size∧i= .int .i64 k∧Hid (∀j (h:j < s.size),j < k→A9 s[j].toNat=true)) (fun i=>s.size - (intOf i).toNat)
 case atStart=>exact⟨0,Ao _,rfl,Aa (fun j h hk=>absurd hk (Aw j))⟩
 case round=>
  obtain⟨k,hk,rfl,hd⟩:=hrel;by_cases hlt:k < s.size
  ·have hki:(k:Int) < (s.size:Int):=by omega
   go_wp2_with fail;refine(IZ s[k].toNat _).mono ?_;rintro e w1 ⟨rfl,rfl⟩;cases h1:Cu s[k].toNat with
   |true=>
    have hl:=Aa (show A9 s[k].toNat=true by unfold A9;rw[h1];rfl);clear h1;go_wp2
    go_round
    case rel=>exact⟨k+1,hlt,by go_num,Aa (fun j h hj=>by
     by_cases e:j=k
     ·subst e;exact hl.out
     ·exact hd.out j h (by omega))⟩
    case measure=>simp[intOf];omega
   |false=>
    have h1':=Aa h1;clear h1;go_wp2_with fail;refine(I1 s[k].toNat _).mono ?_;rintro e w1 ⟨rfl,rfl⟩;cases h2:Cv s[k].toNat with
    |true=>
     have hl:=Aa (show A9 s[k].toNat=true by unfold A9;rw[h2];simp);clear h2;go_wp2
     go_round
     case rel=>exact⟨k+1,hlt,by go_num,Aa (fun j h hj=>by
      by_cases e:j=k
      ·subst e;exact hl.out
      ·exact hd.out j h (by omega))⟩
     case measure=>simp[intOf];omega
    |false=>
     have hl:=Aa (HP.out k hlt (show A9 s[k].toNat=false by unfold A9;rw[h1'.out,h2];rfl));clear h2;go_wp2;go_ret;exact⟨Ac hl.out.symm,Ab _ _⟩
  ·obtain rfl:k=s.size:=by omega
   by_cases h8:1≤s.size∧s.size≤8
   ·have hy:=HY.out (fun j hj=>hd.out j hj hj) (by omega) h8.2;have hy:=Aa hy;have h0:0 < s.size:=by omega
    have hi:=AZ s.size 1 8 w;rw[show inB (s.size:Int) 1 8=true by simp[inB];omega]at hi;go_wp2_with fail;refine hi.mono ?_;rintro e w1 ⟨rfl,rfl⟩;go_wp2_with fail;refine(I1 s[0].toNat _).mono ?_;rintro e w1 ⟨rfl,rfl⟩;cases h1:Cv s[0].toNat with
    |true=>
     rw[h1]at hy;clear h1;by_cases h2:s.toList=[73,110,116]
     ·rw[Ax h2]at hy;go_wp2;go_ret;exact⟨Ac (by rw[hy.out];simp[h2]),Ab _ _⟩
     ·rw[AF h2]at hy;go_wp2;go_ret;exact⟨Ac (by rw[hy.out];simp[h2]),Ab _ _⟩
    |false=>
     rw[h1]at hy;clear h1;go_wp2;go_ret;exact⟨Ac (by rw[hy.out];simp),Ab _ _⟩
   ·have hz:=Aa (HZ.out h8);have hi:=AZ s.size 1 8 w;rw[show inB (s.size:Int) 1 8=false by simp[inB];omega]at hi;go_wp2_with fail;refine hi.mono ?_;rintro e w1 ⟨rfl,rfl⟩;go_wp2;go_ret;exact⟨Ac hz.out.symm,Ab _ _⟩
def Fu (s:Str) (r:Nat):Prop:=r=s.size↔ (BI s).all A9=true
theorem Rg (s:Str) (k:Nat) (hk:k≤s.size) (h:∀j (hj:j < s.size),j < k→A9 s[j].toNat=true) (he:k=s.size∨ ∃hk:k < s.size,A9 s[k].toNat=false):Fu s k:=by
 unfold Fu;rcases he with e |⟨h1,h2⟩
 ·subst e;simp only[true_iff];exact JA fun j hj=>h j hj hj
 ·rw[Jz h1 h2];simp;omega
theorem Mp (s:Str) (w:World) (hs:s.size≤1048576):Calls Pq 237 #[.string s,.int .i64 0,.func (.func 238) #[] #[]] w fun e w'=>(∃r:Nat,e= .returned (.int .i64 r)∧r≤s.size∧Fu s r)∧w'=w:=by
 have HR:=Aa (Rg s);go_enter Tryz.func237,Tryz.ntmps237;go_wp2
 go_loop [7] (fun i=>∃k:Nat,k≤s.size∧i= .int .i64 k∧Hid (∀j (h:j < s.size),j < k→A9 s[j].toNat=true)) (fun i=>s.size - (intOf i).toNat)
 case atStart=>exact⟨0,Ao _,rfl,Aa (fun j h hk=>absurd hk (Aw j))⟩
 case round=>
  obtain⟨k,hk,rfl,hd⟩:=hrel;by_cases hlt:k < s.size
  ·have hki:(k:Int) < (s.size:Int):=by omega
   have hki0:(0:Int)+ (k:Int) < (s.size:Int):=by omega
   go_wp2_with fail;refine(Pt s[k].toNat _).mono ?_;rintro e w1 ⟨rfl,rfl⟩;cases h1:A9 s[k].toNat with
   |true=>
    have hl:=Aa h1;clear h1;go_wp2
    go_round
    case rel=>exact⟨k+1,hlt,by go_num,Aa (fun j h hj=>by
     by_cases e:j=k
     ·subst e;exact hl.out
     ·exact hd.out j h (by omega))⟩
    case measure=>simp[intOf];omega
   |false=>
    have hl:=Aa (HR.out k hk hd.out (.inr ⟨hlt,h1⟩));clear h1;go_wp2;go_ret;exact⟨⟨k,rfl,hk,hl.out⟩,rfl⟩
  ·obtain rfl:k=s.size:=by omega
   have hr:=Aa (HR.out s.size (Ad _) hd.out (.inl rfl));go_wp2;go_ret;exact⟨⟨s.size,rfl,Ad _,hr.out⟩,rfl⟩
theorem Rh (s:Str) (w:World) (hs:s.size≤1048576):Calls Pq 203 #[.string s,.func (.func 204) #[] #[]] w fun e w'=>e= .returned (.bool (DC Cu s))∧w'=w:=by
 have HE:=Aa (E7 Cu s);have HF:=Aa (@Ii s);generalize DC Cu s=lp at*;go_enter Tryz.func203,Tryz.ntmps203;by_cases h8:1≤s.size∧s.size≤8
 ·have h0:0 < s.size:=by omega
  have hi:=A8 s.size 1 8 w;rw[show inB (s.size:Int) 1 8=true by simp[inB];omega]at hi;go_wp2_with fail;refine hi.mono ?_;rintro e w1 ⟨rfl,rfl⟩;go_wp2_with fail;refine(KJ s[0].toNat _).mono ?_;rintro e w1 ⟨rfl,rfl⟩;cases h1:Cu s[0].toNat with
  |true=>
   have h1':=Aa h1;clear h1;go_wp2_with fail;refine(Mp s _ hs).mono ?_;rintro e w2 ⟨⟨r,rfl,hr,hq⟩,rfl⟩;have hq':=Aa hq;clear hq hi;by_cases he:r=s.size
   ·subst he;go_wp2;go_ret;exact⟨Ac (by have h2:=hq'.out;unfold Fu at h2;rw[HE.out,HF.out h0,h1'.out,Ax h8,h2.1 rfl];rfl),rfl⟩
   ·have hen:¬((r:Int)= (s.size:Int)):=by omega
    go_wp2;go_ret;exact⟨Ac (by
     have h2:=hq'.out;unfold Fu at h2;have h3:(BI s).all A9=false:=by
      cases hc:(BI s).all A9 with
      |true=>exact absurd (h2.2 hc) he
      |false=>rfl
     rw[HE.out,h3];simp[hen]),rfl⟩
  |false=>
   have hl:=Aa (show lp=false by rw[HE.out,HF.out h0,h1];simp);clear h1;go_wp2;go_ret;exact⟨Ac hl.out.symm,rfl⟩
 ·have hl:=Aa (show lp=false by rw[HE.out,AF h8];rfl);have hi:=A8 s.size 1 8 w;rw[show inB (s.size:Int) 1 8=false by simp[inB];omega]at hi;go_wp2_with fail;refine hi.mono ?_;rintro e w1 ⟨rfl,rfl⟩;go_wp2;go_ret;exact⟨Ac hl.out.symm,rfl⟩
theorem Ri (s:Str) (w:World) (hs:s.size≤1048576):Calls Pq 203 #[.string s,.func (.func 206) #[] #[]] w fun e w'=>e= .returned (.bool (DC Cv s))∧w'=w:=by
 have HE:=Aa (E7 Cv s);have HF:=Aa (@Ii s);generalize DC Cv s=lp at*;go_enter Tryz.func203,Tryz.ntmps203;by_cases h8:1≤s.size∧s.size≤8
 ·have h0:0 < s.size:=by omega
  have hi:=A8 s.size 1 8 w;rw[show inB (s.size:Int) 1 8=true by simp[inB];omega]at hi;go_wp2_with fail;refine hi.mono ?_;rintro e w1 ⟨rfl,rfl⟩;go_wp2_with fail;refine(KM s[0].toNat _).mono ?_;rintro e w1 ⟨rfl,rfl⟩;cases h1:Cv s[0].toNat with
  |true=>
   have h1':=Aa h1;clear h1;go_wp2_with fail;refine(Mp s _ hs).mono ?_;rintro e w2 ⟨⟨r,rfl,hr,hq⟩,rfl⟩;have hq':=Aa hq;clear hq hi;by_cases he:r=s.size
   ·subst he;go_wp2;go_ret;exact⟨Ac (by have h2:=hq'.out;unfold Fu at h2;rw[HE.out,HF.out h0,h1'.out,Ax h8,h2.1 rfl];rfl),rfl⟩
   ·have hen:¬((r:Int)= (s.size:Int)):=by omega
    go_wp2;go_ret;exact⟨Ac (by
     have h2:=hq'.out;unfold Fu at h2;have h3:(BI s).all A9=false:=by
      cases hc:(BI s).all A9 with
      |true=>exact absurd (h2.2 hc) he
      |false=>rfl
     rw[HE.out,h3];simp[hen]),rfl⟩
  |false=>
   have hl:=Aa (show lp=false by rw[HE.out,HF.out h0,h1];simp);clear h1;go_wp2;go_ret;exact⟨Ac hl.out.symm,rfl⟩
 ·have hl:=Aa (show lp=false by rw[HE.out,AF h8];rfl);have hi:=A8 s.size 1 8 w;rw[show inB (s.size:Int) 1 8=false by simp[inB];omega]at hi;go_wp2_with fail;refine hi.mono ?_;rintro e w1 ⟨rfl,rfl⟩;go_wp2;go_ret;exact⟨Ac hl.out.symm,rfl⟩
theorem FS (s:Str) (w:World) (hs:s.size≤1048576):Calls Pq 156 #[.string s] w fun e w'=>e= .returned (.bool (BJ s))∧Below w.heap.size w w':=by
 have HN:=Aa (show BJ s= (DC Cu s&& !(kws.contains (BI s)))from rfl);generalize BJ s=np at*;go_enter Tryz.func156,Tryz.ntmps156;go_wp2_with fail;refine(Rh s w hs).mono ?_;rintro e w1 ⟨rfl,rfl⟩;cases h1:DC Cu s with
 |true=>
  rw[h1]at HN;clear h1;go_wp2_with fail;refine(Rm s _).mono ?_;rintro e w2 ⟨rfl,b2⟩;go_wp2;go_ret;exact⟨Ac (by rw[HN.out];simp),b2⟩
 |false=>
  rw[h1]at HN;clear h1;go_wp2;go_ret;exact⟨Ac (by rw[HN.out];simp),Ab _ _⟩
theorem GC (s:Str) (w:World) (hs:s.size≤1048576):Calls Pq 157 #[.string s] w fun e w'=>e= .returned (.bool (Bg s))∧w'=w:=by
 have HN:=Aa (show Bg s= (DC Cv s&& !(decide (s.toList=[73,110,116])))from Mv s);generalize Bg s=np at*;go_enter Tryz.func157,Tryz.ntmps157;go_wp2_with fail;refine(Ri s w hs).mono ?_;rintro e w1 ⟨rfl,rfl⟩;cases h1:DC Cv s with
 |true=>
  rw[h1]at HN;clear h1;by_cases h2:s.toList=[73,110,116]
  ·rw[Ax h2]at HN;go_wp2;go_ret;exact⟨Ac (by rw[HN.out];simp[h2]),rfl⟩
  ·rw[AF h2]at HN;go_wp2;go_ret;exact⟨Ac (by rw[HN.out];simp[h2]),rfl⟩
 |false=>
  rw[h1]at HN;clear h1;go_wp2;go_ret;exact⟨Ac (by rw[HN.out];simp),rfl⟩
theorem Ln:∀ (N:Nat) (x:Nd) (kv:Value) (B:Nat) (w:World),B7 x≤N→B7 x≤4294967296→RdNs B w kv x.kids→
  Calls Pq 155 #[ndV x kv] w fun e w'=>e= .returned (.int .i64 (Bf x))∧Below w.heap.size w w'
 |0,x,kv,B,w,hN,hl,hr=>by have:=Hl x;omega
 |N+1,x,kv,B,w,hN,hl,hr=>by
  have HR:=Aa (fun(W:World) (hb:Below w.heap.size w W)=>hr.later' hb);have hlen:=hr.len;unfold maxLen at hlen;obtain⟨ka,kc,rfl⟩:=hr.form;have hsz:=Hl x;have ih:=fun(j:Nat) (hj:j < x.kids.length) (kv:Value) (B:Nat) (W:World) (h:RdNs B W kv x.kids[j].kids)=>(by
   have:=JL (An hj);exact Ln N x.kids[j] kv B W (by omega) (by omega) h:Calls Pq 155 #[ndV x.kids[j] kv] W fun e w'=>e= .returned (.int .i64 (Bf x.kids[j]))∧Below W.heap.size W w')
  unfold ndV at ih ⊢;have IH:=Aa ih;have HB:=Aa (fun(k:Nat)=>(show Bf.deepNs (x.kids.take k)≤4294967296 from by have:=I6 x.kids k;have:=Lk x;have:=Hk x;omega));have HS:=Aa (I5 x.kids);have HX:=Aa (Hk x);clear hr ih hsz hN;generalize x.op=xop;generalize x.n=xn;generalize x.s=xs;generalize x.t=xt;generalize Bf x=dx at HX ⊢;generalize x.kids=ks at*;go_enter Tryz.func155,Tryz.ntmps155;go_wp2_with fail;generalize hxx:w.alloc _=x0;obtain⟨bb,k1⟩:=Bx.alloc hxx;clear hxx;go_wp2
  go_loopw [3,9] (fun o i wr=>∃k:Nat,k≤ks.length∧i= .int .i64 k∧o= .int .i64 (Bf.deepNs (ks.take k))∧Below w.heap.size w wr∧Bx wr w.heap.size #[.int .i64 xop,.int .i64 xn,.string xs,.string xt,.slice ka ks.length kc]) (fun _ i _=>ks.length - (intOf i).toNat)
  case atStart=>exact⟨0,Ao _,rfl,rfl,bb,k1⟩
  case round=>
   clear bb k1;obtain⟨k,hk,rfl,rfl,bb,k1⟩:=hrel;by_cases hlt:k < ks.length
   ·obtain⟨b,off,cap,kv,hv,hB,hbs,hcap,⟨c0,c1,c2,c3,c4⟩,hkr⟩:=(HR.out wr bb).at_ hlt;cases hv
    have hki:(k:Int) < (ks.length:Int):=by omega
    obtain⟨kva,kvc,rfl⟩:=hkr.form;have HK:=Aa hkr;have q1:=k1.2.1;clear hkr;go_wp2_with fail;clear q1 c0 c1 c2 c3 c4;generalize hyy:wr.alloc _=wy;obtain⟨by_, -⟩:=Bx.alloc hyy;clear hyy;have hsz:=bb.size;refine(IH.out k hlt _ _ wy (HK.out.later by_ hsz)).mono ?_;rintro e w2 ⟨rfl,b2⟩;replace b2:=by_.trans (b2.mono by_.size);replace k1:=k1.below b2 k1.1;replace bb:=bb.trans (b2.mono hsz);clear b2 HK by_ hsz;have hb1:=HB.out (k+1);have hs1:=HS.out k hlt;go_wp2_with fail;go_roundw
    case rel=>
     refine⟨k+1,hlt,by go_num,?_,bb,k1⟩;rw[hs1];exact Bk (Value.int .i64) (by omega)
    case measure=>simp[intOf];omega
   ·obtain rfl:k=ks.length:=by omega
    have hb1:=HB.out ks.length;have hx1:=HX.out;rw[B8]at hb1;simp only[B8];have q1:=k1.2.1;go_wp2;go_ret;exact⟨Ap (by rw[hx1];simp),bb⟩
def wgN:Nd→Nat
 | .mk _ _ s t ks=>s.size+t.size+wgNs ks
where wgNs:List Nd→Nat
 | []=>0
 |k::ks=>1+wgN k+wgNs ks
theorem Av (x:Nd):wgN x=x.s.size+x.t.size+wgN.wgNs x.kids:=by cases x;rfl
theorem AT {k:Nd}:∀ {ks:List Nd},k∈ks→wgN k+1≤wgN.wgNs ks
 |x::xs,h=>by
  unfold wgN.wgNs;rcases List.mem_cons.1 h with rfl |h
  ·omega
  ·have:=AT h;omega
theorem AY:∀ (ks:List Nd),ks.length≤wgN.wgNs ks
 | []=>Ad _
 |x::xs=>by have:=AY xs;unfold wgN.wgNs;simp only[List.length_cons];omega
theorem JE (s:Str):noS s=decide (s.toList=[]):=by
 unfold noS;rw[Ds,Du,Du];constructor
 ·rintro rfl;rw[ByteArray.toList_eq];rfl
 ·intro e;rw[ByteArray.toList_eq]at e;obtain⟨⟨l⟩⟩:=s;simp at e;subst e;rfl
theorem Al {s:Str}(h:s.toList=[]):noS s=true:=by rw[JE,Ax h]
theorem AH {s:Str}(h:¬s.toList=[]):noS s=false:=by rw[JE,AF h]
def Br (op n:Int) (s t:Str) (k:Nat):Bool:=noS t&& (if op=17 then decide (n=0)&& (noS s&& decide (k=0))
   else if op=18 then decide (n=0)&& (BJ s&& decide (k=0))
   else if op=19 then Cl n&& (noS s&& decide (k=0))
   else if op=20 then decide (n=0)&& Bg s else false)
theorem FW:∀ (ks:List Nd),DR ks=ks.all BQ
 | []=>rfl
 |k::ks=>by rw[DR,FW ks];rfl
theorem FX (x:Nd):BQ x= (DR x.kids&& Br x.op x.n x.s x.t x.kids.length):=by
 obtain⟨op,n,s,t,ks⟩:=x;simp only[Nd.op,Nd.n,Nd.s,Nd.t,Nd.kids];rw[BQ];unfold Br;cases ks with
 |nil=>simp[DR]
 |cons y ys=>
  simp only[List.length_cons];have h0:decide (ys.length+1=0)=false:=by simp
  rw[h0];generalize DR (y::ys)=pp;cases pp <;> cases noS t <;> simp
theorem SJ {ks:List Nd}{k:Nat}(h:k < ks.length) (e:BQ ks[k]=false):DR ks=false:=by
 rw[FW,Ec];exact⟨_,An h,by rw[e];simp⟩
theorem SK {ks:List Nd}(h:∀j (h:j < ks.length),BQ ks[j]=true):DR ks=true:=by
 rw[FW,BA];intro x hx;obtain⟨j,hj,rfl⟩:=DG hx;exact h j hj
theorem MS:∀ (N:Nat) (x:Nd) (kv:Value) (B:Nat) (w:World),wgN x < N→wgN x≤1048576→RdNs B w kv x.kids→
  Calls Pq 216 #[ndV x kv] w fun e w'=>e= .returned (.bool (BQ x))∧Below w.heap.size w w'
 |0,x,kv,B,w,hN,hl,hr=>by omega
 |N+1,x,kv,B,w,hN,hl,hr=>by
  have HR:=Aa (fun(W:World) (hb:Below w.heap.size w W)=>hr.later' hb);have hwg:=Av x;have hlen:=AY x.kids;have hks:x.kids.length≤1048576:=by omega
  have hss:x.s.size≤1048576:=by omega
  obtain⟨ka,kc,rfl⟩:=hr.form;have ih:=fun(j:Nat) (hj:j < x.kids.length) (kv:Value) (B:Nat) (W:World) (h:RdNs B W kv x.kids[j].kids)=>(by
   have:=AT (An hj);exact MS N x.kids[j] kv B W (by omega) (by omega) h:Calls Pq 216 #[ndV x.kids[j] kv] W fun e w'=>e= .returned (.bool (BQ x.kids[j]))∧Below W.heap.size W w')
  unfold ndV at ih ⊢;have IH:=Aa ih;have HE:=Aa (FX x);clear hr ih hN hwg hlen hl;generalize x.op=xop at*;generalize x.n=xn at*;generalize x.s=xs at*;generalize x.t=xt at*;generalize BQ x=px at*;generalize x.kids=ks at*;go_enter Tryz.func216,Tryz.ntmps216;go_wp2_with fail;generalize hxx:w.alloc _=x0;obtain⟨bb,k1⟩:=Bx.alloc hxx;clear hxx;go_wp2
  go_loopw [3] (fun i wr=>∃k:Nat,k≤ks.length∧i= .int .i64 k∧Below w.heap.size w wr∧Bx wr w.heap.size #[.int .i64 xop,.int .i64 xn,.string xs,.string xt,.slice ka ks.length kc]∧Hid (∀j (h:j < ks.length),j < k→BQ ks[j]=true)) (fun i _=>ks.length - (intOf i).toNat)
  case atStart=>exact⟨0,Ao _,rfl,bb,k1,Aa (fun j h hk=>absurd hk (Aw j))⟩
  case round=>
   clear bb k1;obtain⟨k,hk,rfl,bb,k1,hd⟩:=hrel;by_cases hlt:k < ks.length
   ·obtain⟨b,off,cap,kv,hv,hB,hbs,hcap,⟨c0,c1,c2,c3,c4⟩,hkr⟩:=(HR.out wr bb).at_ hlt;cases hv
    have hki:(k:Int) < (ks.length:Int):=by omega
    obtain⟨kva,kvc,rfl⟩:=hkr.form;have HK:=Aa hkr;have q1:=k1.2.1;clear hkr;go_wp2_with fail;clear q1 c0 c1 c2 c3 c4;refine(IH.out k hlt _ _ wr HK.out).mono ?_;rintro e w2 ⟨rfl,b2⟩;replace k1:=k1.below b2 k1.1;replace bb:=bb.trans (b2.mono bb.size);clear b2 HK;cases hp:BQ ks[k]with
    |true=>
     have hp':=Aa hp;clear hp;go_wp2;go_roundw
     case rel=>exact⟨k+1,hlt,by go_num,bb,k1,Aa (fun j h hj=>by
      by_cases e:j=k
      ·subst e;exact hp'.out
      ·exact hd.out j h (by omega))⟩
     case measure=>simp[intOf];omega
    |false=>
     have hp':=Aa (SJ hlt hp);clear hp;go_wp2;go_ret;exact⟨Ac (by rw[HE.out,hp'.out];rfl),bb⟩
   ·obtain rfl:k=ks.length:=by omega
    have hy:=SK (fun j hj=>hd.out j hj hj);have HE:Hid (px=Br xop xn xs xt ks.length):=Aa (by rw[HE.out,hy];rfl);clear hy;have q1:=k1.2.1;clear hd k1 HR IH;have W3:=Aa bb.size;by_cases ht:xt.toList=[]
    ·by_cases o20:xop=20
     ·subst o20;by_cases n0:xn=0
      ·subst n0;go_wp2_with fail;refine(GE xs _ hss).mono ?_;rintro e w3 ⟨rfl,b3⟩;replace bb:=bb.trans (b3.mono W3.out);go_wp2;go_ret;exact⟨Ac (by rw[HE.out];simp[Br,Al ht]),bb⟩
      ·go_wp2;go_ret;exact⟨Ac (by rw[HE.out];simp[Br,n0]),bb⟩
     ·by_cases k0:ks.length=0
      ·have hk0:¬((ks.length:Int) > 0):=by omega
       by_cases o19:xop=19
       ·subst o19;by_cases hs:xs.toList=[]
        ·go_wp2_with fail;refine(AZ xn 0 1073741823 _).mono ?_;rintro e w3 ⟨rfl,rfl⟩;go_wp2;go_ret;exact⟨Ac (by rw[HE.out];simp[Br,Al ht,Al hs,k0,inB,Cl]),bb⟩
        ·go_wp2;go_ret;exact⟨Ac (by rw[HE.out];simp[Br,AH hs,hs]),bb⟩
       ·by_cases n0:xn=0
        ·subst n0;by_cases o17:xop=17
         ·subst o17;go_wp2;go_ret;exact⟨Ac (by rw[HE.out];simp[Br,Al ht,JE,k0];cases ByteArray.toList xs <;> simp),bb⟩
         ·by_cases o18:xop=18
          ·subst o18;go_wp2_with fail;refine(FU xs _ hss).mono ?_;rintro e w3 ⟨rfl,b3⟩;replace bb:=bb.trans (b3.mono W3.out);go_wp2;go_ret;exact⟨Ac (by rw[HE.out];simp[Br,Al ht,k0]),bb⟩
          ·go_wp2;go_ret;exact⟨Ac (by rw[HE.out];simp[Br,o17,o18,o19,o20]),bb⟩
        ·have hb:(xop !=19&& xn !=0)=true:=by simp[n0,o19]
         go_wp2;go_ret;exact⟨Ac (by rw[HE.out];simp[Br,n0,o19,o20]),bb⟩
      ·have hk0:(ks.length:Int) > 0:=by omega
       go_wp2;go_ret;exact⟨Ac (by rw[HE.out];simp[Br,k0,o20]),bb⟩
    ·go_wp2;go_ret;exact⟨Ac (by rw[HE.out];simp[Br,AH ht]),bb⟩
theorem GF:∀ (ks:List Nd),AB ks=ks.all Aj
 | []=>rfl
 |k::ks=>by rw[AB,GF ks];rfl
theorem R6 {ks:List Nd}{k:Nat}(h:k < ks.length) (e:Aj ks[k]=false):AB ks=false:=by
 rw[GF,Ec];exact⟨_,An h,by rw[e];simp⟩
theorem R7 {ks:List Nd}(h:∀j (h:j < ks.length),Aj ks[j]=true):AB ks=true:=by
 rw[GF,BA];intro x hx;obtain⟨j,hj,rfl⟩:=DG hx;exact h j hj
theorem R8 (x:Nd) (kv:Value) (B:Nat) (w:World) (hl:wgN x≤1048576) (hr:RdNs B w kv x.kids)
  (ih:∀ (j:Nat) (hj:j < x.kids.length) (kv:Value) (B:Nat) (W:World),RdNs B W kv x.kids[j].kids→Calls Pq 114 #[ndV x.kids[j] kv] W fun e w'=>e= .returned (.bool (Aj x.kids[j]))∧Below W.heap.size W w'):
  Calls Pq 174 #[ndV x kv,.int .i64 0] w fun e w'=>e= .returned (.bool (AB x.kids))∧Below w.heap.size w w':=by
 have HR:=Aa (fun(W:World) (hb:Below w.heap.size w W)=>hr.later' hb);have hwg:=Av x;have hlen:=AY x.kids;have hks:x.kids.length≤1048576:=by omega
 obtain⟨ka,kc,rfl⟩:=hr.form;unfold ndV at ih ⊢;have IH:=Aa ih;clear hr ih hwg hlen hl;generalize x.op=xop at*;generalize x.n=xn at*;generalize x.s=xs at*;generalize x.t=xt at*;generalize x.kids=ks at*;go_enter Tryz.func174,Tryz.ntmps174;go_wp2_with fail;generalize hxx:w.alloc _=x0;obtain⟨bb,k1⟩:=Bx.alloc hxx;clear hxx;go_wp2
 go_loopw [5] (fun i wr=>∃k:Nat,k≤ks.length∧i= .int .i64 k∧Below w.heap.size w wr∧Bx wr w.heap.size #[.int .i64 xop,.int .i64 xn,.string xs,.string xt,.slice ka ks.length kc]∧Hid (∀j (h:j < ks.length),j < k→Aj ks[j]=true)) (fun i _=>ks.length - (intOf i).toNat)
 case atStart=>exact⟨0,Ao _,rfl,bb,k1,Aa (fun j h hk=>absurd hk (Aw j))⟩
 case round=>
  clear bb k1;obtain⟨k,hk,rfl,bb,k1,hd⟩:=hrel;by_cases hlt:k < ks.length
  ·obtain⟨b,off,cap,kv,hv,hB,hbs,hcap,⟨c0,c1,c2,c3,c4⟩,hkr⟩:=(HR.out wr bb).at_ hlt;cases hv
   have hki:(k:Int) < (ks.length:Int):=by omega
   obtain⟨kva,kvc,rfl⟩:=hkr.form;have HK:=Aa hkr;have q1:=k1.2.1;clear hkr;go_wp2_with fail;clear q1 c0 c1 c2 c3 c4;refine(IH.out k hlt _ _ wr HK.out).mono ?_;rintro e w2 ⟨rfl,b2⟩;replace k1:=k1.below b2 k1.1;replace bb:=bb.trans (b2.mono bb.size);clear b2 HK;cases hp:Aj ks[k]with
   |true=>
    have hp':=Aa hp;clear hp;go_wp2;go_roundw
    case rel=>exact⟨k+1,hlt,by go_num,bb,k1,Aa (fun j h hj=>by
     by_cases e:j=k
     ·subst e;exact hp'.out
     ·exact hd.out j h (by omega))⟩
    case measure=>simp[intOf];omega
   |false=>
    have hp':=Aa (R6 hlt hp);clear hp;go_wp2;go_ret;exact⟨Ac hp'.out.symm,bb⟩
  ·obtain rfl:k=ks.length:=by omega
   have hy:=Aa (R7 (fun j hj=>hd.out j hj hj));have q1:=k1.2.1;go_wp2;go_ret;exact⟨Ac hy.out.symm,bb⟩
end Go.Proofs.YtifhcbeaiijkcaaGreat
end
section
namespace Go.Proofs.YtifhcbeaiijkcaaGreat
open _root_.Go.World renaming alloc→Wa,setCell→Ws
open _root_.Go.Proofs.Tryz renaming prog→Pq
theorem Gh:∀ (ks:List Nd),Iu ks=ks.all Cm
 | []=>rfl
 |k::ks=>by rw[Iu,Gh ks];rfl
theorem OP {ks:List Nd}{k:Nat}(h1:1≤k) (h:k < ks.length) (e:Cm ks[k]=false):AO ks=false:=by
 cases ks with
 |nil=>simp at h
 |cons y ys=>
  rw[AO,Gh];obtain⟨k,rfl⟩:∃m,k=m+1:=⟨k - 1,by omega⟩;have h2:k < ys.length:=by simpa using h
  have:ys.all Cm=false:=by
   rw[Ec];exact⟨_,An h2,by simpa using e⟩
  rw[this];simp
theorem OQ {ks:List Nd}(hl:0 < ks.length) (h:∀j (hj:j < ks.length),1≤j→Cm ks[j]=true):AO ks=Aj ks[0]:=by
 cases ks with
 |nil=>simp at hl
 |cons y ys=>
  rw[AO,Gh];have:ys.all Cm=true:=by
   rw[BA];intro x hx;obtain⟨j,hj,rfl⟩:=DG hx;have:=h (j+1) (by simp;exact hj) (by omega)
   simpa using this
  rw[this];simp
theorem IU (x:Nd):Cm x= (CC x.op x.n x.s x.t x.kids.length&& Fb x.kids):=by cases x;rw[Cm];rfl
theorem RdNs.two {B:Nat}{w:World}{v:Value}{p e:Nd}(h:RdNs B w v [p,e]):∃b off cap kv0 kv1,v= .slice (some ⟨b,off,none⟩) 2 cap∧b < w.heap.size∧2≤cap∧NdAt w b off p kv0∧RdNs B w kv0 p.kids∧NdAt w b (off+5) e kv1∧RdNs B w kv1 e.kids:=by
 cases h with
 |row b off cap _ kv h1 h2 h3 h4 h5=>
  have c0:=h4 0 (by simp);have c1:=h4 1 (by simp);have k0:=h5 0 (by simp);have k1:=h5 1 (by simp);simp only[Nat.zero_mul,GV,Nat.add_zero,List.getElem_cons_zero,List.getElem_cons_succ]at c0 c1 k0 k1;exact⟨b,off,cap,kv 0,kv 1,rfl,h2,h3.2,c0,k0,c1,k1⟩
theorem IV {ks:List Nd}(h:ks.length=2):∃p e,ks=[p,e]:=by
 match ks,h with
 | [p,e],_=>exact⟨p,e,rfl⟩
end Go.Proofs.YtifhcbeaiijkcaaGreat
end
