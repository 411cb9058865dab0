/- The law FnExactJudgeSame returns true for every input that can be read as data, with no condition, and its arguments read as they did. -/
import Derived.Test.YtifhcbeaiijkcaaGreatRows
import Derived.Test.YtifhcbeaiijkcaaGreatJ01
import Derived.Test.YtifhcbeaiijkcaaGreatJ46
import Derived.Test.YtifhcbeaiijkcaaGreatJ28
set_option linter.unusedVariables false
set_option linter.unusedSimpArgs false
set_option maxRecDepth 1000000
set_option maxHeartbeats 16000000
namespace Go.Proofs.YtifhcbeaiijkcaaGreat.fnExactJudgeSame
open Go.ChangeShapes Go.WideShapes Go.ChangeAt Go.RowKit
open Go.ChangeMaps (open_string shut_string)
theorem own:ownKnob Tryz.prog.godebug=none:=by kernel_rfl
theorem laidOut:laidOutB Tryz.prog=true:=by kernel_rfl
theorem walk (w:World) (ds0:List Dt) (x0:Nd) (dv0 kv0:Value) (rd0:RdDts w.heap.size w dv0 ds0) (rk0:RdNs w.heap.size w kv0 x0.kids) (sd0:∀d∈ds0,FY d) (sn0:StrN x0) (fv1 hv1 sv1 cv1 ov1:Value) (L1:VmL) (r1:RdV w.heap.size w fv1 hv1 sv1 cv1 ov1 L1) (i1:D9 L1):
  Calls Tryz.prog 3 #[pgV dv0 x0 kv0,vmV fv1 hv1 sv1 cv1 ov1 L1] w fun e w'=>e= .returned (.bool true)∧Below w.heap.size w w':=by
 exact Vt w ds0 x0 dv0 kv0 rd0 rk0 sd0 sn0 fv1 hv1 sv1 cv1 ov1 L1 r1 i1
theorem lifted (os:Os) (started:os.Started) (H:Type) (enc:TypeId×Value→H):
  ReturnsInHanded {} Tryz.checked os 3 .any (Rows.fnExactJudgeSameSpec.pre6 enc Tryz.prog Tryz.f3 Rows.fnExactJudgeSameRow.domain false) (Rows.fnExactJudgeSameSpec.post enc Tryz.prog Tryz.f3 false true false false):=by
 refine returnsInHanded_of_change (C:=Tryz.checked) own started (by kernel_rfl) Tryz.func3
  (ChangeSpec.witness6 (enc:=enc) (C:=Tryz.checked) false ⟨#[],#[.agg #[.slice none 0 0,.int .i64 0,.int .i64 0,.string ⟨#[]⟩,.string ⟨#[]⟩,.slice none 0 0],.agg #[.slice none 0 0,.slice none 0 0,.int .i64 0,.int .i64 0,.int .i64 0,.slice none 0 0,.slice none 0 0,.slice none 0 0,.int .i64 0,.bool false]],[]⟩ 8 (by kernel_rfl) (by kernel_rfl) (by kernel_rfl) (by kernel_rfl)) ?_
 intro W base args ds gs before hval0 hW hcnd _;have hval:∀ (j:Nat) t v,Tryz.f3.params[j]?=some t→args[j]?=some v→Value.okWide Tryz.prog W .any base t v:=hval0;have hW':=hW;obtain⟨p,q,hA0,hV,rfl,hfz,hnd⟩:=hW;have hA:DataW.TrodAll enc Tryz.prog W 0 (fun _=>true) true Tryz.f3.params.toList args.toList ds p:=hA0;rw[Tryz.params3]at hA hval;obtain⟨v0,vs0,d0,ds0,p0,q0,hargs,rfl,rfl,h0,t0⟩:=trodAll_cons hA;obtain⟨v1,vs1,d1,ds1,p1,q1,rfl,rfl,rfl,h1,t1⟩:=trodAll_cons t0;obtain⟨rfl,rfl,rfl⟩:=trodAll_nil t1;obtain rfl:args= #[v0,v1]:=by cases args;simp_all
 obtain⟨rfl,rfl⟩:=trodVars_none hV;have k0:=h0;have lt0:∀x∈p0,x.block < W.heap.size:=by obtain⟨m,hm⟩:=k0;exact DataW.trod_lt m _ _ _ hm
 obtain⟨ds0,x0,dv0,kv0,rfl,rd0,rk0,sd0,sn0⟩:=Td (hval 0 27 v0 rfl rfl) h0;have k1:=h1;have lt1:∀x∈p1,x.block < W.heap.size:=by obtain⟨m,hm⟩:=k1;exact DataW.trod_lt m _ _ _ hm
 obtain⟨fv1,hv1,sv1,cv1,ov1,L1,rfl,r1,i1⟩:=SC (hval 1 34 v1 rfl rfl) h1;clear hA0 hval0;refine(walk W ds0 x0 _ _ rd0 rk0 sd0 sn0 _ _ _ _ _ L1 r1 i1).mono fun e W' ⟨he,bel⟩=> ?_;subst he;exact⟨_,rfl,_,_,_,[],_,[],hW',trodAll_mk1 (shut_bool Tryz.underlying4 _),(trodAll_cons_mk (Below.trod laidOut (by kernel_rfl) (of_decide_eq_true (by kernel_rfl)) k0 bel lt0) (trodAll_cons_mk (Below.trod laidOut (by kernel_rfl) (of_decide_eq_true (by kernel_rfl)) k1 bel lt1) trodAll_mk0)),rfl,bel.frame _,fun h=>by cases h⟩
theorem over:Rows.fnExactJudgeSameRow.holds Tryz.pinned (OpenSpec.ofChange Rows.fnExactJudgeSameSpec):=
 OpenClaim.holds_of_wide 3 Tryz.f3 rfl rfl rfl rfl rfl rfl rfl ⟨rfl,rfl,rfl,rfl,rfl⟩ rfl rfl rfl rfl rfl (by kernel_rfl) Tryz.func3 (by kernel_rfl)
  (of_decide_eq_true (by kernel_rfl)) (by unfold Func.isWrapper;first | (rw[Af (by decide+kernel)];kernel_rfl) | (rw[Ae (by decide+kernel)];exact⟨rfl,rfl⟩))
  (fun os started H enc _=>lifted os started H enc)
theorem proved:Rows.FnExactJudgeSameSaid:=over
end Go.Proofs.YtifhcbeaiijkcaaGreat.fnExactJudgeSame
