/- cartularytop.TopRuns: for every input of bulk at most 1048576 the law returns true; each argument reads as it did. Condition: the bulk alone. -/
import Derived.Test.YtdpombnelangjaaGreatDoorP28
import Derived.SizedLaws
import Derived.JoinedCond
namespace Go.Proofs.YtdpombnelangjaaGreatDoor
open Go.RowKit
set_option maxRecDepth 100000
set_option linter.unusedVariables false
open Go.Proofs.Tryz renaming prog → Ao
open Calls renaming mono → Bo
open Gr renaming refl → B4
open Nat renaming le_refl → Dg
section
open Go.ChangeShapes Go.WideShapes Go.ChangeAt Go.RowKit
open Go.ChangeMaps (open_string shut_string)
theorem own:ownKnob Ao.godebug=none:=by kernel_rfl
theorem laidOut:laidOutB Ao=true:=by kernel_rfl
theorem contract (H:Type) (enc:TypeId×Value->H) (W:World) (base:Nat) (args:Array Value) (ds gs:List (DataW H)) (a:List MemPlace) (b:∀(j:Nat) t v,Tryz.f4.params[j]?=some t->args[j]?=some v->Value.okWide Ao W .any base t v) (hW:DataW.Whole enc Ao Tryz.f4.params.toList Rows.topRunsSpec.vars false W args.toList ds gs a) (hk:Rows.uptoSmall H (ds++gs)=true) (hL:laidMetH Ao Rows.topRunsUptoRow.laid W):Calls Ao 4 args W λe W'=>∃v,e=.returned v/\Rows.topRunsSpec.post enc Ao Tryz.f4 false true false false W args v W':=by
 have y:=b;have c:=hW;obtain⟨p,q,z,hV,rfl,r,k⟩:=hW;have hA:DataW.TrodAll enc Ao W 0 (λ_=>true) true Tryz.f4.params.toList args.toList ds p:=z;rw[Tryz.params4]at hA y;obtain⟨v0,l,d0,n,p0,q0,d,rfl,rfl,h0,r0⟩:=trodAll_cons hA;obtain⟨v1,o,d1,s,p1,q1,rfl,rfl,rfl,h1,r1⟩:=trodAll_cons r0;obtain⟨rfl,rfl,rfl⟩:=trodAll_nil r1;obtain rfl:args=#[v0,v1]:=by cases args;simp_all
 obtain⟨rfl,rfl⟩:=trodVars_none hV;have k0:=h0;have f:∀x∈p0,x.block<W.heap.size:=by obtain⟨m,hm⟩:=k0;exact DataW.trod_lt m _ _ _ hm
 have g:Rows.uptoBulk d0<=1048576:=zbL
 obtain⟨A0,c0,x0,rfl,b0⟩:=Jp (y 0 22 v0 rfl rfl) h0 g;have k1:=h1;have i:∀x∈p1,x.block<W.heap.size:=by obtain⟨m,hm⟩:=k1;exact DataW.trod_lt m _ _ _ hm
 have u:Rows.uptoBulk d1<=1048576:=zbL
 obtain⟨a1,rfl,rfl,rfl,w1⟩:=open_int Tryz.underlying3 (y 1 3 v1 rfl rfl) h1;have b1:-9223372036854775808<=a1/\a1<=9223372036854775807:=by simpa[Lit.wf,IntKind.min,IntKind.max,IntKind.signed,IntKind.bits]using w1
 clear z b;refine(It A0 c0 x0 a1 W b0 b1 (JF hL)).mono λe W' ⟨he,bel⟩=>?_
 subst he;exact⟨_,rfl,_,_,_,[],_,[],c,trodAll_mk1 (shut_bool Tryz.underlying4 _),(trodAll_cons_mk (Below.trod laidOut zc0 (of_decide_eq_true zc0) k0 bel.below f) (trodAll_cons_mk (Below.trod laidOut zc0 (of_decide_eq_true zc0) k1 bel.below i) trodAll_mk0)),rfl,bel.below.frame _,λh=>by cases h⟩
theorem laid_met (os:Os):laidMet Ao Rows.topRunsUptoRow.laid ((laidWorld Rows.topRunsUptoRow.laid os).forCall (λ_ _=>0) ⟨#[],#[n_,i0],[]⟩).memory:=
 laidMet_of_run' 8 zc0 zc0
theorem reads (os:Os) {H:Type} (enc:TypeId×Value->H):∃b,DataW.whole enc Ao ((laidWorld Rows.topRunsUptoRow.laid os).forCall (λ_ _=>0) ⟨#[],#[n_,i0],[]⟩).memory Tryz.f4.params.toList Rows.topRunsSpec.vars false (#[n_,i0]:Array Value).toList 8=some ([.nil,.lit (.int .i64 0)],[],b):=
 ⟨[],by kernel_rfl⟩
theorem lifted (os:Os) (started:os.Started) (H:Type) (enc:TypeId×Value->H) (F:Stop.Interp):ReturnsInHanded {} Tryz.checked os 4 .any ((Rows.OpenSpec.upto Rows.topRunsSpec).preRow enc Ao Tryz.f4 Rows.topRunsUptoRow.domain false Rows.topRunsUptoRow.laid) (((Rows.OpenSpec.upto Rows.topRunsSpec).at F).post enc Ao Tryz.f4 false true false false):=by
 obtain⟨b,hx⟩:=reads os enc;refine returnsInHanded_of_row (C:=Tryz.checked) (s:=Rows.OpenSpec.upto Rows.topRunsSpec) own started zc0 Tryz.func4 (witness_row_at (enc:=enc) (C:=Tryz.checked) false (laidWorld Rows.topRunsUptoRow.laid os) #[n_,i0] rfl zc0 zc0 zc0 (OpenSpec.preRow_of_cond 8 hx zc0 (λk hk=>by cases hk;kernel_rfl) zc0 (laid_met os))) ?_;intro W base args ds gs a y hW _ c _ hL _ _;exact contract H enc W base args ds gs a y hW (c _ rfl) hL
theorem said:Rows.TopRunsUptoSaid:=
 OpenClaim.holds_of_cond 4 Tryz.f4 rfl rfl rfl rfl rfl rfl rfl ⟨rfl,rfl,rfl,rfl,rfl⟩ rfl rfl rfl rfl rfl zc0 Tryz.func4 zc0
  (of_decide_eq_true zc0) (by unfold Func.isWrapper;first|(rw[if_pos zhs];kernel_rfl)|(rw[if_neg zhs];exact⟨rfl,rfl⟩))
  (λos started H enc _ F=>by rw[OpenClaim.pre_eq_preRow];exact lifted os started H enc F)
theorem plain (f:FuncId) (fn:Func) (hf:Tryz.pinned.checked.prog.funcNamed "cartulary/cartularytop.TopRuns"=some f) (q:Tryz.pinned.checked.prog.funcs[f]?=some fn):false=Tryz.pinned.checked.prog.looks []/\∀(j:Nat) t,fn.params[j]?=some t->Tryz.pinned.checked.prog.wantsStandIn t=false:=by
 obtain rfl:f=4:=Option.some.inj ((show Ao.funcNamed "cartulary/cartularytop.TopRuns"=some 4 by kernel_rfl).symm.trans hf)|>.symm;obtain rfl:fn=Tryz.f4:=(Option.some.inj (Tryz.func4.symm.trans q)).symm
 refine⟨by kernel_rfl,λj t ht=>?_⟩;rw[Tryz.params4]at ht;have hm:=Array.mem_of_getElem? ht;simp only[List.mem_toArray,List.mem_cons,List.not_mem_nil,or_false]at hm;rcases hm with rfl|rfl;. exact(show Ao.wantsStandIn 22=false by kernel_rfl)
 . exact(show Ao.wantsStandIn 3=false by kernel_rfl)
theorem proved:Rows.TopRunsUptoCardSaid:=
 Claim7.holds_tied_plain_at .later [] _ _ _ _ said (λ_ h=>by cases h) zc0 (λ_ h=>by cases h) topRunsUpto_row_tie rfl ⟨rfl,rfl⟩ zc0 rfl plain zc0
end
end Go.Proofs.YtdpombnelangjaaGreatDoor
