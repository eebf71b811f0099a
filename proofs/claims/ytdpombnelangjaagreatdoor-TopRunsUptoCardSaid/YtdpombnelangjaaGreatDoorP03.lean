/- Lemmas for TopRuns; each states its conditions. -/
import Derived.Test.YtdpombnelangjaaGreatDoorM08
import Derived.Test.YtdpombnelangjaaGreatDoorP01
import Derived.RangeFuncNested
import Derived.RangeFuncBound
import Derived.RangeFuncCalls
import Derived.RangeFuncLeaves
import Derived.OwnWalkIn
import Derived.TacticsInMore
import Derived.LoopNIn
import Derived.LoopIn
namespace Go.Proofs.YtdpombnelangjaaGreatDoor
open Go.RowKit
set_option maxRecDepth 100000
set_option maxHeartbeats 64000000
open Go.Proofs.Tryz renaming prog → Ao
open Calls renaming mono → Bo
open Gr renaming refl → B4
open Nat renaming le_refl → Dg
section
attribute [local go_sem] Oper.semAt_some
theorem uj (c:UInt8):∀l:Y0,(Lib.indexByte l c=-1/\∀x∈l,x≠c)\/∃x t,l=x++c::t/\(∀y∈x,y≠c)/\Lib.indexByte l c=(x.length:Int)
 |[]=>.inl ⟨rfl,by simp⟩
 |b::r=>by
  by_cases hb:b=c
  . subst hb
    refine .inr ⟨[],r,rfl,by simp,?_⟩
    unfold Lib.indexByte
    rw[if_pos (by simp)];rfl
  . rcases uj c r with⟨h1,h2⟩|⟨x,t,h1,h2,h3⟩
    . refine .inl ⟨?_,?_⟩
      . unfold Lib.indexByte
        rw[if_neg zfT,h1];rfl
      . intro y hy
        rcases List.mem_cons.1 hy with rfl|hy
        . exact hb
        . exact h2 y hy
    . refine .inr ⟨b::x,t,by rw[h1];rfl,?_,?_⟩
      . intro y hy
        rcases List.mem_cons.1 hy with rfl|hy
        . exact hb
        . exact h2 y hy
      . unfold Lib.indexByte
        rw[if_neg zfT,h3,if_neg zff]
        simp
theorem vr (s:Y0) (w:World):Calls Ao 229 #[s,.int .u8 47] w λe w'=>e=.returned (Lib.indexByte s 47)/\w=w':=by
 go_enter Tryz.func229,Tryz.ntmps229
 go_wp2
 rw[run_callFunc_extern Tryz.func235 zc0 zc0 zc0 (e:=Extern.BytealgIndexByte.indexByte) zc0,Lib.run_indexByteString];simp only[Result.andThen];rw[Oper.upon_value];go_wp2
 go_ret;exact⟨by rw[jM];rfl,rfl⟩
theorem yD (s:Y0) (w:World):Calls Ao 220 #[s,.string (bs [47])] w λe w'=>e=.returned (Lib.indexByte s 47)/\w=w':=by
 have HI:=aa (vr s);by_cases h:s=[47];. subst h;clear HI;(go_enter Tryz.func220,Tryz.ntmps220);(go_wp2);go_ret;exact⟨rfl,rfl⟩
 . (have q:(([47]:Y0)==s)=false:=by rw[beq_eq_false_iff_ne];exactλe=>h e.symm);clear h;(go_enter Tryz.func220,Tryz.ntmps220);(go_wp2_with(go_at_call 229;refine Bo (HI.o _) ?_;rintro e w' ⟨rfl,rfl⟩));all_goals(go_ret;exact⟨rfl,rfl⟩)
theorem Ak (s:Y0) (w:World):Calls Ao 197 #[s,.string (bs [47])] w λe w'=>e=.returned (Lib.indexByte s 47)/\w=w':=by
 have HI:=aa (yD s);go_enter Tryz.func197,Tryz.ntmps197
 go_wp2_with(go_at_call 220;refine Bo (HI.o _) ?_;rintro e w' ⟨rfl,rfl⟩)
 go_ret;exact⟨rfl,rfl⟩
end
section
attribute [local go_sem] Oper.semAt_some
def wF (w:World) (a:Addr):Nat:=match w.cell? a with|some (.string b)=>b.size|_=>0
theorem uF {w:World} {a:Addr} {l:Y0} (h:w.cell? a=some (.string (bs l))):wF w a=l.length:=by
 unfold wF;rw[h];exact co l
theorem yQ (n l Bs Bp Bv G:Nat) (J:Y0->World->Prop) (N:World->Prop) (O:∀z W W',J z W->W.grownBy W' (some Bs)->J z W') (hY:∀x t D,J (x++47::t) D->(∀c∈x,c≠47)->x.length<=1099511627776->YieldAt Fence.wide (n-1) Ao l #[.string (bs x)] D λe W'=>(e=.returned true/\J t W'/\Below G D W')\/(e=.returned false/\N W')) (hs:Bs<G) (V:Bp<G) (hv:Bv<G) (Kc:Bp≠Bs) (Ml:Bv≠Bs) (s:Y0) (W:World) (i:ag W Bs 9 #[s]) (j:ag W Bp 9 #[.string (bs [47])]) (B:ag W Bv 3 #[i0]) (h0:J (s++[47]) W) (Kd:s.length<=1099511627776):CallsIn Fence.wide n Ao 195 #[.func (.yield l) #[] #[],(Bp,0),(Bs,0),(Bv,0)] W λe W'=>(∃v,e=.returned v)/\(J [] W'\/N W'):=by
 have HI:=aa Ak;have HJ:=aa O;have HY:=aa hY;clear O hY;refine callsIn_of_wp Tryz.func195 rfl trivial ?_ rfl;simp only[Tryz.ntmps195,List.size_toArray,List.length_cons,List.length_nil,Nat.reduceAdd,Nat.reduceSub,Array.replicate_succ,Array.replicate_zero,List.push_toArray,List.append_toArray,List.nil_append,List.cons_append];have p0:W.cell? (Bp,0)=some (.string (bs [47])):=j.cell 0;gi_wp2;gi_loopw [7,8] (λ_ _ wr=>∃r:Y0,ag wr Bs 9 #[r]/\ag wr Bp 9 #[.string (bs [47])]/\ag wr Bv 3 #[i0]/\J (r++[47]) wr/\r.length<=1099511627776) (λ_ _ wr=>wF wr (Bs,0));case atStart=>exact⟨s,i,j,B,h0,Kd⟩
 case round=>clear p0 i j B h0 Kd;obtain⟨r,H,I,K,b,Kd⟩:=hrel;have c0:wr.cell? (Bs,0)=r:=H.cell 0;have c1:wr.cell? (Bp,0)=some (.string (bs [47])):=I.cell 0;have c2:wr.cell? (Bv,0)=i0:=K.cell 0;rcases uj 47 r with⟨hi,hx⟩|⟨x,t,rfl,hx,hi⟩;(. have U:ab (∀w,Calls Ao 197 #[r,.string (bs [47])] w λe w'=>e=.returned (.int .i64 (-1))/\w=w'):=aa (λw=>by have:=HI.o r w;rwa [hi]at this);obtain⟨fn,tmps,assign,body,hy,hR⟩:=HY.o r [] wr b hx Kd;have HR:=aa hR;clear hi hx b hR;gi_wp2_with (refine⟨trivial,λh=>absurd h dc0,?_⟩;refine CallsIn.mono (callsIn_wide.2 (U.o _)) ?_;rintro e w' ⟨rfl,rfl⟩);refine⟨λh=>absurd h dc0,RoundIn.mono HR.o ?_⟩;rintro e u (⟨rfl,f,Z⟩|⟨rfl,d⟩);(. gi_wp2;go_end0;exact⟨⟨_,rfl⟩,.inl f⟩);. gi_wp2;go_end0;exact⟨⟨_,rfl⟩,.inr d⟩);. obtain⟨k,hk⟩:=zq (x.length);rw[<-hk]at hi;have U:ab (∀w,Calls Ao 197 #[.string (bs (x++47::t)),.string (bs [47])] w λe w'=>e=.returned k/\w=w'):=aa (λw=>by have:=HI.o (x++47::t) w;rwa [hi]at this);(have Kk:x.length<=1099511627776:=by rw[List.length_append,List.length_cons]at Kd;omega);(have y:t.length<(x++47::t).length:=zg4);(have S:k+1<=(x++47::t).length:=zg4);(have e2:x++47::t++[47]=x++47::(t++[47]):=by simp);rw[e2]at b;obtain⟨fn,tmps,assign,body,hy,hR⟩:=HY.o x (t++[47]) wr b hx Kk;(have hT:(x++47::t).take k=x:=by rw[hk];simp);(have hD:(x++47::t).drop (k+1)=t:=by rw[hk,List.drop_append];have e3:x.length+1-x.length=1:=om;rw[e3,List.drop_eq_nil_of_le om];rfl);obtain⟨L,Kh⟩:=zq (x++47::t);rw[<-Kh]at U H c0 Kd y S hT hD;rw[<-hT]at hy;have hk0:(k:Int)<=(L.length:Int):=om;have Le:(k:Int)+1<=(L.length:Int):=om;have HR:=aa hR;have HD:=aa hD;have o:=aa y;have M:=aa c0;clear hi hx b hR hk hT hD Kh e2 Kk y;gi_wp2_with (refine⟨trivial,λh=>absurd h dc0,?_⟩;refine CallsIn.mono (callsIn_wide.2 (U.o _)) ?_;rintro e w' ⟨rfl,rfl⟩);refine⟨λh=>absurd h dc0,RoundIn.mono HR.o ?_⟩;rintro e u (⟨rfl,f,Z⟩|⟨rfl,d⟩);(. have g:=H.below Z hs;have m:=I.below Z V;have q:=K.below Z hv;have d0:u.cell? (Bs,0)=L:=g.cell 0;have d1:u.cell? (Bp,0)=some (.string (bs [47])):=m.cell 0;have d2:u.frozen? (Bs,0)=false:=g.frozen 0;have A:=HJ.o _ _ _ f (cP u (Bs,0) t);have C:=g.set_ 0 t;have E:=m.far (p:=(Bs,0)) Kc t;have F:=q.far (p:=(Bs,0)) Ml t;have HQ:=aa (And.intro A (And.intro C (And.intro E F)));clear f Z g m q A C E F H I K c0 c1 c2 hy;gi_wp2;rw[HD.o];(go_roundw);(case rel=>obtain⟨h1,h2,h3,h4⟩:=HQ.o;exact⟨t,h2,h3,h4,h1,by have:=o.o;omega⟩);case measure=>(have h5:=HQ.o.2.1.cell 0);have h6:=uF (a:=(Bs,0)) h5;have h7:=uF (a:=(Bs,0)) M.o;have h8:=o.o;rw[h6,h7];omega);. gi_wp2;refine bodyPost_ret (results_none rfl _ _ _) rfl ?_;exact⟨⟨_,rfl⟩,.inr d⟩
theorem uu {f:FuncId} {fn:Func} {c:Code} (hf:Ao.funcs[f]?=some fn) (a:(fn.name== "runtime.NumGoroutine")=false) (hb:fn.body=some c):∀args w,(callFunc f args).run Ao w=.ok (.enter f args) w:=by
 exact zbA
def De (B:Nat) (I Ix:World->Prop) (W:World):Exit->Act->World->Prop
 |.normal,_,W'=>Gr W W'/\I W'
 |.ret,_,W'=>∃r,r<B/\W.grownBy W' (some r)/\Ix W'
 |_,_,_=>False
theorem sG {g:Operand} {ps:Array Tmp} {assign body:Code} {Q:Exit->Act->World->Prop} {a:Act} {w:World} {n Bs Bp Bv:Nat}
 (hg:a.eval g=.func (.func 195) #[] #[.pointer (some ⟨Bp,0,none⟩),.pointer (some ⟨Bs,0,none⟩),.pointer (some ⟨Bv,0,none⟩)]) (f:ps.size=1)
 (s:Y0) (i:ag w Bs 9 #[.string (bs s)]) (j:ag w Bp 9 #[.string (bs [47])]) (B:ag w Bv 3 #[.int .i64 0]) (Kc:Bp≠Bs) (Ml:Bv≠Bs) (Kd:s.length<=1099511627776)
 (Eq:Y0->World->Prop) (J:World->Prop)
 (o:∀z W W' r,Eq z W->W.grownBy W' r->(∀k,r=some k->k=Bs\/w.heap.size<=k)->Eq z W')
 (L:∀W W' r,J W->W.grownBy W' r->(∀k,r=some k->w.heap.size<=k)->J W')
 (h0:Eq (s++[47]) w) (R:Y0->Act)
 (C:∀(l:Nat) (x:Y0) (W:World) (K:Act->World->Prop),K (R x) W→
  assign.wpIn (Fence.wide.inRound l) (n-1-1) Ao (Exit.then K (λ_ _ _=>False)) {tmps:=(ps.zip #[.string (bs x)]).foldl (λt (p,v)=>t.setIfInBounds p v) a.tmps,defers:=[]} W)
 (F:∀(l:Nat) (x t:Y0) (W:World),Eq (x++47::t) W->(∀c∈x,c≠47)->x.length<=1099511627776->body.wpIn (Fence.wide.inRound l) (n-1-1) Ao (De w.heap.size (Eq t) J W) (R x) W)
 (G:∀(Ke:Nat) (W:World),w.heap.size<=Ke->Eq [] W->W.heap[Ke]?=some (.deferred (some []))->Q .normal {a with defers:={target:=.collected Ke,args:=#[]}::a.defers} W)
 (H:∀(Ke:Nat) (W:World),w.heap.size<=Ke->J W->W.heap[Ke]?=some (.deferred (some []))->Code.ret.wpIn Fence.wide n Ao Q {a with defers:={target:=.collected Ke,args:=#[]}::a.defers} W):
 (Code.rangeFunc g ps assign body).wpIn Fence.wide n Ao Q a w:=by
 refine wpIn_rangeFunc ?_
 intro fn q
 have E:Fence.wide.round=none:=rfl
 rw[E]
 obtain⟨d,b⟩:∃d:LoopState->Option Code->Loop,d=λst pe=>{state:=st,pending:=pe,fn,tmps:=a.tmps,params:=ps,assign,body,defers:=w.heap.size}:=⟨_,rfl⟩
 obtain⟨D,A⟩:∃D,(w.alloc (.deferred (some []))).alloc (.loop (d .ready none))=D:=⟨_,rfl⟩
 have Kg:D.heap[w.heap.size+1]?=some (.loop (d .ready none)):=by
  rw[<-A];have:=World.alloc_heap_new (w.alloc (.deferred (some []))) (.loop (d .ready none));rwa [World.size_alloc]at this
 have M:D.heap[w.heap.size]?=some (.deferred (some [])):=by
  rw[<-A];exact(Below.heap_alloc _ _ _ (by simp)).trans (World.alloc_heap_new w _)
 have I:Gr w D:=by rw[<-A];exact((B4 w).alloc _).alloc _
 have O:Eq (s++[47]) D:=o _ _ _ none h0 ⟨I.below.os,I.below.tape,I.below.output,I.below.size,λk hk _=>I.below.block k hk⟩ (λk e=>by cases e)
 refine⟨w.heap.size+1,[{target:=.collected w.heap.size,args:=#[]}],D,{target:=.fn (.func 195) #[.pointer (some ⟨Bp,0,none⟩),.pointer (some ⟨Bs,0,none⟩),.pointer (some ⟨Bv,0,none⟩)],args:=#[.func (.yield (w.heap.size+1)) #[] #[]]},D,195,
  #[.func (.yield (w.heap.size+1)) #[] #[]]++#[.pointer (some ⟨Bp,0,none⟩),.pointer (some ⟨Bs,0,none⟩),.pointer (some ⟨Bv,0,none⟩)],D,?_,?_,?_,?_,λh=>absurd h dc0,?_⟩
 . rw[<-A,b];exact run_enterLoop_outer _ _ _ _ _
 . simp only[resolve,hg]
   simp[go_sem]
 . intro m S;trivial
 . have eg:∀args w,(callFunc 195 args).run Ao w=.ok (.enter 195 args) w:=uu Tryz.func195 zc0 rfl
   simp[invoke,go_sem,eg]
 . refine(yQ (n-1) (w.heap.size+1) Bs Bp Bv w.heap.size
    (λz W=>Eq z W/\W.heap[w.heap.size+1]?=some (.loop (d .ready none))/\W.heap[w.heap.size]?=some (.deferred (some [])))
    (λW=>J W/\W.heap[w.heap.size+1]?=some (.loop (d .done (some .ret)))/\W.heap[w.heap.size]?=some (.deferred (some [])))
    (λz W W' h hg'=>⟨o _ _ _ _ h.1 hg' (λk e=>.inl (by cases e;rfl)),(hg'.block _ (Array.getElem?_eq_some_iff.1 h.2.1).1 (λe=>by have:=i.lt;injection e with e;omega)).trans h.2.1,(hg'.block _ (Array.getElem?_eq_some_iff.1 h.2.2).1 (λe=>by have:=i.lt;injection e with e;omega)).trans h.2.2⟩)
    ?_ i.lt j.lt B.lt Kc Ml s D (i.gr I) (j.gr I) (B.gr I) ⟨O,Kg,M⟩ Kd).mono ?_
   . rintro x t W ⟨hi,hl,hk⟩ hx Kk
     have hlt:w.heap.size+1<W.heap.size:=(Array.getElem?_eq_some_iff.1 hl).1
     have hy:=run_yield (P:=Ao) (args:=#[.string (bs x)]) hl (by rw[b];exact f.symm)
     rw[b]at hy
     refine⟨fn,_,assign,body,hy,roundIn_of_wpIn q (C _ x W _ ⟨_,run_beginRound hl (by rw[b]),?_⟩)⟩
     have Kx:(W.putObj (w.heap.size+1) (.loop {d .ready none with state:=.busy})).heap[w.heap.size+1]?=some (.loop {d .ready none with state:=.busy}):=World.putObj_heap_same hlt
     have Kn:(W.putObj (w.heap.size+1) (.loop {d .ready none with state:=.busy})).heap[w.heap.size]?=some (.deferred (some [])):=(World.putObj_heap_other om).trans hk
     have y:=grownBy_putObj' W (w.heap.size+1) (.loop {d .ready none with state:=.busy})
     refine wpIn_mono (F _ x t _ (o _ _ _ _ hi y (λk e=>.inr ziE)) hx Kk) ?_
     rintro e a3 u V
     cases e with
     |normal=>
      obtain⟨g3,Kw⟩:=V
      have U:=(g3.below.block _ (Array.getElem?_eq_some_iff.1 Kx).1).trans Kx
      have Z:=(g3.below.block _ (Array.getElem?_eq_some_iff.1 Kn).1).trans Kn
      have hr:=run_endRound (P:=Ao) none U
      have N:=grownBy_putObj' u (w.heap.size+1) (.loop (d .ready none))
      rw[b]at hr
      refine⟨_,_,hr,.inl ⟨rfl,⟨o _ _ _ _ Kw (grownBy_putObj' u (w.heap.size+1) _) (λk e=>.inr ziE),?_,?_⟩,?_⟩⟩
      . exact zb2
      . exact(World.putObj_heap_other om).trans Z
      . have b2:Below w.heap.size W (W.putObj (w.heap.size+1) (.loop {d .ready none with state:=.busy})):=(Below.refl _ W).grown y om (λk e=>by cases e;omega)
        have b3:Below w.heap.size (W.putObj (w.heap.size+1) (.loop {d .ready none with state:=.busy})) u:=Below.mono g3 (Nat.le_trans (Nat.le_of_lt (Nat.lt_of_succ_lt hlt)) y.size)
        have b4:=(Below.refl w.heap.size u).grown (grownBy_putObj' u (w.heap.size+1) (.loop (d .ready none))) (by have:=(Array.getElem?_eq_some_iff.1 U).1;omega) (λk e=>by cases e;omega)
        rw[b]at b4
        exact(b2.trans b3).trans b4
     |ret=>
      obtain⟨r,La,g3,Kw⟩:=V
      have U:=(g3.block _ (Array.getElem?_eq_some_iff.1 Kx).1 (λe=>by injection e with e;omega)).trans Kx
      have Z:=(g3.block _ (Array.getElem?_eq_some_iff.1 Kn).1 (λe=>by injection e with e;omega)).trans Kn
      have hr:=run_endRound (P:=Ao) (some .ret) U
      rw[b]at hr
      refine⟨_,_,hr,.inr ⟨rfl,L _ _ _ Kw (grownBy_putObj' u (w.heap.size+1) _) (λk e=>by cases e;omega),?_,?_⟩⟩
      . exact zb2
      . exact(World.putObj_heap_other om).trans Z
     |exit id=>exact V.elim
     |goto t=>exact V.elim
     |panic X=>exact V.elim
     |outgrown=>exact V.elim
   . rintro e T ⟨⟨v,rfl⟩,(⟨hi,hl,hk⟩|⟨hi,hl,hk⟩)⟩
     . exact⟨none,_,by have:=run_endLoop (P:=Ao) hl (by rw[b];simp);rw[b]at this;exact this,G _ _ (Dg _) (o _ _ _ _ hi (grownBy_putObj' T (w.heap.size+1) _) (λk e=>.inr ziE)) ((World.putObj_heap_other om).trans hk)⟩
     . exact⟨some .ret,_,by have:=run_endLoop (P:=Ao) hl (by rw[b];simp);rw[b]at this;exact this,H _ _ (Dg _) (L _ _ _ hi (grownBy_putObj' T (w.heap.size+1) _) (λk e=>by cases e;omega)) ((World.putObj_heap_other om).trans hk)⟩
end
section
attribute [local go_sem] Oper.semAt_some
theorem AT (n:Nat):(97<=n/\n<=122)\/(97<=n/\¬n<=122)\/(¬97<=n/\48<=n/\n<=57)\/(¬97<=n/\48<=n/\¬n<=57/\n=95)\/(¬97<=n/\48<=n/\¬n<=57/\n≠95)\/(¬97<=n/\¬48<=n/\n=45)\/(¬97<=n/\¬48<=n/\n≠45):=om
theorem Am:pL 122 (λn=>!fg n):=by
 intro R w hR;show Calls Ao 122 #[.int .i32 (R:Int)] w λe w'=>e=.returned (.bool (!fg R))/\Gr w w'
 rcases AT R with⟨h1,h2⟩|⟨h1,h2⟩|⟨h1,h2,h3⟩|⟨h1,h2,h3,h4⟩|⟨h1,h2,h3,h4⟩|⟨h1,h2,h3⟩|⟨h1,h2,h3⟩;. have O:ab (fg R=true):=aa (by simp[fg,h1,h2]);have q1:¬(R:Int)<97:=om;have q2:¬(122:Int)<(R:Int):=om;clear h1 h2;exact zcD
 . have O:ab (fg R=false):=aa zig;have q1:¬(R:Int)<97:=om;have q2:(122:Int)<(R:Int):=om;have q3:¬(R:Int)<48:=om;have q4:(57:Int)<(R:Int):=om;(have q5:((R:Int)==45)=false:=zc2);(have q6:((R:Int)==95)=false:=zc2);(have q7:((R:Int)!=45)=true:=zc3);(have q8:((R:Int)!=95)=true:=zc3);clear h1 h2;exact zcD
 . have O:ab (fg R=true):=aa (by simp[fg,h2,h3]);have q1:(R:Int)<97:=om;have q3:¬(R:Int)<48:=om;have q4:¬(57:Int)<(R:Int):=om;clear h1 h2 h3;exact zcD
 . subst h4;have O:ab (fg 95=true):=aa dc0;exact zcD
 . have O:ab (fg R=false):=aa zig;have q1:(R:Int)<97:=om;have q3:¬(R:Int)<48:=om;have q4:(57:Int)<(R:Int):=om;(have q5:((R:Int)==45)=false:=zc2);(have q6:((R:Int)==95)=false:=zc2);(have q7:((R:Int)!=45)=true:=zc3);(have q8:((R:Int)!=95)=true:=zc3);clear h1 h2 h3 h4;exact zcD
 . subst h3;have O:ab (fg 45=true):=aa dc0;exact zcD
 . have O:ab (fg R=false):=aa zig;have q1:(R:Int)<97:=om;have q3:(R:Int)<48:=om;(have q5:((R:Int)==45)=false:=zc2);(have q6:((R:Int)==95)=false:=zc2);(have q7:((R:Int)!=45)=true:=zc3);(have q8:((R:Int)!=95)=true:=zc3);clear h1 h2 h3;exact zcD
theorem wD (s:Y0) (w:World):Calls Ao 164 #[s,.string (bs [47]),i0] w λe w'=>e=.returned (.func (.func 195) #[] #[(w.heap.size+1,0),(w.heap.size,0),(w.heap.size+1+1,0)])∧w'=((w.alloc (.cells #[s] 9)).alloc (.cells #[.string (bs [47])] 9)).alloc (.cells #[i0] 3):=by
 go_enter Tryz.func164,Tryz.ntmps164
 go_wp2_with fail
 go_ret;exact⟨rfl,rfl⟩
theorem vu (s:Y0) (w:World):Calls Ao 121 #[s,.string (bs [47])] w λe w'=>e=.returned (.func (.func 195) #[] #[(w.heap.size+1,0),(w.heap.size,0),(w.heap.size+1+1,0)])∧w'=((w.alloc (.cells #[s] 9)).alloc (.cells #[.string (bs [47])] 9)).alloc (.cells #[i0] 3):=by
 have H:=aa (wD s);go_enter Tryz.func121,Tryz.ntmps121
 go_wp2_with(go_at_call 164;refine Bo (H.o _) ?_;rintro e w1 ⟨rfl,rfl⟩)
 go_ret;exact⟨rfl,rfl⟩
theorem zg {W D:World} (g:Gr W D) (b:Nat) (u:Value):W.grownBy (D.setCell (b,0) u) (some b):=by
 have k:=cP D (b,0) u;exact⟨k.os.trans g.below.os,k.tape.trans g.below.tape,k.output.trans g.below.output,Nat.le_trans g.below.size k.size,λi hi hne=>(k.block i (Nat.lt_of_lt_of_le hi g.below.size) hne).trans (g.below.block i hi)⟩
theorem li (s:Y0) (w:World) (hs:s.length<=1099511627776):Calls Ao 85 #[s] w λe w'=>e=.returned (fo s)/\Gr w w':=by
 have HC:=aa (λ(x:Y0) (hx:x.length<=1099511627776) w=>kt 122 _ Am (λR h=>by simp[fg];omega) (uu Tryz.func122 zc0 rfl) x w om);have HS:=aa (vu s);refine(callsIn_wide (n:=3)).1 ?_
 refine callsIn_of_wp_marks Tryz.func85 rfl trivial ?_ rfl;simp only[Tryz.ntmps85,List.size_toArray,List.length_cons,List.length_nil,Nat.reduceAdd,Nat.reduceSub,Array.replicate_succ,Array.replicate_zero,List.push_toArray,List.append_toArray,List.nil_append,List.cons_append];by_cases g:s.length<=60;. have i:¬(60:Int)<(s.length:Int):=om;gi_wp2_with (refine⟨trivial,?_⟩;refine CallsIn.mono (callsIn_wide.2 (HS.o _)) ?_;rintro e w1 ⟨rfl,rfl⟩);obtain⟨wl,Li⟩:=zq ((((w.alloc (.cells #[false] 4)).alloc (.cells #[s] 9)).alloc (.cells #[.string (bs [47])] 9)).alloc (.cells #[i0] 3));(have b0:ag wl w.heap.size 4 #[false]:=by rw[Li];exact(((ag.new w _ _).alloc _).alloc _).alloc _);(have b1:ag wl (w.heap.size+1) 9 #[s]:=by rw[Li];exact((ag.new1 w _ _ _).alloc _).alloc _);(have b2:ag wl (w.heap.size+1+1) 9 #[.string (bs [47])]:=by rw[Li];have:=ag.new ((w.alloc (.cells #[false] 4)).alloc (.cells #[s] 9)) 9 #[.string (bs [47])];rw[World.size_alloc,World.size_alloc]at this;exact this.alloc _);(have b3:ag wl (w.heap.size+1+1+1) 3 #[i0]:=by rw[Li];have:=ag.new (((w.alloc (.cells #[false] 4)).alloc (.cells #[s] 9)).alloc (.cells #[.string (bs [47])] 9)) 3 #[i0];exact zb5);(have g0:Gr w wl:=by rw[Li];exact((((B4 w).alloc _).alloc _).alloc _).alloc _);rw[<-Li];clear Li;have L:w.heap.size<wl.heap.size:=b0.lt;refine sG (n:=3) (Bs:=w.heap.size+1) (Bp:=w.heap.size+1+1) (Bv:=w.heap.size+1+1+1) rfl rfl s b1 b2 b3 om om hs (λz W=>iS 0 (s++[47])=iS 0 z/\ag W w.heap.size 4 #[false]/\Gr w W) (λW=>iS 0 (s++[47])=false/\ag W w.heap.size 4 #[false]/\Gr w W) (λz W W' r h hg hr=>⟨h.1,h.2.1.grown hg (λe=>by have:=hr _ e.symm;omega),h.2.2.grown hg (λk e=>by have:=hr _ e;omega)⟩) (λW W' r h hg hr=>⟨h.1,h.2.1.grown hg (λe=>by have:=hr _ e.symm;omega),h.2.2.grown hg (λk e=>by have:=hr _ e;omega)⟩) ⟨rfl,b0,g0⟩ (λx=>{tmps:=#[s,undef,(w.heap.size,0),.string (bs x),undef,s,s.length,false,s,.func (.func 195) #[] #[(w.heap.size+1+1,0),(w.heap.size+1,0),(w.heap.size+1+1+1,0)],.string (bs x),undef,undef,undef,undef,undef,undef,undef],defers:=[]}) ?assign ?body ?done ?stop;(case assign=>intro l x W K hK;gi_wp2;exact hK);(case body=>rintro l x t W ⟨hz,hb,hg⟩ hx Kk;have hh:=Gn (t:=t) hx;rw[<-hz]at hh;have a:=aa (HC.o x Kk);have HH:=aa hh;have HB:=aa hb;have Lc:ab (x.any (λc=>!fg c.toNat)=false->x≠[]->iS 0 (s++[47])=iS 0 t):=aa (λh1 h2=>by rw[HH.o];(have h3:x.all (λc=>fg c.toNat)=true:=by rw[sH]at h1;simpa using h1);rw[h3];cases x with|nil=>exact absurd rfl h2|cons c r=>rfl);have u:ab (x.any (λc=>!fg c.toNat)=true->iS 0 (s++[47])=false):=aa (λh1=>by rw[HH.o,Iw h1];simp);have Kq:ab (x=[]->iS 0 (s++[47])=false):=aa (λh1=>by rw[HH.o,h1];rfl);have c0:W.cell? (w.heap.size,0)=false:=hb.cell 0;have f0:W.frozen? (w.heap.size,0)=false:=hb.frozen 0;clear hh hz hx b0 b1 b2 b3 hb HS HC;obtain⟨b,d⟩:=zq (x.any (λc=>!fg c.toNat));rw[<-d]at a Lc u;by_cases Ks:x=[];(. have HF:=aa (Kq.o Ks);subst Ks;clear Lc u Kq d;gi_wp2;refine⟨trivial,?_⟩;gi_wp2;exact⟨w.heap.size,L,cP _ _ _,HF.o,HB.o.set_ 0 _,hg.setCell (p:=(w.heap.size,0)) (Dg _) _⟩);. (have hne:(x==[])=false:=by rw[beq_eq_false_iff_ne];exact Ks);have Np:=aa Ks;clear d Ks;cases b;(. have HF:=aa (Lc.o rfl Np.o);clear Lc u Kq;gi_wp2_with (refine⟨trivial,?_⟩;refine CallsIn.mono (CallsIn.inRound l (callsIn_wide.2 (a.o _))) ?_;rintro e w1 ⟨rfl,I⟩);exact⟨I,HF.o,HB.o.gr I,hg.trans I⟩);. have HF:=aa (u.o rfl);clear Lc u Kq;gi_wp2_with (refine⟨trivial,?_⟩;refine CallsIn.mono (CallsIn.inRound l (callsIn_wide.2 (a.o _))) ?_;rintro e w1 ⟨rfl,I⟩;have c1:w1.cell? (w.heap.size,0)=false:=(HB.o.gr I).cell 0;have f1:w1.frozen? (w.heap.size,0)=false:=(HB.o.gr I).frozen 0);exact⟨w.heap.size,L,zg I _ _,HF.o,(HB.o.gr I).set_ 0 _,(hg.trans I).setCell (p:=(w.heap.size,0)) (Dg _) _⟩);(case done=>rintro Ke W hD ⟨hz,hb,hg⟩ hK;have c0:W.cell? (w.heap.size,0)=false:=hb.cell 0;have f0:W.frozen? (w.heap.size,0)=false:=hb.frozen 0;have HF:ab (fo s=true):=aa (by unfold fo;rw[hz,decide_eq_true g];rfl);have HB:=aa hb;clear hz hb HC HS b0 b1 b2 b3;gi_wp2;(have P:=(Array.getElem?_eq_some_iff.1 hK).1);(have hK':(W.setCell (w.heap.size,0) true).heap[Ke]?=some (.deferred (some [])):=(Below.heap_setCell W (w.heap.size,0) true Ke (by show Ke≠w.heap.size;omega)).trans hK);(have f:=(HB.o.set_ 0 true).grown (grownBy_putObj' _ Ke (.deferred none)) (λe=>by injection e with e;omega));have C:World.cell? ((W.setCell (w.heap.size,0) true).putObj Ke (.deferred none)) (w.heap.size,0)=some (.bool true):=f.cell 0;(have hG:=(hg.setCell (p:=(w.heap.size,0)) (Dg _) true).grown (grownBy_putObj' _ Ke (.deferred none)) (λk e=>by cases e;omega));refine⟨by simp,.inl ⟨_,_,rfl,run_takeDeferred hK',?_⟩⟩;refine⟨.bool true,?_,by rw[HF.o],hG⟩;simp[results,Tryz.f85,go_sem,C]);case stop=>rintro Ke W hD ⟨hz,hb,hg⟩ hK;have HF:ab (fo s=false):=aa (by unfold fo;rw[hz];rfl);gi_wp2;have f:=hb.grown (grownBy_putObj' W Ke (.deferred none)) (λe=>by injection e with e;omega);have C:World.cell? (W.putObj Ke (.deferred none)) (w.heap.size,0)=some (.bool false):=f.cell 0;have hG:=hg.grown (grownBy_putObj' W Ke (.deferred none)) (λk e=>by cases e;omega);refine⟨by simp,.inl ⟨_,_,rfl,run_takeDeferred hK,?_⟩⟩;refine⟨.bool false,?_,by rw[HF.o],hG⟩;simp[results,Tryz.f85,go_sem,C]
 . have i:(60:Int)<(s.length:Int):=om;have HF:ab (fo s=false):=aa (by unfold fo;rw[decide_eq_false g];simp);have hB:=ag.new w 4 #[false];(have C:(w.alloc (.cells #[false] 4)).cell? (w.heap.size,0)=false:=hB.cell 0);gi_wp2_with fail;refine⟨.bool false,?_,by rw[HF.o],(B4 w).alloc _⟩;simp[results,Tryz.f85,go_sem,C]
end
theorem mD (s:aF) (A:Yy) (c:Nat) (B:Yy) (d:Nat) (w:World) (hR:mS w s A c B d) (hz:dJ 1099511627776 s):Calls Ao 103 #[.agg (aP s A c B d)] w λe w'=>e=.returned (eR s)/\Gr w w':=by
 have a:=aa (λw=>li s.r w hz.r);obtain⟨J,H⟩:=zq (w.alloc (.cells (aP s A c B d) 73));have hb:ag J w.heap.size 73 (aP s A c B d):=zeM
 have t:Gr w J:=zc5
 obtain⟨p,V⟩:=zq (w.heap.size);rw[<-V]at hb;have HW:=aa (hR.who.gr t);have HS:=aa (hR.seals.gr t);have Li:=hz.who;have Kv:=hz.seals;obtain⟨Kb,hV⟩:∃Kb:Int,Kb=eR s:=⟨_,rfl⟩;rw[<-hV];have HV:=aa hV;obtain⟨r,o,n,who,seals⟩:=s;simp only at a Li Kv HW HS;unfold aP at hb H;unfold aP;simp only at hb H⊢;have f:ab (∀w',Gr J w'->w'.cell? (p,0)=r/\w'.cell? (p,1)=o/\w'.cell? (p,2)=n/\w'.cell? (p,3)=(A,who.length,c)/\w'.cell? (p,4)=(B,seals.length,d)):=aa (λw' g=>⟨(hb.gr g).cell 0,(hb.gr g).cell 1,(hb.gr g).cell 2,(hb.gr g).cell 3,(hb.gr g).cell 4⟩);clear hb hV hR hz;obtain⟨ok,z⟩:∃ok:Bool,ok=CH ⟨r,o,n,who,seals⟩:=⟨_,rfl⟩;have K:=aa z;clear z;go_enter Tryz.func103,Tryz.ntmps103
 go_upto_region 1 with fail
 rw[<-H,<-V];clear H V;obtain⟨c0,c1,c2,c3,c4⟩:=f.o J (B4 _);go_cut [39]from 5 to 39 (λv39 wc=>v39=.bool (!ok)/\Gr J wc)
 case first=>obtain⟨rb,Lq⟩:=zq (fo r);rw[<-Lq]at a;(have z:ok=(rb&&(ip o&&(ip n&&!(o==n)))):=by rw[K.o,Lq];rfl);clear Lq;cases rb;(. have O:ab (ok=false):=aa zhh;clear z;exact zai);. rcases kP o with⟨a1,a2⟩|⟨a1,a2,a3⟩|⟨a1,a2,a3⟩;(. rw[a2]at z;clear a2;exact zcr);(. rw[a3]at z;clear a3;exact zcr);. have O:ab (ok=false):=aa (by rw[z,a3];simp);clear z a3;exact zai
 case rest=>obtain⟨rfl,gc⟩:=hcut;clear c0 c1 c2 c3 c4;obtain⟨c0,c1,c2,c3,c4⟩:=f.o wc gc;cases ok;(. have Eq:ab (Kb=2):=aa zhQ;(go_wp2_with fail);go_ret;exact⟨by rw[Eq.o];rfl,t.trans gc⟩);. have Ke:ab (Kb=if 8<who.length\/¬seals.length=who.length then 6 else od (-1) who seals):=aa zhQ;by_cases h8:8<who.length;(. have q8:(8:Int)<(who.length:Int):=om;have X:ab (Kb=6):=aa (by rw[Ke.o,if_pos (Or.inl h8)]);clear h8;exact zek);. have q8:¬(8:Int)<(who.length:Int):=om;by_cases hne:seals.length=who.length;(. have Kx:=aa hne;have F:ab (Kb=od (-1) who seals):=aa (by rw[Ke.o,if_neg om]);(have m:((who.length:Int)!=(seals.length:Int))=false:=zeC);clear hne h8;(go_wp2_with fail);clear c0 c1 c2 c3 c4 m;(go_loopg [56,3,4] who.length (λfuel iv _ _ wr=>∃(i:Nat) (u:Int),iv=.int .i64 (i:Int)/\who.length<=i+fuel/\i<=who.length/\ab (jd ⟨r,o,n,who,seals⟩ i u)/\Gr J wr));(case atStart=>exact⟨0,-1,rfl,om,om,aa (Gt _),gc⟩);case round=>obtain⟨i,u,rfl,Kj,hi,Kp,hg⟩:=hrel;by_cases hlt:i<who.length;(. (have Kt:i<seals.length:=zij);have Ki:(i:Int)<(who.length:Int):=om;have Kk:(i:Int)<(seals.length:Int):=om;(obtain⟨b,off,rfl,e0⟩:=(HW.o.gr hg).cell hlt);(obtain⟨b2,D,rfl,x0⟩:=(HS.o.gr hg).cell Kt);obtain⟨c0,c1,c2,c3,c4⟩:=f.o wr hg;have h:=Kp.o.here (s:=⟨r,o,n,who,seals⟩) hlt Kt;have C:=aa (λh1 h2=>Kp.o.next (s:=⟨r,o,n,who,seals⟩) hlt Kt h1 h2);have Np:=Kp.o.low (s:=⟨r,o,n,who,seals⟩) (Nat.le_of_lt hlt);simp only at h C;have Q:ab (∀j,i=j+1->wr.cell? ⟨b,off+j,none⟩=u):=aa (λj hj=>by(obtain⟨b',Kl,e,h0⟩:=(HW.o.gr hg).cell (i:=j) om);injection e with e;injection e with e3 e4 _;subst e3 e4;(have:=(Kp.o.2.2 ⟨om,Nat.le_of_lt hlt⟩).1);subst hj;rw[this];exact h0);(have Ks:ab (i=0->u=-1):=aa Kp.o.2.1);obtain⟨mw,R⟩:=zq (who[i]);obtain⟨sl,l⟩:=zq (seals[i]);rw[<-R,<-l]at h C;rw[<-R]at e0;rw[<-l]at x0;have N:=aa h;have U:=aa (And.intro Kt hlt);clear R l h Kt hlt;by_cases Kn:mw<=u\/7<mw;(. have Kf:ab (Kb=3):=aa (by rw[F.o,N.o,if_pos Kn]);by_cases g0:mw<0;(. have q0:decide (mw<0)=true:=decide_eq_true g0;clear Kn;exact zdY);. have q0:decide (mw<0)=false:=decide_eq_false g0;by_cases I:8<=mw;(. have q1:decide (8<=mw)=true:=decide_eq_true I;clear Kn;exact zdY);. have q1:decide (8<=mw)=false:=decide_eq_false I;(have L:i≠0:=λe=>by have:=Ks.o e;omega);obtain⟨j,hj⟩:∃j,i=j+1:=⟨i-1,om⟩;have p0:=Q.o j hj;have T:(i:Int)-1=(j:Int):=om;have Lg:0<i:=om;have hjk:(j:Int)<(who.length:Int):=om;have q2:decide (mw<=u)=true:=decide_eq_true om;clear Kn hj L;exact zdY);. have q0:decide (mw<0)=false:=decide_eq_false om;have q1:decide (8<=mw)=false:=decide_eq_false om;have q2:decide (mw<=u)=false:=decide_eq_false om;by_cases k:sl.length=32;(. (have q3:((sl.length:Int)!=32)=false:=zeC);have Ku:ab (jd ⟨r,o,n,who,seals⟩ (i+1) mw):=aa (C.o Kn k);clear Kn k;by_cases L:i=0;(. have Lg:¬0<i:=om;clear L;exact zdz);. obtain⟨j,hj⟩:∃j,i=j+1:=⟨i-1,om⟩;have p0:=Q.o j hj;have T:(i:Int)-1=(j:Int):=om;have Lg:0<i:=om;have hjk:(j:Int)<(who.length:Int):=om;clear hj L;exact zdz);. (have q3:((sl.length:Int)!=32)=true:=zc3);have Eq:ab (Kb=2):=aa (by rw[F.o,N.o,if_neg Kn,if_neg k]);clear Kn k;by_cases L:i=0;(. have Lg:¬0<i:=om;clear L;exact zed);. obtain⟨j,hj⟩:∃j,i=j+1:=⟨i-1,om⟩;have p0:=Q.o j hj;have T:(i:Int)-1=(j:Int):=om;have Lg:0<i:=om;have hjk:(j:Int)<(who.length:Int):=om;clear hj L;exact zed);. have HE:ab (Kb=0):=aa (by rw[F.o];exact Kp.o.done (s:=⟨r,o,n,who,seals⟩) zeD);obtain rfl:i=who.length:=om;clear hlt Kj;(go_wp2_with fail);go_ret;exact⟨by rw[HE.o];rfl,t.trans hg⟩);. (have m:((who.length:Int)!=(seals.length:Int))=true:=zc3);have X:ab (Kb=6):=aa (by rw[Ke.o,if_pos (Or.inr hne)]);clear hne h8;exact zek
def ye (s:aF):Y0:=txt s.r++txt s.o++txt s.n++aZ s.who.length
def iG (s:aF) (i:Nat):dS:=(ye s++fK (s.who.take i) (s.seals.take i),0)
theorem Fi {s:aF} (h:eR s=0) (i:Nat):(iG s i).1.length<=2048:=by
 obtain⟨_,h1,h2,h3,h4,h5,h6,_,_⟩:=gJ h;have a:=gV s.r om;have b:=gV s.o om;have c:=gV s.n om;have d:=rT (s.who.take i) (s.seals.take i) 32 (λx hx=>by rw[h6 x (List.mem_of_mem_take hx)];omega);have e:(aZ s.who.length).length<=9:=by rw[m9 om];exact eE om
 have f:(s.who.take i).length*(32+9)<=8*(32+9):=Nat.mul_le_mul_right _ zeA
 unfold iG ye;simp only[List.length_append];omega
theorem CM (s:aF):iG s 0=(ye s,0):=by unfold iG;simp[fK]
theorem Dp {s:aF} (i:Nat) (hi:i<s.who.length) (hs:i<s.seals.length):iG s (i+1)=((iG s i).1++aZ s.who[i]++s.seals[i],0):=by
 unfold iG;rw[Cw _ _ i hi hs];simp only[List.append_assoc]
theorem EV {s:aF} (h:eR s=0):bF s=((iG s s.who.length).1,0):=by
 obtain⟨_,_,_,_,_,h5,_,_,_⟩:=gJ h;unfold bF;rw[if_pos h];unfold iG ye;rw[List.take_length,List.take_of_length_le om]
theorem Ec {s:aF} (h:eR s=0):ya s ([],0)=(txt s.r++txt s.o++txt s.n,0):=by
 obtain⟨_,h1,h2,h3,_⟩:=gJ h;have yes:∀(l t:Y0),t.length<=4096->bX t (l,0)=(l++txt t,0):=λl t h=>by unfold bX;rw[if_pos rfl,if_pos h]
 unfold ya;rw[yes _ _ om,yes _ _ om,yes _ _ om];simp
theorem pM (s:aF) (A:Yy) (c:Nat) (B:Yy) (d:Nat) (w:World) (hR:mS w s A c B d) (hz:dJ 1099511627776 s):Calls Ao 61 #[.agg (aP s A c B d)] w λe w'=>e=.returned (.tuple #[(bF s).1,.int .i64 (bF s).2])/\Gr w w':=by
 obtain⟨J,H⟩:=zq (w.alloc (.cells (aP s A c B d) 73));have hb:ag J w.heap.size 73 (aP s A c B d):=zeM
 have t:Gr w J:=zc5
 obtain⟨p,V⟩:=zq (w.heap.size);rw[<-V]at hb;have Kc:ab (Calls Ao 103 #[.agg (aP s A c B d)] J λe w'=>e=.returned (eR s)/\Gr J w'):=aa (mD s A c B d J (hR.gr t) hz);have HB:=aa hb;have f:ab (∀w',Gr J w'->w'.cell? (p,0)=s.r/\w'.cell? (p,1)=s.o/\w'.cell? (p,2)=s.n/\w'.cell? (p,3)=(A,s.who.length,c)/\w'.cell? (p,4)=(B,s.seals.length,d)):=aa (λw' g=>⟨(hb.gr g).cell 0,(hb.gr g).cell 1,(hb.gr g).cell 2,(hb.gr g).cell 3,(hb.gr g).cell 4⟩);obtain⟨c0,c1,c2,c3,c4⟩:=f.o J (B4 _);by_cases hE:eR s=0;. obtain⟨_,z1,z2,z3,z4,z5,z6,z7,_⟩:=gJ hE;have Ko:=aa (EV hE);have Kx:=aa (Fi hE);have x:=aa (Dp (s:=s));have y:=aa (CM s);rw[hE]at Kc;have o:=aa (uM s ([],0));have j:=aa (sW s ([],0));have Lv:ab (iY s ([],0) 3=(txt s.r++txt s.o++txt s.n,0)):=aa (Ec hE);have Ka:ab (∀B g w i,i<3->bf w B g (iY s ([],0) i)->Calls Ao 64 #[.pointer (some ⟨g,0,none⟩),rJ s i] w λe w'=>e=.returned (.tuple #[])/\bf w' B g (iY s ([],0) (i+1))/\Below B w w'/\bY g w w'):=aa (λB g w i hi h=>by have:=qp B g _ (rJ s i) w h (by have:=o.o i;simp only[List.length_nil]at this;omega);rwa [<-j.o i hi]at this);have Km:ab (∀B g w,bf w B g (iY s ([],0) 3)->Calls Ao 63 #[.pointer (some ⟨g,0,none⟩),.int .i64 (s.who.length:Int)] w λe w'=>e=.returned (.tuple #[])/\bf w' B g (iG s 0)/\Below B w w'/\bY g w w'):=aa (λB g w h=>by have:=jB B g _ (s.who.length:Int) w h (by have:=o.o 3;simp only[List.length_nil]at this;omega);rw[Lv.o]at this;(have e:aL (s.who.length:Int) (txt s.r++txt s.o++txt s.n,0)=iG s 0:=by rw[y.o];unfold aL ye;rw[if_pos rfl,if_pos ⟨om,om⟩]);rwa [e]at this);have Kf:ab (∀B g w i (hi:i<s.who.length),bf w B g (iG s i)->Calls Ao 63 #[.pointer (some ⟨g,0,none⟩),.int .i64 s.who[i]] w λe w'=>e=.returned (.tuple #[])/\bf w' B g ((iG s i).1++aZ s.who[i],0)/\Below B w w'/\bY g w w'):=aa (λB g w i hi h=>by have hw:=z7 _ (List.getElem_mem hi);have:=jB B g _ s.who[i] w h (by have:=Kx.o i;omega);(have e:aL s.who[i] (iG s i)=((iG s i).1++aZ s.who[i],0):=by unfold aL;rw[if_pos (show(iG s i).2=0 from rfl),if_pos ⟨om,om⟩]);rwa [e]at this);have Kh:ab (∀B g w i (hi:i<s.who.length) (hs:i<s.seals.length),bf w B g ((iG s i).1++aZ s.who[i],0)->Calls Ao 65 #[.pointer (some ⟨g,0,none⟩),.string (bs s.seals[i])] w λe w'=>e=.returned (.tuple #[])/\bf w' B g (iG s (i+1))/\Below B w w'/\bY g w w'):=aa (λB g w i hi hs h=>by have hw:=z7 _ (List.getElem_mem hi);(have hn:(aZ s.who[i]).length<=9:=zgY);have Lz:=z6 _ (List.getElem_mem hs);have:=mJ B g _ s.seals[i] w h (by simp only[List.length_append];have:=Kx.o i;omega);rw[x.o i hi hs];exact this);have M:ab (∀B g w,bf w B g (iG s s.who.length)->Calls Ao 66 #[.pointer (some ⟨g,0,none⟩)] w λe w'=>e=.returned (.tuple #[(bF s).1,.int .i64 (bF s).2])/\Gr w w'):=aa (λB g w h=>by have:=mO B g _ w h;rw[Ko.o];exact this);have Kp:ab (∀w1:World,bf (w1.alloc (.cells #[n_,i0] 125)) w1.heap.size w1.heap.size (iY s ([],0) 0)):=aa (λw1=>⟨⟨none,0,ag.new w1 _ _,World.ownsRow_nil _ _ _ _⟩,Dg _,by simp[iY]⟩);have HW:=aa (hR.who.gr t);have HS:=aa (hR.seals.gr t);have Kl:=aa z5;have Li:s.who.length<=8:=z4;obtain⟨E,k⟩:=zq (bF s);rw[<-k]at M;rw[<-k];obtain⟨T,hT⟩:=zq (iY s ([],0));rw[<-hT]at Ka Km Kp;obtain⟨Ke,v⟩:=zq (iG s);rw[<-v]at Km Kf Kh M;clear hb k hT v hE hz hR Ko Kx x y o j Lv z1 z2 z3 z4 z5 z6 z7;unfold aP at H Kc;unfold aP;(go_enter Tryz.func61,Tryz.ntmps61);(go_upto_region 1 with fail);rw[<-H,<-V];clear H V;(go_wp2_with(go_at_call 103;refine Bo Kc.o ?_;rintro e w1 ⟨rfl,I⟩;obtain⟨d0,d1,d2,d3,d4⟩:=f.o _ (I.alloc (.cells #[n_,i0] 125))));have hv:=ag.new (w1.alloc (.cells #[n_,i0] 125)) 9 #[s.r,s.o,s.n];rw[World.size_alloc]at hv;(have dv:=(Kp.o w1).gr ((B4 _).alloc (.cells #[s.r,s.o,s.n] 9)));(have gv:=(I.alloc (.cells #[n_,i0] 125)).alloc (.cells #[s.r,s.o,s.n] 9));obtain⟨wb,Kn⟩:=zq ((w1.alloc (.cells #[n_,i0] 125)).alloc (.cells #[s.r,s.o,s.n] 9));obtain⟨g,r⟩:=zq (w1.heap.size);(have a:J.heap.size<=g:=zhZ);rw[<-Kn]at hv dv gv;rw[<-r]at hv dv;rw[<-Kn,<-r];clear Kn r d0 d1 d2 d3 d4;(go_loopg [25,7] 3 (λfuel iv _ wr=>∃i:Nat,iv=.int .i64 (i:Int)/\3<=i+fuel/\i<=3/\bf wr g g (T i)/\ag wr (g+1) 9 #[s.r,s.o,s.n]/\Gr J wr));(case atStart=>exact⟨0,rfl,om,om,dv,hv,gv⟩);case round=>clear hv dv gv;obtain⟨i,rfl,Kj,hi,F,n,C⟩:=hrel;by_cases h3:i<3;(. have m:=Ka.o g g wr i h3 F;(have hc:wr.cell? ⟨g+1,i,none⟩=rJ s i:=zcU);have u:=aa m;have Ki:(i:Int)<3:=om;have H3:=aa h3;clear m h3;(go_wp2_with(go_at_call 64;refine Bo u.o ?_;rintro e w3 ⟨rfl,d3,k3,z⟩));(go_roundg (gk-1));(case rel=>exact⟨i+1,by go_num,om,by have:=H3.o;omega,d3,z (g+1) _ _ om dc0 n,Below.trans C (Below.mono k3 a)⟩);case measure=>have:=H3.o;omega);. obtain rfl:i=3:=om;clear h3 Kj;obtain⟨c0,c1,c2,c3,c4⟩:=f.o wr C;(go_wp2_with(go_at_call 63;refine Bo (Km.o _ _ _ F) ?_;rintro e w3 ⟨rfl,d3,k3,_⟩;have g3:Gr J w3:=Below.trans C (Below.mono k3 a);obtain⟨y0,y1,y2,y3,y4⟩:=f.o w3 g3));clear F n;(go_loopg [41,8,9] s.who.length (λfuel iv _ _ wr=>∃i:Nat,iv=.int .i64 (i:Int)/\s.who.length<=i+fuel/\i<=s.who.length/\bf wr g g (Ke i)/\Gr J wr));(case atStart=>exact⟨0,rfl,om,om,d3,g3⟩);case round=>clear d3 g3 k3;obtain⟨i,rfl,Kj,hi,F,C⟩:=hrel;by_cases hlt:i<s.who.length;(. (have Kt:i<s.seals.length:=ze7);have Ki:(i:Int)<(s.who.length:Int):=om;have Kk:(i:Int)<(s.seals.length:Int):=om;have H4:=Kf.o g g wr i hlt F;have X:=aa (λw h=>Kh.o g g w i hlt Kt h);(obtain⟨b,off,hA,e0⟩:=(HW.o.gr C).cell hlt);(obtain⟨b2,D,hB,x0⟩:=(HS.o.gr C).cell Kt);have Lc:ab (∀W,Gr J W->W.cell? (p,4)=((b2,D),s.seals.length,d)/\W.cell? ⟨b2,D+i,none⟩=some (.string (bs s.seals[i]))):=aa (λW g=>by refine⟨by rw[<-hB];exact(f.o W g).2.2.2.2,?_⟩;(obtain⟨b',o',e',h'⟩:=(HS.o.gr g).cell Kt);rw[hB]at e';injection e' with e';injection e' with e3 e4 _;subst e3 e4;exact h');subst hA;obtain⟨mw,R⟩:=zq (s.who[i]);obtain⟨sl,l⟩:=zq (s.seals[i]);rw[<-R]at e0 H4 X;rw[<-l]at Lc X;have H4:=aa H4;have U:=aa hlt;clear R l Kt hlt x0 hB;(go_wp2_with(first|(go_at_call 63;refine Bo H4.o ?_;rintro e w4 ⟨rfl,d4,k4,_⟩;have g4:Gr J w4:=Below.trans C (Below.mono k4 a);obtain⟨v0,v1⟩:=Lc.o w4 g4)|(go_at_call 65;refine Bo (X.o _ d4) ?_;rintro e w5 ⟨rfl,d5,k5,_⟩;have g5:Gr J w5:=Below.trans g4 (Below.mono k5 a))));(go_roundg (gk-1));(case rel=>exact⟨i+1,by go_num,om,U.o,d5,g5⟩);case measure=>have:=U.o;omega);. obtain Kr:i=s.who.length:=om;rw[Kr]at F;have Ki:¬(i:Int)<(s.who.length:Int):=om;have q:decide (i<s.who.length)=false:=decide_eq_false hlt;clear Kr hlt Kj;(go_wp2_with(go_at_call 66;refine Bo (M.o _ _ _ F) ?_;rintro e w6 ⟨rfl,g6⟩));go_ret2;exact⟨rfl,t.trans (C.trans g6)⟩
 . have HR:ab (bF s=([],eR s)):=aa (by unfold bF;rw[if_neg hE]);rw[HR.o];obtain⟨E,k⟩:=zq (eR s);rw[<-k]at Kc hE;rw[<-k];(have m0:(E !=0)=true:=by simpa using hE);clear k HR hb;unfold aP at H Kc;unfold aP;(go_enter Tryz.func61,Tryz.ntmps61);(go_upto_region 1 with fail);rw[<-H,<-V];clear H V;(go_wp2_with(go_at_call 103;refine Bo Kc.o ?_;rintro e w1 ⟨rfl,I⟩));go_ret2;exact⟨rfl,t.trans I⟩
theorem xm (fs:List Rf) (b:Bool) (h:jF [] fs=b):mz fs=(decide (fs.length<=32)&&b):=by
 unfold mz;rw[h]
theorem AV (fs:List Rf) (A:Yy) (n cap:Nat) (w:World) (hn:n<=1099511627776) (hx:cQ w A n fs) (hs:∀f∈fs,f.1.length<=1099511627776/\f.2.length<=1099511627776):Calls Ao 127 #[(A,n,cap)] w λe w'=>e=.returned (mz fs)/\Gr w w':=by
 have hl:=hx.len;have O:=aa hx;have Kq:=aa hs;obtain⟨Kb,hV⟩:=zq (mz fs);rw[<-hV];have HV:=aa hV;clear hx hs hV;go_enter Tryz.func127,Tryz.ntmps127
 go_wp2_with fail
 go_loopg [7,3,4] n (λfuel iv _ _ wr=>∃(i:Nat) (u:Y0),iv=.int .i64 (i:Int)/\n<=i+fuel/\i<=n/\ab (kX fs i u)/\Gr w wr)
 case atStart=>exact⟨0,[],rfl,om,om,aa (Hb _),B4 _⟩
 case round=>obtain⟨i,u,rfl,Kj,hi,Kp,hg⟩:=hrel;by_cases hlt:i<n;(. have o:i<fs.length:=om;have Ki:(i:Int)<(n:Int):=om;(obtain⟨b,off,rfl,e0,e1⟩:=(O.o.gr hg).cell o);have N:=aa (Kp.o.here o);have C:=aa (λh1 h2=>Kp.o.next o h1 h2);have Q:ab (∀w',Gr w w'->∀j,i=j+1->w'.cell? ⟨b,off+j*2,none⟩=u):=aa (λw' g j hj=>by(obtain⟨b',Kl,e,h0,_⟩:=(O.o.gr g).cell (i:=j) om);injection e with e;injection e with e3 e4 _;subst e3 e4;(have:=Kp.o.2.2 ⟨om,Nat.le_of_lt o⟩);subst hj;rw[this];exact h0);(have Ks:ab (i=0->u=[]):=aa Kp.o.2.1);have hsz:=Kq.o fs[i] (List.getElem_mem o);obtain⟨x,P⟩:=zq (fs[i]);rw[<-P]at e0 e1 N C hsz;have W:=aa o;clear P o;obtain⟨nm,id⟩:=x;simp only at e0 e1 N C hsz;have HN:=aa (λw=>li nm w hsz.1);(have U:=hsz.2);clear hsz;(go_upto_region 4 with fail);have r:=ag.new wr 75 #[nm,id];have y:=hg.alloc (.cells #[nm,id] 75);obtain⟨wx,R⟩:=zq (wr.alloc (.cells #[nm,id] 75));obtain⟨q,hq⟩:=zq (wr.heap.size);rw[<-R]at r y;rw[<-hq]at r;rw[<-R,<-hq];have F:ab (∀w',Gr wx w'->w'.cell? (q,0)=nm/\w'.cell? (q,1)=id/\Gr wx w'):=aa (λw' g=>⟨(r.gr g).cell 0,(r.gr g).cell 1,g⟩);clear R hq r e0 e1 hg;obtain⟨ok,z⟩:∃ok:Bool,ok=(rI (nm,id)&&aR u nm):=⟨_,rfl⟩;(go_cut [36]from 12 to 36 (λv wc=>v=.bool (!ok)/\Gr wx wc));(case first=>have K:ab (ok=(fo nm&&decide (id.length=32)&&aR u nm)):=aa z;clear z N C;cases hnb:fo nm with|false=>have Y:ab (ok=false):=aa (by rw[K.o,hnb];rfl);rw[hnb]at HN;clear hnb Ki hlt;exact zaj|true=>have hne:=GJ hnb;have Lf:aR [] nm=true:=Ea hne;rw[hnb]at HN K;clear hne hnb;by_cases Kh:id.length=32;(. (have q3:((id.length:Int)!=32)=false:=zeC);have Lc:ab (ok=aR u nm):=aa zid;clear Kh K;by_cases L:i=0;(. have Y:ab (ok=true):=aa (by rw[Lc.o,Ks.o L];exact Lf);have Lg:¬0<i:=om;clear L Lf;exact zaj);. obtain⟨j,hj⟩:∃j,i=j+1:=⟨i-1,om⟩;have Ll:ab (∀w',Gr wx w'->w'.cell? (q,0)=nm/\w'.cell? (q,1)=id/\w'.cell? ⟨b,off+j*2,none⟩=u/\Gr wx w'):=aa (λw' g=>⟨(F.o w' g).1,(F.o w' g).2.1,Q.o w' (y.trans g) j hj,g⟩);have T:(i:Int)-1=(j:Int):=om;have Lg:0<i:=om;have hjk:(j:Int)<(n:Int):=om;clear L Lf hj;cases hlb:aR u nm with|false=>have Y:ab (ok=false):=aa zhm;have q5:Op.bytesLess u nm=false:=hlb;exact zdt|true=>have Y:ab (ok=true):=aa zhm;have q5:Op.bytesLess u nm=true:=hlb;exact zdt);. (have q3:((id.length:Int)!=32)=true:=zc3);have Y:ab (ok=false):=aa zh6;clear Kh Lf;exact zaj);case rest=>obtain⟨rfl,gc⟩:=hcut;cases ok with|true=>have h1:=z.symm;rw[Bool.and_eq_true]at h1;have Ku:=aa (C.o h1.1 h1.2);clear h1 z Ki;(go_wp2_with fail);(go_roundg (gk-1));(case rel=>exact⟨i+1,nm,by go_num,om,om,Ku,y.trans gc⟩);case measure=>omega|false=>have HF:ab (Kb=false):=aa (by rw[HV.o,xm fs false (by rw[N.o,<-z];rfl),Bool.and_false]);clear z Ki;(go_wp2_with fail);go_ret;exact⟨by rw[HF.o];rfl,y.trans gc⟩);. have HF:ab (Kb=decide ((i:Int)<=32)):=aa (by rw[HV.o,xm fs true (Kp.o.done om),Bool.and_true];exact decide_eq_decide.2 om);obtain rfl:i=n:=om;clear hlt hi Kj;(go_wp2_with fail);all_goals go_ret;exact⟨by rw[HF.o];simp,hg⟩
end Go.Proofs.YtdpombnelangjaaGreatDoor
