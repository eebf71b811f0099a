/- Lemmas, each with its conditions. -/
import Derived.Test.YtdpombnelangjaaGreatDoorP27
import Derived.Test.YtdpombnelangjaaGreatDoorCards
import Derived.Test.YtdpombnelangjaaGreatDoorTie
import Derived.Deep.DeepHandedRow
import Derived.Lib.LaidTab
namespace Go.Proofs.YtdpombnelangjaaGreatDoor
open Go.RowKit
set_option maxRecDepth 100000
set_option maxHeartbeats 64000000
set_option linter.unusedVariables false
open Go.Proofs.Tryz renaming prog → Ao
open Calls renaming mono → Bo
open Gr renaming refl → B4
open Nat renaming le_refl → Dg
section
open Go.RowKit Go.ChangeShapes Go.WideShapes Go.ChangeAt
theorem I0:Ao.globalNamed "cartulary/sum.table"=some 0:=by kernel_rfl
theorem EJ:(Ao.globals[0]?).map (·.type)=some 241:=by kernel_rfl
theorem Eh:Ao.cellsOf 241=64:=by kernel_rfl
theorem Fd:Ao.cellsOf 137=1:=by kernel_rfl
def vw:List Int:=Au.map λx=>(x.toNat:Int)
theorem JF {W:World} {rest:List (String×DataW Unit)} (h:laidMet Ao (("cartulary/sum.table",Rows.laid_cartulary_sum_table)::rest) W):bK W:=by
 have ht:Lib.TabIs Ao W "cartulary/sum.table" .u32 vw:=Lib.tabIs_of_head (rest:=rest) I0 EJ Tryz.underlying241 Tryz.underlying137 Fd Eh h
 refine⟨λi hi=>?_⟩;have hl:i<vw.length:=by unfold vw;rw[List.length_map,xL];exact hi
 have:=ht.cell I0 i hl;rw[this];have:i<Au.length:=by rw[xL];exact hi
 simp[vw,tj,aq,this]
def FK:Nat->DataW Unit->List Value
 |0,_=>[]
 |_+1,.lit (.int k z)=>[.int k z]
 |n+1,.agg xs=>xs.flatMap (FK n)
 |_+1,_=>[]
noncomputable def laidHeap (l:List (String×DataW Unit)) (h:Array Obj):Array Obj:=
  l.foldl (λh x=>match Ao.globalNamed x.1 with
    |some g=>h.modify g fun
      |.cells _ t frozen=>.cells (FK 8 x.2).toArray t frozen
      |o=>o
    |none=>h) h
noncomputable def laidWorld (l:List (String×DataW Unit)) (os:Os):World:=
  {World.holding Ao os ⟨#[],#[],[]⟩with heap:=laidHeap l (World.holding Ao os ⟨#[],#[],[]⟩).heap}
end
theorem FQ:rN ii:=⟨dc0,dc0,dc0⟩
theorem Df (w:World) (hT:bK w):Calls Ao 14 #[] w λe w'=>e=.returned true/\Gr w w':=by
 obtain⟨ρ,hρ⟩:=DJ;have HN:=aa (CB w hT);have HK:ab (∀W,Gr w W->Calls Ao 20 #[] W λe w'=>∃A c B d,e=.returned (.agg #[.slice A 3 c,.slice B 4 d,.int .i64 2])/\Gr W w'):=aa (λW k=>Bo (DF W (hT.gr k)) (by rintro e w' ⟨A,c,B,d,rfl,_,k1⟩;exact⟨A,c,B,d,rfl,k1⟩));obtain⟨s',id,f,Kd⟩:=Jn ρ;have t:=EP.do_ ρ ii FQ;rw[f]at t;have HD:ab (∀W g,lU (λk=>w.heap.size<=k/\k<W.heap.size) W g dU->bK W->Calls Ao 22 #[.pointer (some ⟨g,0,none⟩),.agg #[.int .i64 1,i0,i0,.string (bs [97]),.string (bs [98]),.int .i64 3,false,i0]] W λe w'=>e=.returned (.agg #[i0,.int .i64 1,id])/\lU (AJ (λk=>w.heap.size<=k/\k<W.heap.size) W w') w' g s'/\aH (λk=>w.heap.size<=k/\k<W.heap.size) W w'):=aa (λW g h hTW=>by have:=FD ρ hρ ii h EP.sz FQ hTW;rw[f]at this;exact this);have b:ab (∀(B:Nat->Prop) W g,lU B W g s'->Calls Ao 26 #[.pointer (some ⟨g,0,none⟩),i0] W λe w'=>∃A c,e=.returned (.slice A 1 c)/\Gr W w'):=aa (λB W g h=>by obtain⟨a,F,h1,_,_⟩:=h.ex;refine Bo (EU 0 F g a s' W om h1 t.sz) ?_;rintro e w' ⟨A,c,es,rfl,he,_,_,k⟩;(have hn:es.length=1:=by have:=congrArg List.length he;rw[List.length_map]at this;omega);rw[hn];exact⟨A,c,rfl,k⟩);have HT:=aa hT;clear f Kd t hT;have l:∀(A:Yy) (c:Nat) (B:Yy) (d:Nat) (W:World),(Instr.field 53 (.agg #[.slice A 3 c,.slice B 4 d,.int .i64 2]) 1).run Ao W=.ok (.slice B 4 d) W:=λA c B d W=>by kernel_rfl
 go_enter Tryz.func14,Tryz.ntmps14
 go_upto_region 2 with(first|(go_at_call 31;(with_reducible refine Bo HN.o ?_);rintro e w1 ⟨g,rfl,hW,I⟩))
 have HW:=aa hW;have s:=aa I;clear hW;go_upto_region 4 with(first|(go_at_call 20;(with_reducible refine Bo (HK.o _ I) ?_);rintro e w2 ⟨A,c,B,d,rfl,Z⟩))
 have P:=aa (HW.o.gr Z);have v:=aa (s.o.trans Z);have Kr:=aa (HT.o.gr v.o);have i:=aa (P.o.mono (B':=λk=>w.heap.size<=k/\k<w2.heap.size) (λk hk=>⟨hk.1,by have:=Z.size;have:=hk.2;omega⟩) (λk hk=>hk.2));have n:=aa (HD.o w2 g i.o Kr.o);have HM:ab (∀w3,aH (λk=>w.heap.size<=k/\k<w2.heap.size) w2 w3->Gr w w3):=aa (λw3 m=>(aH.low (M:=λ_=>False) v.o.mod m (λj e=>.inr e.1)).gr (λ_ _ h=>h));clear I Z;go_wp2_with(first|(go_at_call 22;(with_reducible refine Bo n.o ?_);rintro e w3 ⟨rfl,p,m3⟩;have g3:=HM.o w3 m3)|(go_at_call 26;(with_reducible refine Bo (b.o _ _ g (p.gr ((B4 _).alloc _))) ?_);rintro e w5 ⟨A5,c5,rfl,g5⟩))
 go_ret;exact⟨rfl,(g3.alloc _).trans g5⟩
def nF (r:Rp):List Value:=(a8 r.1 r.2.1 r.2.2).toList
theorem E.rp:cC 44 33 (.agg #[i0,i0,s_]) 3 32:=⟨Tryz.underlying44,by kernel_rfl,rfl,om⟩
theorem Fc (r:Rp):∀u∈nF r,u.oneCell'=true:=by
 intro u h;simp only[nF,a8,List.mem_cons,List.not_mem_nil,or_false]at h;rcases h with rfl|rfl|rfl<;>rfl
theorem IA {W:World} {g:Nat} {r:Rp} (h:ag W g 33 (a8 r.1 r.2.1 r.2.2)):ak W 3 (some ⟨g,0,none⟩) 1 (nF r):=by
 refine⟨rfl,λ_=>⟨g,0,rfl,λi v hv=>?_⟩⟩;rw[Nat.zero_add,h.cell i,<-hv];simp only[nF,Array.getElem?_toList]
theorem zT (ρ:fX) (hρ:nN ρ) (l:List Dd) (A:Yy) (c:Nat) (w:World) (hx:ak w 8 A l.length (l.flatMap gi)) (hn:l.length<=120) (hz:∀d∈l,rN d) (hT:bK w):Calls Ao 16 #[(A,l.length,c)] w λe w'=>∃U c',e=.returned (.tuple #[.slice U l.length c',i0])/\w'.ownsRow w.heap.size 33 3 (.slice U l.length c') l.length ((gP ρ dU l).flatMap nF)/\Gr w w':=by
 have t:=aa (λW (k:Gr w W)=>CB W (hT.gr k));have O:=aa hx;have HZ:=aa hz;have HT:=aa hT;obtain⟨N,hN⟩:=zq (l.length);have HN:=aa hN;rw[<-hN]at hn O;rw[<-hN];have hq:¬120<N:=om;clear hx hz hT hN;go_enter Tryz.func16,Tryz.ntmps16
 go_wp2_with(first|(go_at_call 31;(with_reducible refine Bo (t.o _ (B4 _)) ?_);rintro e w1 ⟨g,rfl,hW,I⟩))
 have HW:=aa (hW.mono (B':=λk=>w.heap.size<=k/\k<w1.heap.size) (λk h=>h) (λk h=>h.2));have s:=aa I;clear hW I;go_loopg [14,5,7] N (λfuel iv ov _ wr=>∃(i:Nat) (A0:Yy) (c0:Nat),iv=.int .i64 (i:Int)/\ov=.slice A0 i c0/\N<=i+fuel/\i<=N∧ab (∃B:Nat->Prop,(∀k,B k->w.heap.size<=k)/\lU B wr g (jo ρ dU (l.take i))/\wr.ownsRow w.heap.size 33 3 (A0,i,c0) i ((gP ρ dU (l.take i)).flatMap nF)/\(∀k,(Value.slice A0 i c0).ownBlock=some k->¬B k))/\ab (Gr w wr))
 case atStart=>exact⟨0,none,0,rfl,rfl,om,om,aa ⟨_,λk h=>h.1,HW.o,World.ownsRow_nil _ _ _ _,λk h=>(by cases h)⟩,s⟩
 case round=>
  obtain⟨i,A0,c0,rfl,rfl,Kj,hi,HI,HG⟩:=hrel;by_cases hlt:i<N
  . (have Ki:(i:Int)<(N:Int):=om;have D:i<l.length:=ze9);obtain⟨b,off,rfl,e0,e1,e2,e3,e4,e5,e6,e7⟩:=za (l:=l) (by rw[<-HN.o];exact O.o.gr HG.o) D;obtain⟨B,hB,hW,hO,hD⟩:=HI.o;have G:rE (jo ρ dU (l.take i)):=sY ρ _ EP (λd hd=>HZ.o d (List.mem_of_mem_take hd));have Ol:=HZ.o l[i] (List.getElem_mem D)
    have a:ab (∀W,Gr wr W->Calls Ao 22 #[(g,0),.agg (jG l[i].k l[i].b l[i].w l[i].ref l[i].data l[i].sg l[i].old l[i].size)] W λe w'=>e=.returned (.agg (a8 (eK ρ (jo ρ dU (l.take i)) l[i]).2.1 (eK ρ (jo ρ dU (l.take i)) l[i]).2.2.1 (eK ρ (jo ρ dU (l.take i)) l[i]).2.2.2))∧
     lU (AJ B W w') w' g (jo ρ dU (l.take (i+1)))/\aH B W w'/\Gr w w'):=aa (λW k=>by
     have h1:=FD ρ hρ l[i] (hW.gr k) G.sz Ol (HT.o.gr (HG.o.trans k))
     rw[BO ρ dU l i D]
     refine Bo h1 ?_
     rintro e w' ⟨rfl,h2,h3⟩
     exact⟨rfl,h2,h3,(aH.low (M:=λ_=>False) (HG.o.trans k).mod h3 (λj hj=>.inr (hB j hj))).gr (λ_ _ h=>h)⟩)
    ((((((have u:ab (gP ρ dU (l.take (i+1))=gP ρ dU (l.take i)++[(eK ρ (jo ρ dU (l.take i)) l[i]).2]):=aa (Db ρ dU l i D);have q:=aa hO;have n:=aa hD;have Kl:=aa hB;obtain⟨R,hR⟩:=zq ((eK ρ (jo ρ dU (l.take i)) l[i]).2);obtain⟨Ke,v⟩:∃Ke,Ke=l[i]:=⟨_,rfl⟩;rw[<-hR]at a u;rw[<-v]at e0 e1 e2 e3 e4 e5 e6 e7 a;clear hR v G Ol hW hO hD hB HI;obtain⟨k,bb,x,r,dt,sg,o,z⟩:=Ke;obtain⟨rc,rs,ri⟩:=R;simp only at e0 e1 e2 e3 e4 e5 e6 e7;simp only[jG,a8]at a;have Il:=aa hlt;clear hlt;have Ku:(i+1)*32<=140737488355328:=om;have Le:i+1<=maxLen:=zc1);go_wp2_with(first|(go_at_call 22;(with_reducible refine Bo (a.o _ ((B4 _).alloc _)) ?_);rintro e w2 ⟨rfl,f,Kf,K⟩)|(at_builtin;refine lH E.rp rfl (.tmp 18) (.tmp 22) rfl (B:=w.heap.size) (A0:=A0) (n0:=i) (cap0:=c0) (xs:=(gP ρ dU (l.take i)).flatMap nF) rfl (av (jN (av q.o ((B4 _).alloc _)) Kf n.o) ((B4 _).alloc _)) rfl (IA (r:=(rc,rs,ri)) (ag.new _ _ _)) (λh=>by cases h) (Fc _) Ku Le ((K.alloc _).size) ?_;intro A3 c3 w3 o3 h3 n3)));have C:=av q.o ((B4 wr).alloc (.cells #[k,bb,x,r,dt,sg,o,z] 30));have F:=av (jN C Kf n.o) ((B4 w2).alloc (.cells #[rc,rs,ri] 33));have p:=f.gr ((B4 w2).alloc (.cells #[rc,rs,ri] 33));have y:∀m,AJ B (wr.alloc (.cells #[k,bb,x,r,dt,sg,o,z] 30)) w2 m->¬(Value.slice A0 i c0).ownBlock=some m:=λm hk e=>by rcases hk with hk|hk;(. exact n.o m e hk);. (have h1:=(q.o.lt m e).2);(have h2:=hk.1);simp only[World.size_alloc]at h2;omega);have H:=p.mod (aH.grown h3 (M:=λm=>(Value.slice A0 i c0).ownBlock=some m) (λ_ e=>e)) (λm hk e=>y m hk e);have J:=(K.alloc (.cells #[rc,rs,ri] 33)).grown h3 (λm hk=>(F.lt m hk).1));go_roundg (gk-1));case rel=>refine⟨i+1,A3,c3,by go_num,rfl,om,Il.o,aa ⟨_,λm hk=>?_,H,?_,λm e hk=>?_⟩,aa J⟩;(. rcases hk with hk|hk;(. exact Kl.o m hk);. (have h2:=hk.1);have h1:=HG.o.size;simp only[World.size_alloc]at h2;omega);(. rw[u.o,List.flatMap_append];simpa using o3);. rw[pJ]at e;rcases n3 m e with e'|e';(. rw[<-pJ A0 i c0]at e';exact y m hk e');. have h1:=p.lt m hk;omega);case measure=>have:=Il.o;omega
  . obtain rfl:i=N:=om;obtain⟨B,hB,hW,hO,hD⟩:=HI.o;rw[HN.o,List.take_length]at hO;rw[<-HN.o]at hO;have HO:=aa hO;clear hlt Kj hi hO hW hD hB HI;(go_wp2_with fail);go_ret2;exact⟨A0,c0,rfl,HO.o,HG.o⟩
def nC (k n:Int):Int:=if Int.tmod k n<0 then Int.tmod k n+n else Int.tmod k n
theorem sp {k n:Int} (hn:0<n):0<=nC k n/\nC k n<n:=by
 have h1:=Int.tmod_lt_of_pos k hn;have h2:-n<Int.tmod k n:=zdg
 unfold nC;split<;>omega
theorem Ft (k n:Int) (w:World) (hn:0<n) (hn2:n<=1048576) (hk:-9223372036854775808<=k/\k<=9223372036854775807):Calls Ao 15 #[k,n] w λe w'=>e=.returned (nC k n)/\Gr w w':=by
 have h0:¬n=0:=om;have V:=sp (k:=k) hn;have h1:=Int.tmod_lt_of_pos k hn;have h2:-n<Int.tmod k n:=zdg
 have HE:ab (nC k n=if Int.tmod k n<0 then Int.tmod k n+n else Int.tmod k n):=aa rfl;have Kp:-9223372036854775808<=Int.tmod k n:=om;have Lu:Int.tmod k n<=9223372036854775807:=om;obtain⟨Kb,hV⟩:=zq (nC k n);rw[<-hV]at HE;rw[<-hV];clear hV V;by_cases a:Int.tmod k n<0;. have HF:ab (Kb=Int.tmod k n+n):=aa (by rw[HE.o,if_pos a]);exact zbu
 . have HF:ab (Kb=Int.tmod k n):=aa (by rw[HE.o,if_neg a]);exact zbu
theorem E.deed:cC 22 30 (.agg (jG 0 0 0 [] [] 0 false 0)) 8 80:=⟨Tryz.underlying22,by kernel_rfl,rfl,om⟩
theorem ul {l:List Dd}:∀u∈l.flatMap gi,u.oneCell'=true:=by
 intro u hu;obtain⟨f,_,h⟩:=List.mem_flatMap.1 hu
 simp only[gi,AQ,jG,List.mem_cons,List.not_mem_nil,or_false]at h;rcases h with rfl|rfl|rfl|rfl|rfl|rfl|rfl|rfl<;>rfl
theorem ak.pre {w:World} {A:Yy} {l:List Dd} (h:ak w 8 A l.length (l.flatMap gi)) {n:Nat} (hn:n<=l.length):ak w 8 A n ((l.take n).flatMap gi):=by
 refine⟨by rw[cW gi 8 (λ_=>rfl),List.length_take,Nat.min_eq_left hn],λh0=>?_⟩;obtain⟨b,off,e,hc⟩:=h.at_ om;refine⟨b,off,e,λi v hv=>hc i v ?_⟩;have:l.flatMap gi=(l.take n).flatMap gi++(l.drop n).flatMap gi:=zgX
 rw[this,List.getElem?_append_left (List.getElem?_eq_some_iff.1 hv).1];exact hv
theorem uQ {w:World} {A:Yy} {n:Nat} {l:List Rp} (h:ak w 3 A n (l.flatMap nF)) {i:Nat} (hi:i<l.length):∃b off,A=some ⟨b,off,none⟩/\w.cell? ⟨b,off+i*3,none⟩=some (.int .i64 l[i].1)/\w.cell? ⟨b,off+i*3+1,none⟩=some (.int .i64 l[i].2.1)/\w.cell? ⟨b,off+i*3+2,none⟩=some (.string (bs l[i].2.2)):=by
 have hl:=ak.flen nF (λ_=>rfl) om h;obtain⟨b,off,e,hc⟩:=h.at_ om;have h1:∀j v,j<3->(nF l[i])[j]?=some v->w.cell? ⟨b,off+i*3+j,none⟩=some v:=λj v hj hv=>by have:=hc (i*3+j) v (by rw[qB nF 3 (λ_=>rfl) l i hi j hj];exact hv);rw[<-Nat.add_assoc]at this;exact this
 exact⟨b,off,e,h1 0 _ om rfl,h1 1 _ om rfl,h1 2 _ om rfl⟩
theorem It (A:Yy) (c:Nat) (l:List Dd) (n:Int) (W:World) (o:zB W A c l) (hn:-9223372036854775808<=n/\n<=9223372036854775807) (hT:bK W):Calls Ao 4 #[(A,l.length,c),n] W λe W'=>e=.returned true/\Gr W W':=by
 obtain⟨ρ,hρ⟩:=DJ;have Kd:=o.len;have q:=o.cap;have O:=aa o.row;have HA:=aa o.nil;have HZ:=aa o.each;have HT:=aa hT;have Kf:=aa (λw (k:Gr W w)=>Df w (hT.gr k));obtain⟨N,hN⟩:=zq (l.length);have HN:=aa hN;rw[<-hN]at Kd HA q;rw[<-hN];clear o hT;by_cases Ky:60<N;. have Kc:¬(N:Int)<=60:=om;have Ks:(60:Int)<(N:Int):=om;clear Ky hN;(go_enter Tryz.func4,Tryz.ntmps4);(go_upto_region 2 with(go_at_call 14;(with_reducible refine Bo (Kf.o _ (B4 _)) ?_);rintro e w1 ⟨rfl,I⟩));(go_wp2_with(go_at_call 14;(with_reducible refine Bo (Kf.o _ I) ?_);rintro e w2 ⟨rfl,Z⟩));go_ret;exact⟨rfl,I.trans Z⟩
 have Kc:¬(60:Int)<(N:Int):=om;have a:(0:Int)<(N:Int)+1:=om;obtain⟨m,hm⟩:∃m:Nat,nC n ((N:Int)+1)=(m:Int):=⟨(nC n ((N:Int)+1)).toNat,by have:=(sp (k:=n) a).1;omega⟩;have g:m<=N:=by have:=(sp (k:=n) a).2;omega
 have s:ab (∀w,Calls Ao 15 #[n,.int .i64 ((N:Int)+1)] w λe w'=>e=.returned (.int .i64 (m:Int))/\Gr w w'):=aa (λw=>by have h:=Ft n ((N:Int)+1) w a om hn;rw[hm]at h;exact h);have Ph:ab (∀w (B:Yy) (d:Nat),Gr W w->ak w 8 B N (l.flatMap gi)->Calls Ao 16 #[(B,N,d)] w λe w'=>∃U c',e=.returned (.tuple #[.slice U N c',i0])/\ak w' 3 U N ((gP ρ dU l).flatMap nF)/\Gr w w'):=aa (λw B d k hr=>by rw[hN]at hr⊢;refine Bo (zT ρ hρ l B d w hr om HZ.o (HT.o.gr k)) ?_;rintro e w' ⟨U,c',rfl,h1,h2⟩;exact⟨U,c',rfl,ak.own h1,h2⟩);have j:ab (∀w (B:Yy) (d:Nat),Gr W w->ak w 8 B m ((l.take m).flatMap gi)->Calls Ao 16 #[(B,m,d)] w λe w'=>∃U c',e=.returned (.tuple #[.slice U m c',i0])/\ak w' 3 U m (((gP ρ dU l).take m).flatMap nF)/\Gr w w'):=aa (λw B d k hr=>by(have hl:(l.take m).length=m:=zeA);have h:=zT ρ hρ (l.take m) B d w (by rw[hl];exact hr) om (λx hx=>HZ.o x (List.mem_of_mem_take hx)) (HT.o.gr k);rw[hl,C9]at h;refine Bo h ?_;rintro e w' ⟨U,c',rfl,h1,h2⟩;exact⟨U,c',rfl,ak.own h1,h2⟩);have p:ab (ak W 8 A m ((l.take m).flatMap gi)):=aa (O.o.pre om);have Lh:ab ((gP ρ dU l).length=N):=aa (by rw[wO,<-hN]);have r:=aa g;obtain⟨X,hX⟩:=zq (l.flatMap gi);obtain⟨Y,hY⟩:=zq ((l.take m).flatMap gi);obtain⟨Ka,t⟩:=zq (gP ρ dU l);have v:ab (∀u∈X,u.oneCell'=true):=aa (by rw[hX];exact ul);have y:ab (∀u∈Y,u.oneCell'=true):=aa (by rw[hY];exact ul);have z:ab (ak W 8 A N X):=aa (by rw[hX,hN];exact O.o);rw[<-hX,<-t]at Ph;rw[<-hY,<-t]at j;rw[<-hY]at p;rw[<-t]at Lh;have Lb:(0+N)*80<=140737488355328:=om;have Q:0+N<=maxLen:=zc1
 have Kv:(0+m)*80<=140737488355328:=om;have Kq:0+m<=maxLen:=zc1
 have C:ab (A=none->m=0/\c=0):=aa (λe=>by have:=HA.o e;omega);have D:(m:Int)<=(N:Int):=om;have Lq:m<=c:=om;clear hX hY t hm a Ky hN g O;go_enter Tryz.func4,Tryz.ntmps4
 go_upto_region 4 with(first|(go_at_call 14;(with_reducible refine Bo (Kf.o _ (B4 _)) ?_);rintro e w1 ⟨rfl,I⟩)|(go_at_call 15;(with_reducible refine Bo (s.o _) ?_);rintro e w2 ⟨rfl,Z⟩))
 have G2:=I.trans Z;go_upto_region 5 with(first|(at_builtin;refine bQ E.deed rfl (.const n_) (.tmp 24) rfl (B:=W.heap.size) rfl (World.ownsRow_nil _ _ _ _) rfl (z.o.gr G2) HA.o v.o Lb Q G2.size ?_;intro A3 c3 w3 o3 h3;have G3:=G2.grown h3 zeI)|(go_at_call 16;(with_reducible refine Bo (Ph.o _ A3 c3 G3 (by rw[Nat.zero_add]at o3;exact ak.own o3)) ?_);rintro e w4 ⟨A4,c4,rfl,r4,g4⟩))
 have G4:=G3.trans g4;go_upto_region 6 with(first|(at_builtin;refine bQ E.deed rfl (.const n_) (.tmp 32) rfl (B:=W.heap.size) rfl (World.ownsRow_nil _ _ _ _) rfl (p.o.gr G4) C.o y.o Kv Kq G4.size ?_;intro A5 c5 w5 o5 h5;have V:=G4.grown h5 zeI)|(go_at_call 16;(with_reducible refine Bo (j.o _ A5 c5 V (by rw[Nat.zero_add]at o5;exact ak.own o5)) ?_);rintro e w6 ⟨A6,c6,rfl,r6,g6⟩))
 have T:=V.trans g6;have Of:ab (ak w6 3 A4 N (Ka.flatMap nF)):=aa ((r4.gr (by(have h:Gr w4 w5:=(B4 w4).grown h5 zeI);exact h)).gr g6);have Oa:=aa r6;have Lo:=aa T;clear I Z G2 o3 h3 G3 r4 g4 G4 o5 h5 V r6 g6 T;go_wp2_with fail
 go_loopg [9] m (λfuel iv wr=>∃i:Nat,iv=.int .i64 (i:Int)/\m<=i+fuel/\i<=m/\ab (Gr w6 wr))
 case atStart=>exact⟨0,rfl,om,om,aa (B4 _)⟩
 case round=>obtain⟨i,rfl,Kj,hi,HG⟩:=hrel;by_cases hlt:i<m;(. have Ki:(i:Int)<(m:Int):=om;(have F:(i:Int)<(N:Int):=by have:=r.o;omega);(have h1:i<Ka.length:=by rw[Lh.o];have:=r.o;omega);(have h2:i<(Ka.take m).length:=zeA);obtain⟨b,off,rfl,e0,e1,e2⟩:=uQ (Of.o.gr HG.o) h1;obtain⟨b',Kl,rfl,d0,d1,d2⟩:=uQ (Oa.o.gr HG.o) h2;rw[List.getElem_take]at d0 d1 d2;obtain⟨X,hX⟩:=zq (Ka[i]);rw[<-hX]at e0 e1 e2 d0 d1 d2;have f:ab (m<=i+gk/\i<m):=aa ⟨Kj,hlt⟩;clear hX h1 h2 Kj hi hlt;obtain⟨rc,rs,ri⟩:=X;simp only at e0 e1 e2 d0 d1 d2;(go_wp2_with fail);(go_quiet (fail));(go_wp2_with fail);(go_roundg (gk-1));(case rel=>exact⟨i+1,by go_num,by have:=f.o;omega,by have:=f.o;omega,aa (HG.o.drewN _)⟩);case measure=>have:=f.o;omega);. have Ki:¬(i:Int)<(m:Int):=om;clear hlt Kj hi;(go_wp2_with fail);go_ret;exact⟨rfl,Lo.o.trans HG.o⟩
end Go.Proofs.YtdpombnelangjaaGreatDoor
