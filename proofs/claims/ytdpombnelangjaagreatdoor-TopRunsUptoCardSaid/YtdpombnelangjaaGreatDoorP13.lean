/- Lemmas for TopRuns; each states its conditions. -/
import Derived.Test.YtdpombnelangjaaGreatDoorP04
import Derived.Test.YtdpombnelangjaaGreatDoorP12
namespace Go.Proofs.YtdpombnelangjaaGreatDoor
open Go.RowKit
set_option maxRecDepth 100000
set_option maxHeartbeats 64000000
set_option linter.unusedVariables false
open Go.Proofs.Tryz renaming prog → Ao
open Calls renaming mono → Bo
open Gr renaming refl → B4
open Nat renaming le_refl → Dg
theorem BZ:dZ 24 2:=A.head
def dN:List aF->Int
 |[]=>0
 |s::r=>if(bF s).2=0 then dN r else(bF s).2
def fh (l:List aF):List (Y0):=l.map λs=>(bF s).1
def cD (l:List aF):List (Y0)×Int:=if dN l=0 then(fh l,0)else([],dN l)
def aw (l:List aF):Int×Y0×Int:=if 200<l.length then(0,[],6)else if dN l=0 then((l.length:Int),cB (fh l),0)else(0,[],dN l)
theorem vN (l:List aF) (i:Nat) (h:i<l.length):dN (l.drop i)=if(bF l[i]).2=0 then dN (l.drop (i+1))else(bF l[i]).2:=by
 rw[List.drop_eq_getElem_cons h];rfl
theorem Ce (l:List aF) (i:Nat) (h:i<l.length):fh (l.take (i+1))=fh (l.take i)++[(bF l[i]).1]:=by
 unfold fh;rw[List.take_succ_eq_append_getElem h,List.map_append];rfl
theorem mZ (l:List aF):(fh l).length=l.length:=by unfold fh;rw[List.length_map]
theorem oT (l:List aF):∀x∈fh l,x.length<=1024:=by
 intro x hx;obtain⟨s,_,rfl⟩:=List.mem_map.1 hx
 exact ls s
theorem zK (G:List (Y0)) (x:Y0):G.map aC++[Value.string (bs x)]=(G++[x]).map aC:=by simp[aC]
theorem sB {W:World} {g:Nat} {T:TypeId} {u:Value} (h:ag W g T #[u]):ak W 1 (some (g,0)) 1 [u]:=by
 exact za5
theorem oK (es:List SA) (l:List aF) (A:Yy) (c:Nat) (w:World) (hx:dX w A es.length es) (hl:l=es.map (·.s)) (hn:es.length<=1099511627776) (hz:∀e∈es,dJ 1099511627776 e.s):Calls Ao 37 #[(A,es.length,c)] w λe w'=>∃U c',e=.returned (.tuple #[(U,(cD l).1.length,c'),.int .i64 (cD l).2])/\aE w' U (cD l).1.length (cD l).1/\(U=none->(cD l).1.length=0/\c'=0)/\(cD l).1.length<=c'/\Gr w w':=by
 have O:=aa hx;have HC:ab (∀i (h:i<es.length) W,Gr w W->Calls Ao 61 #[.agg (aP es[i].s es[i].A es[i].c es[i].B es[i].d)] W λe w'=>e=.returned (.tuple #[(bF es[i].s).1,.int .i64 (bF es[i].s).2])/\Gr W w'):=aa (λi h W g=>pM es[i].s es[i].A es[i].c es[i].B es[i].d W ((hx.each _ (List.getElem_mem h)).gr g) (hz _ (List.getElem_mem h)));have HL:ab (∀i (h:i<es.length) (h':i<l.length),l[i]=es[i].s):=aa (λi h h'=>by subst hl;simp);obtain⟨N,hN⟩:=zq (es.length);have Ld:l.length=N:=zfV
 have HN:=aa hN;have Kx:=aa Ld;obtain⟨Kb,hV⟩:=zq (cD l);have HV:=aa hV;rw[<-hN]at hn O;rw[<-hN,<-hV];clear hx hz hN hl Ld hV;go_enter Tryz.func37,Tryz.ntmps37
 go_wp2_with fail
 go_loopg [11,4,6,7,8] N (λfuel iv ov _ _ _ wr=>∃(i:Nat) (A0:Yy) (c0:Nat),iv=.int .i64 (i:Int)/\ov=.slice A0 i c0/\N<=i+fuel/\i<=N∧ab (wr.ownsRow w.heap.size 9 1 (A0,i,c0) i ((fh (l.take i)).map aC))/\ab (dN l=dN (l.drop i))/\ab (Gr w wr))
 case atStart=>exact⟨0,none,0,rfl,rfl,om,om,aa (World.ownsRow_nil _ _ _ _),aa rfl,aa (B4 _)⟩
 case round=>obtain⟨i,A0,c0,rfl,rfl,Kj,hi,HO,HE,HG⟩:=hrel;by_cases hlt:i<N;(. have Ki:(i:Int)<(N:Int):=om;(have D:i<es.length:=ze9);(have a:i<l.length:=zf0);(obtain⟨b,off,rfl,e0,e1,e2,e3,e4⟩:=(O.o.gr HG.o).cell D);have Kd:=aa (HC.o i D);have Mk:=aa (vN l i a);have Kl:=aa (Ce l i a);have L:=HL.o i D a;rw[L]at Mk Kl;obtain⟨E0,Kh⟩:=zq (es[i]);rw[<-Kh]at Kd Mk Kl e0 e1 e2 e3 e4;clear Kh D a L;obtain⟨K,A1,c1,B1,d1⟩:=E0;simp only at e0 e1 e2 e3 e4 Mk Kl Kd;obtain⟨x,hx⟩:=zq ((bF K).1);obtain⟨y,hy⟩:=zq ((bF K).2);rw[<-hx]at Kd Kl;rw[<-hy]at Kd Mk;obtain⟨r,o,n,who,seals⟩:=K;simp only[aP]at Kd;simp only at e0 e1 e2 e3 e4;have Ku:(i+1)*16<=140737488355328:=om;(have Le:i+1<=maxLen:=zc1);have Il:=aa hlt;clear hlt hx hy;by_cases Kr:y=0;(. subst Kr;have j:ab (dN l=dN (l.drop (i+1))):=aa (by rw[HE.o,Mk.o,if_pos rfl]);(go_wp2_with(first|(go_at_call 61;(with_reducible refine Bo (Kd.o _ (HG.o.alloc _)) ?_);rintro e w1 ⟨rfl,I⟩;have f:=((B4 wr).alloc (.cells #[r,o,n,(A1,who.length,c1),(B1,seals.length,d1)] 73)).trans I;have G1:=HG.o.trans f;have Km:=av HO.o f)|(at_builtin;refine dn E.str rfl (.tmp 23) (.tmp 25) rfl (B:=w.heap.size) (A0:=A0) (n0:=i) (cap0:=c0) (xs:=(fh (l.take i)).map aC) rfl (av Km ((B4 _).alloc _)) rfl (sB (T:=9) (u:=x) (ag.new _ _ _)) (λh=>by cases h) (λu hu=>by simp at hu;subst hu;rfl) Ku Le (G1.alloc _).size ?_;intro A2 c2 w2 o2 h2)));(have Kz:=(B4 w1).alloc (.cells #[x] 9));have Lj:=av Km Kz;(go_roundg (gk-1));(case rel=>refine⟨i+1,A2,c2,by go_num,rfl,om,Il.o,aa ?_,j,aa ?_⟩;(. rw[Kl.o,<-zK];exact o2);. exact zch);case measure=>have:=Il.o;omega);. (have Mb:(y !=0)=true:=zfi);have Kq:ab (Kb=([],y)):=aa (by(have h:dN l=y:=by rw[HE.o,Mk.o,if_neg Kr]);rw[HV.o];unfold cD;rw[h,if_neg Kr]);clear Kr;(go_wp2_with(first|(go_at_call 61;(with_reducible refine Bo (Kd.o _ (HG.o.alloc _)) ?_);rintro e w1 ⟨rfl,I⟩;have G1:=(HG.o.alloc (.cells #[r,o,n,(A1,who.length,c1),(B1,seals.length,d1)] 73)).trans I)));go_ret2;rw[Kq.o];exact⟨none,0,rfl,ak.nil _ 1 none,λ_=>⟨rfl,rfl⟩,Dg _,G1⟩);. have q1:decide (i<N)=false:=decide_eq_false hlt;have HI:ab (i=N):=aa om;clear hlt;(go_wp2_with fail);go_ret2;obtain rfl:=HI.o;(have h0:dN l=0:=ziP);(have m:Kb=(fh l,0):=by rw[HV.o];unfold cD;rw[if_pos h0]);have ho:=HO.o;rw[List.take_of_length_le zfd]at ho;rw[m];(have z:(fh l).length=i:=by rw[mZ];exact Kx.o);simp only[z];exact⟨A0,c0,rfl,ak.own ho,iW ho,kB ho,HG.o⟩
theorem s6 (es:List SA) (l:List aF) (A:Yy) (c:Nat) (w:World) (hx:dX w A es.length es) (hl:l=es.map (·.s)) (hn:es.length<=1099511627776) (hz:∀e∈es,dJ 1099511627776 e.s) (hT:bK w):Calls Ao 91 #[(A,es.length,c)] w λe w'=>e=.returned (.tuple #[.agg (a7 (aw l).1 (aw l).2.1),.int .i64 (aw l).2.2])/\Gr w w':=by
 have Ma:ab (∀W,Gr w W->Calls Ao 37 #[(A,es.length,c)] W λe w'=>∃U c',e=.returned (.tuple #[(U,(cD l).1.length,c'),.int .i64 (cD l).2])/\aE w' U (cD l).1.length (cD l).1/\(U=none->(cD l).1.length=0/\c'=0)/\(cD l).1.length<=c'/\Gr W w'):=aa (λW g=>oK es l A c W (hx.gr g) hl hn hz);have b:ab (∀L A1 c1 W,L=fh l->aE W A1 L.length L->L.length<=c1->Gr w W->Calls Ao 101 #[(A1,L.length,c1)] W λe w'=>e=.returned (cB L)/\Gr W w'):=aa (λL A1 c1 W hL h hc g=>by have Nu:=hT.gr g;(have Oc:iA L:=λx hx=>by have:=oT l x (by rw[<-hL];exact hx);omega);(have Me:L.length<=1099511627776:=by rw[hL,mZ,hl,List.length_map];exact hn);exact mR L.length L A1 L.length c1 W (Dg _) Me hc h Oc Nu);have Ld:l.length=es.length:=zhf
 obtain⟨N,hN⟩:=zq (es.length);rw[<-hN]at Ld Ma hn;rw[<-hN];obtain⟨Kb,hV⟩:=zq (aw l);rw[<-hV];have HV:ab (Kb=if 200<N then(0,[],6)else if dN l=0 then((N:Int),cB (fh l),0)else(0,[],dN l)):=aa (by rw[hV];unfold aw;rw[Ld]);have HB:=ag.new w 24 #[i0,s_];have t:=(B4 w).alloc (.cells #[i0,s_] 24)
 obtain⟨J,H⟩:=zq (w.alloc (.cells #[i0,s_] 24));obtain⟨p,V⟩:=zq (w.heap.size);rw[<-H]at HB t;rw[<-V]at HB;have Kd:w.heap.size<=p:=om;have Kl:=aa HB;clear HB hV hN Ld hx hl hz hT;unfold a7;have F:ab (∀W,Gr J W->W.cell? (p,0)=i0/\W.cell? (p,1)=s_/\W.frozen? (p,0)=false/\W.frozen? (p,1)=false):=aa (λW g=>⟨(Kl.o.gr g).cell 0,(Kl.o.gr g).cell 1,(Kl.o.gr g).frozen 0,(Kl.o.gr g).frozen 1⟩);obtain⟨u0,Y,u2,u3⟩:=F.o J (B4 _);by_cases Mo:200<N;. have E:(200:Int)<(N:Int):=om;have HR:ab (Kb=(0,[],6)):=aa (by rw[HV.o,if_pos Mo]);clear HV Mo;(go_enter Tryz.func91,Tryz.ntmps91);(go_upto_region 1 with fail);rw[<-H,<-V];clear H V;(go_wp2_with fail);refine bodyPost_ret (ai rfl _ rfl ((Kl.o.set_ 0 i0).set_ 1 s_) BZ) rfl ?_;rw[HR.o];exact⟨rfl,(t.setCell (p:=(p,0)) Kd _).setCell (p:=(p,1)) Kd _⟩
 . have E:¬(200:Int)<(N:Int):=om;have Eq:ab (Kb=if dN l=0 then((N:Int),cB (fh l),0)else(0,[],dN l)):=aa (by rw[HV.o,if_neg Mo]);have Kw:N<=200:=om;clear Mo HV;unfold cD at Ma;obtain⟨y,hy⟩:=zq (dN l);rw[<-hy]at Ma Eq;obtain⟨L,hL⟩:=zq (fh l);rw[<-hL]at Ma Eq;have Lj:=aa hL;clear hL hy;by_cases Kr:y=0;(. subst Kr;have HR:ab (Kb=((N:Int),cB L,0)):=aa zgi;simp only[if_true]at Ma;have a:=aa (λA1 c1 W h1 h2 h3=>b.o L A1 c1 W Lj.o h1 h2 h3);obtain⟨T,d⟩:=zq (cB L);rw[<-d]at HR a;clear b Eq d;(go_enter Tryz.func91,Tryz.ntmps91);(go_upto_region 1 with fail);rw[<-H,<-V];clear H V;(go_wp2_with(first|(go_at_call 37;(with_reducible refine Bo (Ma.o _ t) ?_);rintro e w1 ⟨A1,c1,rfl,r1,n1,k1,I⟩;have G1:=t.trans I;obtain⟨v0,v1,v2,v3⟩:=F.o w1 I)|(go_at_call 101;(with_reducible refine Bo (a.o A1 c1 _ r1 k1 G1) ?_);rintro e w2 ⟨rfl,Z⟩;have G:=I.trans Z;have G2:=G1.trans Z;obtain⟨z0,z1,z2,z3⟩:=F.o w2 G)));refine bodyPost_ret (ai rfl _ rfl (((Kl.o.gr G).set_ 0 N).set_ 1 T) BZ) rfl ?_;rw[HR.o];exact⟨rfl,(G2.setCell (p:=(p,0)) Kd _).setCell (p:=(p,1)) Kd _⟩);. have HR:ab (Kb=(0,[],y)):=aa (by rw[Eq.o,if_neg Kr]);(have m0:(y !=0)=true:=zfi);simp only[if_neg Kr]at Ma;clear b Eq Kr;(go_enter Tryz.func91,Tryz.ntmps91);(go_upto_region 1 with fail);rw[<-H,<-V];clear H V;(go_wp2_with(first|(go_at_call 37;(with_reducible refine Bo (Ma.o _ t) ?_);rintro e w1 ⟨A1,c1,rfl,r1,n1,k1,I⟩;have G1:=t.trans I;obtain⟨v0,v1,v2,v3⟩:=F.o w1 I)));refine bodyPost_ret (ai rfl _ rfl (((Kl.o.gr I).set_ 0 i0).set_ 1 s_) BZ) rfl ?_;rw[HR.o];exact⟨rfl,(G1.setCell (p:=(p,0)) Kd _).setCell (p:=(p,1)) Kd _⟩
def bo:Y0:=[116,114,117,115,116]
def qz:Nat->St->List aF->Option (List aF×St)
 |0,q,l=>some (l,q)
 |k+1,q,l=>if q.1.length=0\/q.2≠0 then some (l,q)else if(jT (cx q)).2=0 then qz k (aS q) (l++[(jT (cx q)).1])else none
theorem vO {k:Nat} {q:St} {l:List aF} (h:q.1.length=0\/q.2≠0):qz k q l=some (l,q):=by
 cases k with|zero=>rfl|succ k=>rw[qz,if_pos h]
theorem Ga {k:Nat} {q:St} {l:List aF} (h:¬(q.1.length=0\/q.2≠0)) (h2:(jT (cx q)).2≠0):qz (k+1) q l=none:=by rw[qz,if_neg h,if_neg h2]
theorem yu {k:Nat} {q:St} {l:List aF} (h:¬(q.1.length=0\/q.2≠0)) (h2:(jT (cx q)).2=0):qz (k+1) q l=qz k (aS q) (l++[(jT (cx q)).1]):=by rw[qz,if_neg h,if_pos h2]
theorem Gi:(jT []).2≠0:=dc0
theorem zX {q:St} (h2:(jT (cx q)).2=0):q.2=0->(aS q).1.length<q.1.length/\(aS q).2=0:=by
 intro h0;have hne:cx q≠[]:=λe=>by rw[e]at h2;exact Gi h2
 unfold cx at hne;rw[if_pos h0]at hne;unfold aS;rw[if_pos h0];by_cases ht:sU q.1
 . obtain⟨h1,h3,h4⟩:=AG ht;(have z:=FS q.1);(have hk:0<tK q.1:=by rcases Nat.eq_zero_or_pos (tK q.1)with e|e;(. rw[h3]at e;rw[h1]at hne;exact absurd (by unfold dm;rw[show gK q.1+gN q.1=gK q.1 by omega];simp) hne);. exact e);refine⟨?_,h4⟩;simp only[List.length_drop];omega
 . exact absurd (xg ht).1 hne
inductive iC
 |same (e:Int)
 |fresh (gs:List Fl) (u:Int)
 |full (gs:List Fl) (u:Int) (sz:Int) (rt:Y0) (l:List aF) (rs:List Rf)
theorem GY (b:Y0):dJ 1099511627776 (jT b).1:=by
 have hz:dJ 1099511627776 cv:=⟨by simp[cv],by simp[cv],by simp[cv],by simp[cv],by simp[cv],by simp[cv]⟩;unfold jT;split;. split;(. rename_i h;obtain⟨_,h1,h2,h3,h4,h5,h6,_,_⟩:=gJ h;exact⟨by simp only;omega,by simp only;omega,by simp only;omega,by simp only;omega,by simp only;omega,λx hx=>by rw[h6 x hx];omega⟩);. exact hz
 . exact hz
def vC (gs:List Fl) (u:Int) (ss:List (Y0)) (need sz:Int) (rt:Y0):Option (List aF×St)->iC
 |none=>.same 2
 |some (l,q)=>
  if q.2=0/\(aw l).2.2=0/\(aw l).1=sz/\(aw l).2.1=rt then
   (if(dg ss need l).2.2=0 then .full gs u sz rt l (dg ss need l).1 else .same (dg ss need l).2.2)
  else .same 2
def mt (gs:List Fl) (u:Int) (ss:List (Y0)) (need:Int) (b:Y0):iC:=
 vC gs u ss need (aD (b,0)) (cu 32 (ao (b,0))) (qz ((aN 32 (ao (b,0))).1.length+1) (aN 32 (ao (b,0))) [])
def qS (f:Option (List aF×St)->iC) (V:iC) (q:St) (l:List aF):Prop:=∃k,q.1.length<k/\V=f (qz k q l)
theorem qS.stop {f:Option (List aF×St)->iC} {Kb:iC} {q:St} {l:List aF} (h:qS f Kb q l) (hs:q.1.length=0\/q.2≠0):Kb=f (some (l,q)):=by
 obtain⟨k,_,h⟩:=h;rw[h,vO hs]
theorem qS.bad {f:Option (List aF×St)->iC} {Kb:iC} {q:St} {l:List aF} (h:qS f Kb q l) (hs:¬(q.1.length=0\/q.2≠0)) (h2:(jT (cx q)).2≠0):Kb=f none:=by
 obtain⟨k,hk,h⟩:=h;obtain⟨k,rfl⟩:∃j,k=j+1:=⟨k-1,om⟩;rw[h,Ga hs h2]
theorem qS.more {f:Option (List aF×St)->iC} {Kb:iC} {q:St} {l:List aF} (h:qS f Kb q l) (hs:¬(q.1.length=0\/q.2≠0)) (h2:(jT (cx q)).2=0):qS f Kb (aS q) (l++[(jT (cx q)).1]):=by
 obtain⟨k,hk,h⟩:=h;obtain⟨k,rfl⟩:∃j,k=j+1:=⟨k-1,om⟩;refine⟨k,?_,by rw[h,yu hs h2]⟩;have:=zX h2 (by by_cases h0:q.2=0;exact h0;exact absurd (Or.inr h0) hs);omega
def gm (fs:List Fl) (f keep:Int) (ss:List (Y0)) (need:Int):iC:=
 if(bn fs f keep).2.2=0 then
  (if(ff (bn fs f keep).1 bo).2=7 then .fresh (bn fs f keep).1 (bn fs f keep).2.1
   else if(ff (bn fs f keep).1 bo).2=0 then mt (bn fs f keep).1 (bn fs f keep).2.1 ss need (ff (bn fs f keep).1 bo).1
   else .same (ff (bn fs f keep).1 bo).2)
 else .same (bn fs f keep).2.2
structure eU where
 fs:List Fl
 f:Int
 sz:Int
 rt:Y0
 l:List aF
 rs:List Rf
def fG (x:iC) (p:eU):eU×Int:=
 match x with
 |.same e=>(p,e)
 |.fresh gs u=>(⟨gs,u,0,aj [],[],[]⟩,0)
 |.full gs u sz rt l rs=>(⟨gs,u,sz,rt,l,rs⟩,0)
structure fX where
 rc:Tl->List (Y0)->List (Y0)×Int
 ds:Tl->Y0->Y0->Bool
structure nN (ρ:fX):Prop where
 rc:∀G ids r,jc G ids r->ρ.rc G ids=r
 ds:∀G id frm b,Ds G frm [] [id] b->ρ.ds G id frm=b
theorem DJ:∃ρ,nN ρ:=
 ⟨⟨λG ids=>@Classical.epsilon _ ⟨([],0)⟩ (jc G ids),λG id frm=>@Classical.epsilon _ ⟨false⟩ (Ds G frm [] [id])⟩,
  λG ids r h=>zb (Classical.epsilon_spec (p:=jc G ids) ⟨r,h⟩) h,λG id frm b h=>Hw (Classical.epsilon_spec (p:=Ds G frm [] [id]) ⟨b,h⟩) h⟩
def de (l:List aF):List (Y0):=l.filterMap λs=>if s.n=[]then none else some s.n
def bL (objs:List (Y0)):Tl:=λid=>match dl objs id with|some x=>(x,0)|none=>([],7)
def iy (more:List (Y0)) (fs:List Fl):Tl:=λid=>match dl more id with|some x=>(x,0)|none=>dW fs id
def cy (ρ:fX) (l:List aF) (objs:List (Y0)) (from_ hn:Int):List (Y0)×Y0×Int:=
 if from_<0\/(l.length:Int)<from_\/hn≠(l.length:Int)then([],[],3)
 else if dN l≠0 then([],[],dN l)
 else if(ρ.rc (bL objs) (de (l.take from_.toNat))).2≠0 then([],[],(ρ.rc (bL objs) (de (l.take from_.toNat))).2)
 else if(ρ.rc (bL objs) (de l)).2≠0 then([],[],(ρ.rc (bL objs) (de l)).2)
 else
  let old:=(ρ.rc (bL objs) (de (l.take from_.toNat))).1
  let all:=(ρ.rc (bL objs) (de l)).1
  let p:=fV ((all.filter λid=>!old.contains id).map λid=>(bL objs id).1) ((all.filter λid=>old.contains id).map λid=>(bL objs id).1)
  if p.2≠0 then([],[],p.2)else(bH (fh l) from_,p.1,0)
def rU (ρ:fX) (fs:List Fl) (more:List (Y0)) (rs:List Rf) (l:List aF):Int:=
 if(ρ.rc (iy more fs) (rs.map (·.2))).2≠0 then(ρ.rc (iy more fs) (rs.map (·.2))).2
 else if l.any (λs=>!s.o.isEmpty&&!s.n.isEmpty&&!ρ.ds (iy more fs) s.n s.o)then 14 else 0
def oI:List aF->dS->dS×Int
 |[],q=>(q,0)
 |s::r,q=>if(bF s).2=0 then oI r (bX (bF s).1 q)else(q,(bF s).2)
def ji (n:Int) (r:Y0) (l:List aF):Y0×Int:=
 if(aG n r).2≠0 then([],(aG n r).2)
 else if(oI l (df (aG n r).1 ([],0))).2≠0 then([],(oI l (df (aG n r).1 ([],0))).2)
 else
  let q:=(oI l (df (aG n r).1 ([],0))).1
  ((if q.2=0 then q.1 else[])++aj (if q.2=0 then q.1 else[]),(q.2:Int))
def jl:List (Y0)->List Fl->Int->List Fl×Int×Int
 |[],fs,f=>(fs,f,0)
 |s::r,fs,f=>if(gh fs f s).2.2.2=0 then jl r (gh fs f s).1 (gh fs f s).2.1 else((gh fs f s).1,(gh fs f s).2.1,(gh fs f s).2.2.2)
def gT (ρ:fX) (c:eU) (ss ws:List (Y0)) (need hn:Int) (hr:Y0) (ms:List (Int×Y0)) (from_:Int) (proof:List (Y0)) (steps:List aF) (pack:Y0):eU×Int:=
 if rl ws hn hr ms≠0 then(c,rl ws hn hr ms)
 else if from_≠c.sz\/from_≠(c.l.length:Int)then(c,9)
 else if kC c.sz c.rt hn hr proof≠0 then(c,kC c.sz c.rt hn hr proof)
 else if(aw (c.l++steps)).2.2≠0 then(c,(aw (c.l++steps)).2.2)
 else if¬((aw (c.l++steps)).1=hn/\(aw (c.l++steps)).2.1=hr)then(c,16)
 else if(dg ss need (c.l++steps)).2.2≠0 then(c,(dg ss need (c.l++steps)).2.2)
 else if(mj pack (gI c.fs)).2≠0 then(c,(mj pack (gI c.fs)).2)
 else if rU ρ c.fs (mj pack (gI c.fs)).1 (dg ss need (c.l++steps)).1 steps≠0 then(c,rU ρ c.fs (mj pack (gI c.fs)).1 (dg ss need (c.l++steps)).1 steps)
 else if(ji hn hr (c.l++steps)).2≠0 then(c,(ji hn hr (c.l++steps)).2)
 else
  let q:=jl (mj pack (gI c.fs)).1 c.fs c.f
  if q.2.2≠0 then({c with fs:=q.1,f:=q.2.1},q.2.2)
  else
   let v:=aY q.1 q.2.1 bo (ji hn hr (c.l++steps)).1
   if v.2.2≠0 then({c with fs:=v.1,f:=v.2.1},v.2.2)
   else(⟨v.1,v.2.1,hn,hr,c.l++steps,(dg ss need (c.l++steps)).1⟩,0)
theorem CA (fs:List Rf):∀(i:Nat) (h:i<fs.length) (j:Nat) (u:Value) (m:Rf),j<2->bB m=(bB fs[i]).set j u->(fs.flatMap bB).set (i*2+j) u=(fs.set i m).flatMap bB:=by
 induction fs with|nil=>intro i h;simp at h|cons f r J=>(intro i h j u m hj he;cases i with|zero=>simp only[List.getElem_cons_zero]at he;rw[List.flatMap_cons,List.set_append_left _ _ zhe,Nat.zero_mul,Nat.zero_add,<-he];rfl|succ i=>simp only[List.getElem_cons_succ]at he;have:=J i zfc j u m hj he;rw[List.flatMap_cons,List.set_append_right _ _ zhe,List.set_cons_succ,List.flatMap_cons,<-this];congr 2;simp[bB];omega)
theorem EX {w:World} {B e n cap g:Nat} {fs:List Rf} (h:w.ownsRow B e 2 ((g,0),n,cap) n (fs.flatMap bB)) (i:Nat) (hi:i<fs.length) (name id:Y0) (hn:fs[i].1=name):(w.setCell (g,i*2+1) id).ownsRow B e 2 ((g,0),n,cap) n ((fs.set i (name,id)).flatMap bB):=by
 have T:(fs.flatMap bB).length=fs.length*2:=cW bB 2 (λ_=>rfl) fs
 have o1:=oh h (i*2+1) zfR id;rw[CA fs i hi 1 id (name,id) om (by rw[<-hn];rfl)]at o1;exact o1
theorem pp {w:World} {B n cap:Nat} {A:Yy} {fs:List Rf} (h:w.ownsRow B 75 2 (A,n,cap) n (fs.flatMap bB)):cQ w A n fs:=ak.own h
theorem E9 {w:World} {k e n cap:Nat} {A:Yy} {xs:List Value} (h:w.ownsRow k e 2 (A,n,cap) n xs):A=none->n=0/\cap=0:=by
 exact zaD
structure eF (w:World) (V:List Rf×Int) (e:Ending) (w':World):Prop where
 ex:∃A c n,n=V.1.length/\e=.returned (.tuple #[(A,n,c),V.2])/\cQ w' A n V.1/\(A=none->n=0/\c=0)/\n<=c/\fq w.heap.size A n/\Gr w w'
theorem eF.bad {w w':World} {Kb:List Rf×Int} {k:Int} (h:Kb=([],k)) (g:Gr w w'):eF w Kb (.returned (.tuple #[n_,k])) w':=by
 subst h;exact⟨none,0,0,rfl,rfl,ak.nil _ _ _,λ_=>⟨rfl,rfl⟩,Dg _,fq.zero _ _,g⟩
theorem eF.own {w w':World} {Kb:List Rf×Int} {fs:List Rf} {A:Yy} {n c:Nat} (h:Kb=(fs,0)) (o:w'.ownsRow w.heap.size 75 2 (A,n,c) n (fs.flatMap bB)) (g:Gr w w'):eF w Kb (.returned (.tuple #[(A,n,c),i0])) w':=by
 subst h;exact⟨A,c,n,(cQ.len (pp o)).symm,rfl,pp o,E9 o,jI o,fq.own o,g⟩
theorem uX (fs:List Rf) (name old id:Y0) (A:Yy) (n cap:Nat) (w:World) (hn:n<=1099511627776) (hx:cQ w A n fs) (hA:A=none->n=0/\cap=0) (hs:∀f∈fs,f.1.length<=1099511627776/\f.2.length<=1099511627776) (La:name.length<=1099511627776) (u:old.length<=1099511627776) (Kn:id.length<=1099511627776):Calls Ao 90 #[.slice A n cap,.string (bs name),.string (bs old),.string (bs id)] w λe w'=>eF w (fj fs name old id) e w':=by
 have Kc:=aa (AV fs A n cap w hn hx hs);have a:=aa (λw=>li name w La);have O:=aa hx;have HA:=aa hA;have hl:=hx.len;obtain⟨Kb,hV⟩:=zq (fj fs name old id);rw[<-hV];have HV:ab (Kb=fj fs name old id):=aa hV;clear hV hx hA hs;cases hG:mz fs with|false=>have Kf:ab (Kb=([],3)):=aa zii;rw[hG]at Kc;clear hG;(go_enter Tryz.func90,Tryz.ntmps90);(go_wp2_with(go_at_call 127;refine Bo Kc.o ?_;rintro e w1 ⟨rfl,I⟩));go_ret2;exact eF.bad Kf.o I|true=>(obtain⟨Kh,hsz,s⟩:=wT hG;have Mf:ab (dP fs):=aa s;have Ke:ab (Kb=if fo name=true/\ip old=true/\ip id=true then(if eD fs name=old then(if fE name fs=true then(if id=[]then(fs.eraseIdx (fd name fs),0)else(fs.set (fd name fs) (name,id),0))else if id=[]then(fs,0)else if 32<=fs.length then([],6)else(ku (fd name fs) (name,id) fs,0))else([],9))else([],2)):=aa zii;rw[hG]at Kc;clear hG s hsz;obtain⟨ok,z⟩:∃ok:Bool,ok=(fo name&&(ip old&&ip id)):=⟨_,rfl⟩;have K:=aa z;clear z;(go_enter Tryz.func90,Tryz.ntmps90);(go_upto_region 3 with(go_at_call 127;refine Bo Kc.o ?_;rintro e w1 ⟨rfl,I⟩));(go_cut [17]from 18 to 40 (λv wc=>v=.bool (!ok)/\Gr w wc));(case first=>obtain⟨rb,Lq⟩:=zq (fo name);rw[<-Lq]at a;(have z:ok=(rb&&(ip old&&ip id)):=by rw[K.o,Lq]);clear Lq;cases rb;(. have O:ab (ok=false):=aa zhh;exact zan);. rcases kP old with⟨a1,a2⟩|⟨a1,a2,a3⟩|⟨a1,a2,a3⟩;(. rw[a2]at z;clear a2;exact zcw);(. rw[a3]at z;clear a3;exact zcw);. rw[a3]at z;clear a3;(have z:ok=false:=by rw[z];simp);have O:ab (ok=false):=aa z;exact zan);case rest=>clear I;obtain⟨rfl,Z⟩:=hcut;cases ok with|false=>have Eq:ab (Kb=([],2)):=aa (by rw[Ke.o,if_neg];rintro⟨h1,h2,h3⟩;have:=K.o;rw[h1,h2,h3]at this;cases this);(go_wp2_with fail);go_ret2;exact eF.bad Eq.o Z|true=>(have Eq:ab (Kb=if eD fs name=old then(if fE name fs=true then(if id=[]then(fs.eraseIdx (fd name fs),0)else(fs.set (fd name fs) (name,id),0))else if id=[]then(fs,0)else if 32<=fs.length then([],6)else(ku (fd name fs) (name,id) fs,0))else([],9)):=aa (by have:=K.o.symm;simp only[Bool.and_eq_true]at this;rw[Ke.o,if_pos this]);have Pb:ab (∀w',Gr w w'->Calls Ao 86 #[.slice A n cap,.string (bs name)] w' λe w''=>e=.returned (.string (bs (eD fs name)))/\Gr w' w''):=aa (λw' g=>uk fs name A n cap w' hn (O.o.gr g) Mf.o);have c:ab (∀w',Gr w w'->Calls Ao 124 #[.slice A n cap,.string (bs name)] w' λe w''=>e=.returned (.tuple #[.int .i64 (fd name fs:Int),.bool (fE name fs)])/\Gr w' w''):=aa (λw' g=>uZ fs name A n cap w' hn (O.o.gr g) Mf.o);have o:ab (∀w',Gr w w'->Calls Ao 128 #[.slice A n cap] w' λe w''=>∃U D,e=.returned (.slice U n D)/\w''.ownsRow w'.heap.size 75 2 (.slice U n D) n (fs.flatMap bB)/\Gr w' w''):=aa (λw' g=>Bn fs A n cap w' hn (O.o.gr g) HA.o);have Lx:ab (fd name fs<=fs.length):=aa (by unfold fd;exact(List.takeWhile_sublist _).length_le);have l:ab (fE name fs=true->∃hi:fd name fs<fs.length,fs[fd name fs].1=name):=aa (λh=>by obtain⟨h1,h2,_⟩:=wC Mf.o h;exact⟨h1,h2⟩);obtain⟨M,J⟩:=zq (eD fs name);obtain⟨k,hk⟩:=zq (fd name fs);obtain⟨hh,m⟩:=zq (fE name fs);rw[<-J,<-hk,<-m]at Eq;rw[<-J]at Pb;rw[<-hk,<-m]at c l;rw[<-hk]at Lx;have S:=Lx.o;clear J hk m HV Ke K;by_cases Kd:M=old;(. (have q0:(M==old)=true:=by rw[beq_iff_eq];exact Kd);have Kf:ab (Kb=if hh=true then(if id=[]then(fs.eraseIdx k,0)else(fs.set k (name,id),0))else if id=[]then(fs,0)else if 32<=fs.length then([],6)else(ku k (name,id) fs,0)):=aa (by rw[Eq.o,if_pos Kd]);clear Kd Eq;(go_upto_region 9 with(first|(go_at_call 86;(with_reducible refine Bo (Pb.o _ Z) ?_);rintro e w3 ⟨rfl,i⟩;have g3:=Gr.trans Z i)|(go_at_call 124;(with_reducible refine Bo (c.o _ g3) ?_);rintro e w4 ⟨rfl,Ko⟩;have g4:=Gr.trans g3 Ko)|(go_at_call 128;(with_reducible refine Bo (o.o _ g4) ?_);rintro e w5 ⟨A5,c5,rfl,o5,Kg⟩;have g5:=Gr.trans g4 Kg)));have j:=aa (eJ o5 g4.size);clear o5 i Ko Kg g3 q0;by_cases L:id=[];(. (have q1:(id==[])=true:=by rw[beq_iff_eq];exact L);cases hh with|true=>(obtain⟨hi,h1⟩:=l.o rfl;have Km:ab (Kb=(fs.eraseIdx k,0)):=aa (by rw[Kf.o,if_pos rfl,if_pos L]);have C:k<n:=om;have R:=aa (yV A5 n c5 k w.heap.size fs w5 j.o C hn);clear L Kf h1 hi;(go_wp2_with(go_at_call 129;refine Bo R.o ?_;rintro e w6 ⟨rfl,o6,g6⟩));go_ret2;exact eF.own Km.o o6 (Gr.grown g5 g6 (λk hk=>(j.o.lt k hk).1)))|false=>have Km:ab (Kb=(fs,0)):=aa (by rw[Kf.o,if_neg (by simp),if_pos L]);clear L Kf;(go_wp2_with fail);go_ret2;exact eF.own Km.o j.o g5);. (have q1:(id==[])=false:=by rw[beq_eq_false_iff_ne];exact L);cases hh with|true=>(obtain⟨hi,h1⟩:=l.o rfl;have Km:ab (Kb=(fs.set k (name,id),0)):=aa (by rw[Kf.o,if_pos rfl,if_neg L]);have C:(k:Int)<(n:Int):=om;have q:=aa (And.intro hi h1);(obtain⟨g,rfl,r⟩:∃g,A5=some ⟨g,0,none⟩/\w5.frozen? ⟨g,k*2+1,none⟩=false:=by(rcases j.o.2 with⟨_,h0⟩|⟨g,D,d,hv,_,hb,_⟩);(. omega);. injection hv with hv _ _;have Kv:ag w5 g 75 d:=hb;exact⟨g,hv,Kv.frozen _⟩);(have My:w5.cell? ⟨g,k*2+1,none⟩=some (.string (bs (fs[k]'hi).2)):=by(obtain⟨b,off,e,_,h3⟩:=(pp j.o).cell hi);injection e with e;injection e with e1 e2 _;subst e1 e2;rw[Nat.zero_add]at h3;exact h3);obtain⟨y,hy⟩:=zq (fs[k]'hi);rw[<-hy]at My;clear L Kf hy;(go_wp2_with fail);go_ret2;(have o7:=EX j.o k q.o.1 name id q.o.2);exact eF.own Km.o o7 (g5.setCell (p:=⟨g,k*2+1,none⟩) (j.o.lt g rfl).1 _))|false=>by_cases Kh:32<=fs.length;(. have q2:decide ((32:Int)<=(n:Int))=true:=decide_eq_true om;have Km:ab (Kb=([],6)):=aa (by rw[Kf.o,if_neg (by simp),if_neg L,if_pos Kh]);clear L Kf;(go_wp2_with fail);go_ret2;exact eF.bad Km.o g5);. have q2:decide ((32:Int)<=(n:Int))=false:=decide_eq_false om;have Km:ab (Kb=(ku k (name,id) fs,0)):=aa (by rw[Kf.o,if_neg (by simp),if_neg L,if_neg Kh]);have C:k<=n:=om;have t:=aa (yP A5 n c5 k w5.heap.size 1 w.heap.size fs (name,id) (w5.alloc (.cells #[.string (bs name),.string (bs id)] 75)) (j.o.alloc _) C hn (ag.new _ _ _) (λe=>by have:=(j.o.lt _ e).2;omega) (by have:=g5.size;simp;omega));clear L Kf Kh;(go_wp2_with(go_at_call 130;refine Bo t.o ?_;rintro e w6 ⟨A6,c6,rfl,o6,g6⟩));go_ret2;exact eF.own Km.o o6 (Gr.grown (g5.alloc _) g6 (λk hk=>(j.o.lt k hk).1)));. (have q0:(M==old)=false:=by rw[beq_eq_false_iff_ne];exact Kd);have Kf:ab (Kb=([],9)):=aa (by rw[Eq.o,if_neg Kd]);clear Kd;(go_wp2_with(go_at_call 86;(with_reducible refine Bo (Pb.o _ Z) ?_);rintro e w3 ⟨rfl,i⟩;have g3:=Gr.trans Z i));go_ret2;exact eF.bad Kf.o g3))
theorem nl {α:Type} (p:α->Bool) (l:List α) (i:Nat) (h:i<l.length):(l.take (i+1)).filter p=(l.take i).filter p++(if p l[i]=true then[l[i]]else[]):=by
 rw[List.take_succ_eq_append_getElem h,List.filter_append];congr 1;by_cases V:p l[i]=true;. rw[if_pos V];simp[V]
 . rw[if_neg V];simp[V]
section
open Go.RowKit Go.ChangeShapes Go.WideShapes
def jj (A:Yy) (n c:Nat) (f sz:Int) (r:Y0) (B:Yy) (m d:Nat) (C:Yy) (k e:Nat):Array Value:=#[(A,n,c),f,sz,r,(B,m,d),(C,k,e)]
end
theorem cn:dZ 60 6:=⟨⟨_,Tryz.underlying60,rfl⟩,by kernel_rfl⟩
structure Fe (w:World) (fs:List Fl) (es:List SA) (rs:List Rf) (A:Yy) (n:Nat) (B:Yy) (m:Nat) (C:Yy) (k:Nat):Prop where
 disk:aO w A n fs
 steps:dX w B m es
 refs:cQ w C k rs
theorem pV (A0:Yy) (m c0:Nat) (B0:Yy) (m' d0:Nat) (z:Int) (ss:List (Y0)) (es:List SA) (l:List aF) (A:Yy) (c:Nat) (w:World) (hK:aE w A0 m ss) (hm:m<=1099511627776) (Kt:∀x∈ss,x.length<=1099511627776) (hx:dX w A es.length es) (hl:l=es.map (·.s)) (hn:es.length<=1099511627776) (hz:∀e∈es,dJ 1099511627776 e.s) (hT:bK w):Calls Ao 84 #[.agg (ek A0 m c0 B0 m' d0 z),(A,es.length,c)] w λe w'=>∃U c' n',n'=(dg ss z l).1.length/\e=.returned (.tuple #[(U,n',c'),.int .i64 (dg ss z l).2.1,.int .i64 (dg ss z l).2.2])/\cQ w' U n' (dg ss z l).1/\(U=none->n'=0/\c'=0)/\n'<=c'/\fq w.heap.size U n'/\Gr w w':=by
 have O:=aa hx;have Ml:ab (∀i (h:i<es.length) W,Gr w W->Calls Ao 89 #[.agg (ek A0 m c0 B0 m' d0 z),.int .i64 (i:Int),.agg (aP es[i].s es[i].A es[i].c es[i].B es[i].d)] W λe w'=>e=.returned (.int .i64 (jg ss z (i:Int) es[i].s))/\Gr W w'):=aa (λi h W g=>rG A0 m c0 B0 m' d0 z ss (i:Int) es[i].s es[i].A es[i].c es[i].B es[i].d W (hK.gr g) hm Kt ((hx.each _ (List.getElem_mem h)).gr g) (hz _ (List.getElem_mem h)) (hT.gr g));have Lu:ab (∀(s:aF) (fs:List Rf) A2 c2 W,cQ W A2 fs.length fs->(A2=none->fs.length=0/\c2=0)->fs.length<=1099511627776->oQ 1099511627776 fs->s.r.length<=1099511627776->s.o.length<=1099511627776->s.n.length<=1099511627776→Calls Ao 90 #[(A2,fs.length,c2),s.r,s.o,s.n] W λe w'=>eF W (fj fs s.r s.o s.n) e w'):=aa (λs fs A2 c2 W h hA q hsz h1 h2 h3=>uX fs s.r s.o s.n A2 fs.length c2 W q h hA (λf hf=>hsz.each f hf) h1 h2 h3);have HZ:=aa hz;have HL:ab (∀i (h:i<es.length) (h':i<l.length),l[i]=es[i].s):=aa (λi h h'=>by subst hl;simp);obtain⟨N,hN⟩:=zq (es.length);have Ld:l.length=N:=zfV
 have HN:=aa hN;have Kx:=aa Ld;obtain⟨Kb,hV⟩:=zq (dg ss z l);have HV:ab (Kb=if 200<N then([],0,6)else jW ss z 0 l []):=aa (by rw[hV];unfold dg;rw[Ld]);rw[<-hN]at hn O;rw[<-hN,<-hV];obtain⟨J,H⟩:=zq (w.alloc (.cells (ek A0 m c0 B0 m' d0 z) 53));have G:ag J w.heap.size 53 (ek A0 m c0 B0 m' d0 z):=zeM
 have t:Gr w J:=zc5
 obtain⟨p,V⟩:=zq (w.heap.size);rw[<-V]at G;have Y:ab (∀W,Gr J W->W.cell? (p,0)=(A0,m,c0)/\W.cell? (p,1)=(B0,m',d0)/\W.cell? (p,2)=z):=aa (λW g=>⟨(G.gr g).cell 0,(G.gr g).cell 1,(G.gr g).cell 2⟩);clear hx hz hN hl Ld hV hK hm Kt hT G;unfold ek at H Ml;unfold ek;by_cases Mo:200<N;. have E:(200:Int)<(N:Int):=om;have HR:ab (Kb=([],0,6)):=aa (by rw[HV.o,if_pos Mo]);clear HV Mo;(go_enter Tryz.func84,Tryz.ntmps84);(go_upto_region 1 with fail);rw[<-H,<-V];clear H V;(go_wp2_with fail);(go_ret3);rw[HR.o];exact⟨none,0,0,rfl,rfl,ak.nil _ 2 none,λ_=>⟨rfl,rfl⟩,Dg _,fq.zero _ _,t⟩
 . have E:¬(200:Int)<(N:Int):=om;have Eq:ab (Kb=jW ss z 0 l []):=aa (by rw[HV.o,if_neg Mo]);have Kl:N<=200:=om;clear HV Mo;(go_enter Tryz.func84,Tryz.ntmps84);(go_upto_region 1 with fail);rw[<-H,<-V];clear H V;(go_wp2_with fail);(go_loopg [18,7,8,9,10,11,12] N (λfuel iv ov _ _ _ _ _ wr=>∃(i:Nat) (A2:Yy) (n2 c2:Nat),iv=.int .i64 (i:Int)/\ov=.slice A2 n2 c2/\N<=i+fuel/\i<=N∧ab (∃fs:List Rf,n2=fs.length/\cQ wr A2 fs.length fs/\(A2=none->fs.length=0/\c2=0)/\oQ 1099511627776 fs/\fs.length<=i/\Kb=jW ss z i (l.drop i) fs)/\ab (n2<=c2/\fq w.heap.size A2 n2)/\ab (Gr J wr)));(case atStart=>exact⟨0,none,0,0,rfl,rfl,om,om,aa ⟨[],rfl,ak.nil _ 2 none,λ_=>⟨rfl,rfl⟩,⟨by simp⟩,by simp,Eq.o⟩,aa ⟨Dg _,fq.zero _ _⟩,aa (B4 _)⟩);case round=>obtain⟨i,A2,n2,c2,rfl,rfl,Kj,hi,HF,Ka,HG⟩:=hrel;obtain⟨fs,rfl,Q,q,R,T,j⟩:=HF.o;have B:=aa Q;have L:=aa q;have X:=aa R;have Mh:=aa T;obtain⟨k0,k1,k2⟩:=Y.o wr HG.o;by_cases hlt:i<N;(. have Ki:(i:Int)<(N:Int):=om;(have D:i<es.length:=ze9);(have a:i<l.length:=zf0);(obtain⟨b,off,rfl,e0,e1,e2,e3,e4⟩:=(O.o.gr (t.trans HG.o)).cell D);have Kd:=aa (Ml.o i D);have F:=HZ.o _ (List.getElem_mem D);rw[Hj ss z l i a fs,HL.o i D a]at j;obtain⟨E0,Kh⟩:=zq (es[i]);rw[<-Kh]at Kd j F e0 e1 e2 e3 e4;clear Kh D a;obtain⟨K,A1,c1,B1,d1⟩:=E0;simp only at e0 e1 e2 e3 e4 Kd j F;have Mx:ab (∀W,cQ W A2 fs.length fs->Calls Ao 90 #[(A2,fs.length,c2),K.r,K.o,K.n] W λe w'=>eF W (fj fs K.r K.o K.n) e w'):=aa (λW h=>Lu.o K fs A2 c2 W h L.o zhY X.o F.r F.o F.n);have Kq:=aa (zJ (name:=K.r) (old:=K.o) (id:=K.n) X.o F.r F.n);obtain⟨y,hy⟩:∃y,y=jg ss z (i:Int) K:=⟨_,rfl⟩;obtain⟨Ke,v⟩:=zq (fj fs K.r K.o K.n);rw[<-hy]at Kd j;rw[<-v]at Mx Kq j;have Kc:=aa j;obtain⟨n2,hn2⟩:=zq (fs.length);have Kf:=aa hn2;rw[<-hn2]at Mx B Mh;rw[<-hn2];obtain⟨r,o,n,who,seals⟩:=K;simp only[aP]at Kd;simp only at e0 e1 e2 e3 e4 Mx;have Il:=aa hlt;clear hlt hy v j F Q q R T hn2 HF;(have GA:=(B4 wr).alloc (.cells #[r,o,n,(A1,who.length,c1),(B1,seals.length,d1)] 73));have bA:=ag.new wr 73 #[r,o,n,(A1,who.length,c1),(B1,seals.length,d1)];obtain⟨Km,Kn,Ko⟩:=Y.o _ (HG.o.trans GA);by_cases Kr:y=0;(. subst Kr;have M:ab (Kb=if Ke.2=0 then jW ss z (i+1) (l.drop (i+1)) Ke.1 else([],(i:Int),Ke.2)):=aa (by rw[Kc.o,if_pos rfl]);obtain⟨U1,U2⟩:=Ke;simp only at M Kq;by_cases P:U2=0;(. subst P;have d:ab (Kb=jW ss z (i+1) (l.drop (i+1)) U1):=aa (by rw[M.o,if_pos rfl]);(go_wp2_with(first|(go_at_call 89;(with_reducible refine Bo (Kd.o _ (t.trans (HG.o.trans GA))) ?_);rintro e w1 ⟨rfl,I⟩;have G1:=GA.trans I;have b1:=bA.gr I;have x0:=b1.cell 0;have x1:=b1.cell 1;have x2:=b1.cell 2)|(go_at_call 90;(with_reducible refine Bo (Mx.o _ (B.o.gr G1)) ?_);rintro e w2 ⟨A5,c5,n5,Ni,rfl,r5,q5,C,k,g5⟩;have S:=aa Ni;clear Ni)));(go_roundg (gk-1));(case rel=>exact⟨i+1,A5,n5,c5,by go_num,rfl,om,Il.o,aa ⟨U1,S.o,by rw[<-S.o];exact r5,by rw[<-S.o];exact q5,Kq.o.1,by have:=Kq.o.2;have:=Mh.o;have:=Kf.o;omega,d.o⟩,aa ⟨C,fq.low k (t.trans (HG.o.trans G1)).size⟩,aa ((HG.o.trans G1).trans g5)⟩);case measure=>have:=Il.o;omega);. have d:ab (Kb=([],(i:Int),U2)):=aa (by rw[M.o,if_neg P]);(have Z:(U2 !=0)=true:=by rw[bne_iff_ne];exact P);(have Kg:(U2==0)=false:=by rw[beq_eq_false_iff_ne];exact P);clear P;(go_wp2_with(first|(go_at_call 89;(with_reducible refine Bo (Kd.o _ (t.trans (HG.o.trans GA))) ?_);rintro e w1 ⟨rfl,I⟩;have G1:=GA.trans I;have b1:=bA.gr I;have x0:=b1.cell 0;have x1:=b1.cell 1;have x2:=b1.cell 2)|(go_at_call 90;(with_reducible refine Bo (Mx.o _ (B.o.gr G1)) ?_);rintro e w2 ⟨A5,c5,n5,Ni,rfl,r5,q5,C,k,g5⟩;clear Ni)));(go_ret3);rw[d.o];exact⟨none,0,0,rfl,rfl,ak.nil _ 2 none,λ_=>⟨rfl,rfl⟩,Dg _,fq.zero _ _,t.trans ((HG.o.trans G1).trans g5)⟩);. have d:ab (Kb=([],(i:Int),y)):=aa (by rw[Kc.o,if_neg Kr]);(have Mb:(y !=0)=true:=zfi);(have Kk:(y==0)=false:=by rw[beq_eq_false_iff_ne];exact Kr);clear Kr;(go_wp2_with(first|(go_at_call 89;(with_reducible refine Bo (Kd.o _ (t.trans (HG.o.trans GA))) ?_);rintro e w1 ⟨rfl,I⟩;have G1:=GA.trans I)));(go_ret3);rw[d.o];exact⟨none,0,0,rfl,rfl,ak.nil _ 2 none,λ_=>⟨rfl,rfl⟩,Dg _,fq.zero _ _,t.trans (HG.o.trans G1)⟩);. have q1:decide (i<N)=false:=decide_eq_false hlt;(have u:Kb=(fs,0,0):=by rw[j,List.drop_eq_nil_of_le (by rw[Kx.o];omega)];rfl);have d:=aa u;obtain⟨n2,hn2⟩:=zq (fs.length);have Kf:=aa hn2;rw[<-hn2]at B;rw[<-hn2];clear hn2 j hlt u Q q R T HF;(go_wp2_with fail);(go_ret3);rw[d.o];exact⟨A2,c2,n2,Kf.o,rfl,B.o,by rw[Kf.o];exact L.o,by rw[Kf.o];exact Ka.o.1,by rw[Kf.o];exact Ka.o.2,t.trans HG.o⟩
structure lh where
 fs:List Fl
 f:Int
 sz:Int
 rt:Y0
structure ba where
 logs:Nat->List aF
 marks:Nat->List (Int×Y0)
 objs:List (Y0)
 first:Y0
 wit:Nat->lh
 cli:Nat->eU
 down:Nat->Bool
 deeds:Nat
def am {α:Type} (f:Nat->α) (i:Nat) (x:α):Nat->α:=λj=>if j=i then x else f j
abbrev Rp:=Int×Int×Y0
def dU:ba:=⟨λ_=>[],λ_=>[],[],[],λ_=>⟨[],-1,0,aj []⟩,λ_=>⟨[],-1,0,aj [],[],[]⟩,λ_=>false,0⟩
def iX:Y0:=[100,97,116,97]
def fS (old first:Y0) (d:Dd):List (Y0)×Y0×Int:=
 let blob:=bT ⟨1,d.data,[],[],[],[],[],0,[]⟩
 if blob.2≠0 then([],[],blob.2)
 else
  let tree:=bT ⟨2,[],[⟨iX,false,aj blob.1⟩],[],[],[],[],0,[]⟩
  if tree.2≠0 then([],[],tree.2)
  else
   let o:=if d.old=true then first else old
   let b:=bT ⟨3,[],[],aj tree.1,if o=[]then[]else[o],[],d.ref,0,[]⟩
   if b.2≠0 then([],[],b.2)else([blob.1,tree.1,b.1],aj b.1,0)
def ki (n:Int) (i:Nat):Bool:=n/2^i%2==1
def io (s:aF) (at_:Int) (n:Int):Nat->aF
 |0=>s
 |i+1=>if ki n i then(jk (io s at_ n i) at_ (i:Int) (aj (dM i))).1 else io s at_ n i
def d9 (s:ba) (b:Nat) (d:Dd):ba×Rp:=
 let r:=dg aT 0 (s.logs b)
 if r.2.2≠0 then(s,r.2.2,0,[])
 else if fo d.ref=false then(s,2,0,[])
 else if 200<=(s.logs b).length then(s,6,0,[])
 else
  let old:=eD r.1 d.ref
  let c:=if d.data≠[]\/old=[]then fS old s.first d else([],[],0)
  if c.2.2≠0 then(s,c.2.2,0,[])
  else if c.2.1=old then(s,9,0,[])
  else
   let st:=io ⟨d.ref,old,c.2.1,[],[]⟩ ((s.logs b).length:Int) d.sg 3
   let e:=jg aT 2 ((s.logs b).length:Int) st
   if e≠0/\d.b=0 then(s,e,0,[])
   else
    let q:=fj r.1 st.r st.o st.n
    if q.2≠0 then(s,q.2,0,[])
    else({s with objs:=s.objs++c.1,first:=if s.first=[]then st.n else s.first,logs:=am s.logs b (s.logs b++[st]),marks:=am s.marks b []},0,((s.logs b).length:Int)+1,st.n)
def dA (s:ba) (b i:Nat):ba×Rp:=
 let h:=aw (s.logs b)
 if h.2.2≠0 then(s,h.2.2,0,[])
 else
  let put:=λ(t:ba) (m:Int×Y0)=>({t with marks:=am t.marks b ((t.marks b).filter (λo=>decide (o.1<(i:Int)))++[m]++(t.marks b).filter (λo=>decide ((i:Int)<o.1)))},((0:Int),h.1,([]:Y0)))
  if i=3 then
   (if(fi 3 (aj (ar 3)) h.1 h.2.1).2.2≠0 then(s,(fi 3 (aj (ar 3)) h.1 h.2.1).2.2,0,[])else put s ((fi 3 (aj (ar 3)) h.1 h.2.1).1,(fi 3 (aj (ar 3)) h.1 h.2.1).2.1))
  else if s.down (3+i)=true then(s,12,0,[])
  else
   let x:=s.wit i
   let n:=dY x.fs x.f (i:Int) (aj (ar i)) x.sz x.rt h.1 h.2.1 (bH (cD (s.logs b)).1 x.sz)
   let t:ba:={s with wit:=am s.wit i ⟨n.fs,n.u,n.so,n.ro⟩,down:=am s.down (3+i) (n.e==12)}
   if n.e≠0 then(t,n.e,0,[])else put t (n.mw,n.ms)
def cR (ρ:fX) (s:ba) (b i:Nat):ba×Rp:=
 if s.down i=true then(s,12,0,[])
 else
  let h:=aw (s.logs b)
  if h.2.2≠0 then(s,h.2.2,0,[])
  else
   let c:=s.cli i
   if h.1<c.sz then(s,15,0,[])
   else
    let m:=cy ρ (s.logs b) s.objs c.sz h.1
    if m.2.2≠0 then(s,m.2.2,0,[])
    else
     let a:=gT ρ c aT eQ 2 h.1 h.2.1 (s.marks b) c.sz m.1 ((s.logs b).drop c.sz.toNat) m.2.1
     let t:ba:={s with cli:=am s.cli i a.1,down:=am s.down i (a.2==12)}
     if a.2≠0 then(t,a.2,0,[])else(t,0,h.1,[])
def dh (s:ba) (i:Nat) (keep:Int):ba×Rp:=
 if i<3 then
  let c:=s.cli i
  let x:=fG (gm c.fs c.f keep aT 2) c
  let t:ba:={s with cli:=am s.cli i x.1}
  if x.2≠0 then(t,x.2,0,[])else({t with down:=am t.down i false},0,0,[])
 else
  let c:=s.wit (i-3)
  let x:=cG c.fs c.f keep c.sz c.rt
  let t:ba:={s with wit:=am s.wit (i-3) ⟨x.1,x.2.1,x.2.2.1,x.2.2.2.1⟩}
  if x.2.2.2.2≠0 then(t,x.2.2.2.2,0,[])else({t with down:=am t.down i false},0,0,[])
def eN (s:ba) (i:Nat) (n:Int):ba×Rp:=
 if i<3 then({s with cli:=am s.cli i {s.cli i with f:=n}},0,0,[])else({s with wit:=am s.wit (i-3) {s.wit (i-3)with f:=n}},0,0,[])
def jK (s:ba) (b:Nat):ba×Rp:=({s with logs:=am s.logs (1-b) (s.logs b),marks:=am s.marks (1-b) (s.marks b)},0,((s.logs b).length:Int),[])
def eK (ρ:fX) (s0:ba) (d:Dd):ba×Rp:=
 if 120<=s0.deeds then(s0,6,0,[])
 else
  let s:ba:={s0 with deeds:=s0.deeds+1}
  if d.b<0\/1<d.b then(s,3,0,[])
  else if d.k=1 then d9 s d.b.toNat d
  else if d.k=2 then jK s d.b.toNat
  else if d.k=3 then(if d.w<0\/4<=d.w then(s,3,0,[])else dA s d.b.toNat d.w.toNat)
  else if d.k=4 then(if d.w<0\/3<=d.w then(s,3,0,[])else cR ρ s d.b.toNat d.w.toNat)
  else if d.k=5\/d.k=6 then(if d.w<0\/7<=d.w\/d.size<0 then(s,3,0,[])else if d.k=5 then eN s d.w.toNat d.size else dh s d.w.toNat d.size)
  else(s,4,0,[])
def gP (ρ:fX):ba->List Dd->List Rp
 |_,[]=>[]
 |s,d::r=>(eK ρ s d).2::gP ρ (eK ρ s d).1 r
theorem C9 (ρ:fX) (l:List Dd):∀(n:Nat) (s:ba),gP ρ s (l.take n)=(gP ρ s l).take n:=by
 induction l with|nil=>intro n s;simp[gP]|cons d r J=>(intro n s;cases n with|zero=>simp[gP]|succ n=>simp only[List.take_succ_cons,gP];rw[J])
theorem wO (ρ:fX):∀(l:List Dd) (s:ba),(gP ρ s l).length=l.length
 |[],s=>rfl
 |d::r,s=>by rw[gP,List.length_cons,List.length_cons,wO ρ r]
section
structure WA where
 kA:Yy
 kc:Nat
 vA:Yy
 vc:Nat
 bA:Nat->Yy
 bc:Nat->Nat
 be:Nat->List SA
 mA:Nat->Yy
 mc:Nat->Nat
 oA:Yy
 oc:Nat
 wA:Nat->Yy
 wc:Nat->Nat
 cA:Nat->Yy
 cc:Nat->Nat
 sA:Nat->Yy
 sc:Nat->Nat
 se:Nat->List SA
 rA:Nat->Yy
 rc:Nat->Nat
def WA.ob (a:WA) (k:Nat):Prop:=(Value.slice a.oA 0 0).ownBlock=some k
def dE (a:WA) (s:ba):Array Value:=#[
 .slice a.kA 3 a.kc,.slice a.vA 4 a.vc,.int .i64 2,
 .slice (a.bA 0) (a.be 0).length (a.bc 0),.slice (a.mA 0) (s.marks 0).length (a.mc 0),.slice (a.bA 1) (a.be 1).length (a.bc 1),.slice (a.mA 1) (s.marks 1).length (a.mc 1),
 .slice a.oA s.objs.length a.oc,.string (bs s.first),
 .int .i64 ((0:Nat):Int),.string (bs (aj (ar 0))),.slice (a.wA 0) (s.wit 0).fs.length (a.wc 0),.int .i64 (s.wit 0).f,.int .i64 (s.wit 0).sz,.string (bs (s.wit 0).rt),
 .int .i64 ((1:Nat):Int),.string (bs (aj (ar 1))),.slice (a.wA 1) (s.wit 1).fs.length (a.wc 1),.int .i64 (s.wit 1).f,.int .i64 (s.wit 1).sz,.string (bs (s.wit 1).rt),
 .int .i64 ((2:Nat):Int),.string (bs (aj (ar 2))),.slice (a.wA 2) (s.wit 2).fs.length (a.wc 2),.int .i64 (s.wit 2).f,.int .i64 (s.wit 2).sz,.string (bs (s.wit 2).rt),
 .int .i64 ((3:Nat):Int),.string (bs (aj (ar 3))),.slice (a.wA 3) (s.wit 3).fs.length (a.wc 3),.int .i64 (s.wit 3).f,.int .i64 (s.wit 3).sz,.string (bs (s.wit 3).rt),
 .slice (a.cA 0) (s.cli 0).fs.length (a.cc 0),.int .i64 (s.cli 0).f,.int .i64 (s.cli 0).sz,.string (bs (s.cli 0).rt),.slice (a.sA 0) (a.se 0).length (a.sc 0),.slice (a.rA 0) (s.cli 0).rs.length (a.rc 0),
 .slice (a.cA 1) (s.cli 1).fs.length (a.cc 1),.int .i64 (s.cli 1).f,.int .i64 (s.cli 1).sz,.string (bs (s.cli 1).rt),.slice (a.sA 1) (a.se 1).length (a.sc 1),.slice (a.rA 1) (s.cli 1).rs.length (a.rc 1),
 .slice (a.cA 2) (s.cli 2).fs.length (a.cc 2),.int .i64 (s.cli 2).f,.int .i64 (s.cli 2).sz,.string (bs (s.cli 2).rt),.slice (a.sA 2) (a.se 2).length (a.sc 2),.slice (a.rA 2) (s.cli 2).rs.length (a.rc 2),
 .bool (s.down 0),.bool (s.down 1),.bool (s.down 2),.bool (s.down 3),.bool (s.down 4),.bool (s.down 5),.bool (s.down 6),.int .i64 (s.deeds:Int)]
structure ni (F:Nat->Prop) (w:World) (e:SA):Prop where
 who:aV F w 1 e.A e.s.who.length e.c (e.s.who.map iV)
 seals:aV F w 1 e.B e.s.seals.length e.d (e.s.seals.map aC)
section
variable{F F' M:Nat→Prop} {w w':World}
theorem ni.str {e:SA} (h:ni F w e):mS w e.s e.A e.c e.B e.d:=⟨h.who.row,h.seals.row,h.who.nil,h.seals.nil,h.who.cap,h.seals.cap⟩
theorem ni.mod {e:SA} (h:ni F w e) (m:aH M w w') (hd:∀k,F k->¬M k):ni F w' e:=⟨h.who.mod m hd,h.seals.mod m hd⟩
theorem ni.mono {e:SA} (h:ni F w e) (hF:∀k,F k->F' k):ni F' w e:=⟨h.who.mono hF,h.seals.mono hF⟩
structure iT (F:Nat->Prop) (w:World) (A:Yy) (c:Nat) (es:List SA) (l:List aF):Prop where
 row:aV F w 5 A es.length c (es.flatMap bO)
 eq:l=es.map (·.s)
 each:∀e∈es,ni F w e
theorem iT.sts {A:Yy} {c:Nat} {es:List SA} {l:List aF} (h:iT F w A c es l):dX w A es.length es:=⟨h.row.row,λe he=>(h.each e he).str⟩
theorem iT.mod {A:Yy} {c:Nat} {es:List SA} {l:List aF} (h:iT F w A c es l) (m:aH M w w') (hd:∀k,F k->¬M k):iT F w' A c es l:=⟨h.row.mod m hd,h.eq,λe he=>(h.each e he).mod m hd⟩
theorem iT.mono {A:Yy} {c:Nat} {es:List SA} {l:List aF} (h:iT F w A c es l) (hF:∀k,F k->F' k):iT F' w A c es l:=⟨h.row.mono hF,h.eq,λe he=>(h.each e he).mono hF⟩
theorem iT.len {A:Yy} {c:Nat} {es:List SA} {l:List aF} (h:iT F w A c es l):es.length=l.length:=by rw[h.eq,List.length_map]
structure j4 (F:Nat->Prop) (w:World) (A:Yy) (c:Nat) (S:Yy) (sc:Nat) (es:List SA) (R:Yy) (rc:Nat) (x:eU):Prop where
 disk:aV F w 3 A x.fs.length c (x.fs.flatMap ap)
 steps:iT F w S sc es x.l
 refs:aV F w 2 R x.rs.length rc (x.rs.flatMap bB)
theorem j4.mod {A S R:Yy} {c sc rc:Nat} {es:List SA} {x:eU} (h:j4 F w A c S sc es R rc x) (m:aH M w w') (hd:∀k,F k->¬M k):j4 F w' A c S sc es R rc x:=⟨h.disk.mod m hd,h.steps.mod m hd,h.refs.mod m hd⟩
theorem j4.mono {A S R:Yy} {c sc rc:Nat} {es:List SA} {x:eU} (h:j4 F w A c S sc es R rc x) (hF:∀k,F k->F' k):j4 F' w A c S sc es R rc x:=⟨h.disk.mono hF,h.steps.mono hF,h.refs.mono hF⟩
structure dI (F:Nat->Prop) (w:World) (a:WA) (s:ba):Prop where
 lt:∀k,F k->k<w.heap.size
 keys:aV F w 1 a.kA 3 a.kc (aT.map aC)
 wkeys:aV F w 1 a.vA 4 a.vc (eQ.map aC)
 logs:∀b,b<2->iT F w (a.bA b) (a.bc b) (a.be b) (s.logs b)
 plain:∀b,b<2->oD (a.bA b)
 marks:∀b,b<2->aV F w 2 (a.mA b) (s.marks b).length (a.mc b) ((s.marks b).flatMap ep)
 objs:w.ownsRow 0 9 1 (a.oA,s.objs.length,a.oc) s.objs.length (s.objs.map aC)
 apart:∀k,a.ob k->¬F k
 wit:∀i,i<4->aV F w 3 (a.wA i) (s.wit i).fs.length (a.wc i) ((s.wit i).fs.flatMap ap)
 cli:∀i,i<3->j4 F w (a.cA i) (a.cc i) (a.sA i) (a.sc i) (a.se i) (a.rA i) (a.rc i) (s.cli i)
variable{a:WA} {s:ba}
theorem dI.mod (h:dI F w a s) (m:aH M w w') (hd:∀k,F k->¬M k) (ho:∀k,a.ob k->¬M k):dI F w' a s:=
 ⟨λk hk=>Nat.lt_of_lt_of_le (h.lt k hk) m.size,h.keys.mod m hd,h.wkeys.mod m hd,λb hb=>(h.logs b hb).mod m hd,h.plain,λb hb=>(h.marks b hb).mod m hd,
  jN h.objs m (λk hk=>ho k (by
   unfold WA.ob
   cases hA:a.oA with
   |none=>rw[hA]at hk;cases hk
   |some x=>rw[hA]at hk;exact hk)),
  h.apart,λi hi=>(h.wit i hi).mod m hd,λi hi=>(h.cli i hi).mod m hd⟩
theorem dI.mono (h:dI F w a s) (hF:∀k,F k->F' k) (hl:∀k,F' k->k<w.heap.size) (ho:∀k,a.ob k->¬F' k):dI F' w a s:=
 ⟨hl,h.keys.mono hF,h.wkeys.mono hF,λb hb=>(h.logs b hb).mono hF,h.plain,λb hb=>(h.marks b hb).mono hF,h.objs,ho,λi hi=>(h.wit i hi).mono hF,λi hi=>(h.cli i hi).mono hF⟩
structure aX (F:Nat->Prop) (w:World) (g:Nat) (a:WA) (s:ba):Prop where
 blk:ag w g 90 (dE a s)
 rows:dI F w a s
 hF:¬F g
 ho:¬a.ob g
def WM (g:Nat) (a:WA):Nat->Prop:=λk=>k=g\/a.ob k
def bZ (F:Nat->Prop) (w w':World) (a:WA):Nat->Prop:=λk=>F k\/(w.heap.size<=k/\k<w'.heap.size/\¬a.ob k)
variable{g:Nat}
theorem aX.mod (h:aX F w g a s) (m:aH M w w') (hM:∀k,M k->k≠g/\¬F k/\¬a.ob k):aX F w' g a s:=
 ⟨h.blk.mod m (λh'=>(hM g h').1 rfl),h.rows.mod m (λk hk h'=>(hM k h').2.1 hk) (λk hk h'=>(hM k h').2.2 hk),h.hF,h.ho⟩
theorem aX.gr (h:aX F w g a s) (k:Gr w w'):aX F w' g a s:=h.mod (M:=λ_=>False) k.mod (λ_ h=>h.elim)
structure cT (F:Nat->Prop) (w:World) (g:Nat) (a:WA) (s':ba) (w':World):Prop where
 ex:∃a',aX (bZ F w w' a') w' g a' s'/\(∀k,a'.ob k->a.ob k\/w.heap.size<=k)
 mod:aH (WM g a) w w'
end
theorem oO (a:WA) (s:ba) {i:Nat} (hi:i<3):(dE a s)[33+i*6]?=some (.slice (a.cA i) (s.cli i).fs.length (a.cc i))/\(dE a s)[33+i*6+1]?=some (.int .i64 (s.cli i).f)/\(dE a s)[33+i*6+2]?=some (.int .i64 (s.cli i).sz)∧(dE a s)[33+i*6+3]?=some (.string (bs (s.cli i).rt))/\(dE a s)[33+i*6+4]?=some (.slice (a.sA i) (a.se i).length (a.sc i))/\(dE a s)[33+i*6+5]?=some (.slice (a.rA i) (s.cli i).rs.length (a.rc i)):=by
 match i,hi with|0,_=>exact⟨rfl,rfl,rfl,rfl,rfl,rfl⟩|1,_=>exact⟨rfl,rfl,rfl,rfl,rfl,rfl⟩|2,_=>exact⟨rfl,rfl,rfl,rfl,rfl,rfl⟩
theorem pm (a:WA) (s:ba) {i:Nat} (hi:i<4):(dE a s)[9+i*6]?=some (.int .i64 (i:Int))/\(dE a s)[9+i*6+1]?=some (.string (bs (aj (ar i))))/\(dE a s)[9+i*6+2]?=some (.slice (a.wA i) (s.wit i).fs.length (a.wc i))/\(dE a s)[9+i*6+3]?=some (.int .i64 (s.wit i).f)∧(dE a s)[9+i*6+4]?=some (.int .i64 (s.wit i).sz)/\(dE a s)[9+i*6+5]?=some (.string (bs (s.wit i).rt)):=by
 match i,hi with|0,_=>exact⟨rfl,rfl,rfl,rfl,rfl,rfl⟩|1,_=>exact⟨rfl,rfl,rfl,rfl,rfl,rfl⟩|2,_=>exact⟨rfl,rfl,rfl,rfl,rfl,rfl⟩|3,_=>exact⟨rfl,rfl,rfl,rfl,rfl,rfl⟩
theorem kK (a:WA) (s:ba) {i:Nat} (hi:i<7):(dE a s)[51+i]?=some (.bool (s.down i)):=by
 match i,hi with|0,_|1,_|2,_|3,_|4,_|5,_|6,_=>rfl
theorem jO (a:WA) (s:ba) {b:Nat} (hb:b<2):(dE a s)[3+b*2]?=some (.slice (a.bA b) (a.be b).length (a.bc b))/\(dE a s)[3+b*2+1]?=some (.slice (a.mA b) (s.marks b).length (a.mc b)):=by
 match b,hb with|0,_=>exact⟨rfl,rfl⟩|1,_=>exact⟨rfl,rfl⟩
theorem yZ (a:WA) (s:ba) {i:Nat} (hi:i<3) (A:Yy) (c:Nat) (S:Yy) (sc:Nat) (es:List SA) (R:Yy) (rc:Nat) (x:eU):((((((dE a s).setIfInBounds (33+i*6) (A,x.fs.length,c)).setIfInBounds (33+i*6+1) x.f).setIfInBounds (33+i*6+2) x.sz).setIfInBounds (33+i*6+3) x.rt).setIfInBounds (33+i*6+4) (S,es.length,sc)).setIfInBounds (33+i*6+5) (R,x.rs.length,rc)=dE {a with cA:=am a.cA i A,cc:=am a.cc i c,sA:=am a.sA i S,sc:=am a.sc i sc,se:=am a.se i es,rA:=am a.rA i R,rc:=am a.rc i rc} {s with cli:=am s.cli i x}:=by
 exact zbZ
theorem yy (a:WA) (s:ba) {i:Nat} (hi:i<4) (A:Yy) (c:Nat) (x:lh):((((((dE a s).setIfInBounds (9+i*6) i).setIfInBounds (9+i*6+1) (aj (ar i))).setIfInBounds (9+i*6+2) (A,x.fs.length,c)).setIfInBounds (9+i*6+3) x.f).setIfInBounds (9+i*6+4) x.sz).setIfInBounds (9+i*6+5) x.rt=dE {a with wA:=am a.wA i A,wc:=am a.wc i c} {s with wit:=am s.wit i x}:=by
 exact zbO
theorem xW (a:WA) (s:ba) {i:Nat} (hi:i<7) (x:Bool):(dE a s).setIfInBounds (51+i) x=dE a {s with down:=am s.down i x}:=by
 obtain rfl|rfl|rfl|rfl|rfl|rfl|rfl:i=0\/i=1\/i=2\/i=3\/i=4\/i=5\/i=6:=om;all_goals kernel_rfl
theorem vQ (a:WA) (s:ba) {i:Nat} (hi:i<3) (x:Int):(dE a s).setIfInBounds (33+i*6+1) x=dE a {s with cli:=am s.cli i {s.cli i with f:=x}}:=by
 exact zbZ
theorem wQ (a:WA) (s:ba) {i:Nat} (hi:i<4) (x:Int):(dE a s).setIfInBounds (9+i*6+3) x=dE a {s with wit:=am s.wit i {s.wit i with f:=x}}:=by
 exact zbO
theorem Ad (a:WA) (s:ba) {b:Nat} (hb:b<2) (A:Yy) (c:Nat) (l:List (Int×Y0)):(dE a s).setIfInBounds (3+b*2+1) (A,l.length,c)=dE {a with mA:=am a.mA b A,mc:=am a.mc b c} {s with marks:=am s.marks b l}:=by
 exact zcc
theorem Ci (a:WA) (s:ba) {b:Nat} (hb:b<2) (A:Yy) (c:Nat) (es:List SA) (l:List aF):(dE a s).setIfInBounds (3+b*2) (A,es.length,c)=dE {a with bA:=am a.bA b A,bc:=am a.bc b c,be:=am a.be b es} {s with logs:=am s.logs b l}:=by
 exact zcc
theorem Cf (a:WA) (s:ba) (A:Yy) (c:Nat) (l:List (Y0)):(dE a s).setIfInBounds 7 (A,l.length,c)=dE {a with oA:=A,oc:=c} {s with objs:=l}:=by kernel_rfl
theorem Av (a:WA) (s:ba) (x:Y0):(dE a s).setIfInBounds 8 x=dE a {s with first:=x}:=by kernel_rfl
theorem Ar (a:WA) (s:ba) (x:Nat):(dE a s).setIfInBounds 58 x=dE a {s with deeds:=x}:=by kernel_rfl
end
def wi (b t o ref:Y0):List (Y0)×Y0×Int:=
 if(bT ⟨3,[],[],aj t,if o=[]then[]else[o],[],ref,0,[]⟩).2≠0 then([],[],(bT ⟨3,[],[],aj t,if o=[]then[]else[o],[],ref,0,[]⟩).2)
 else([b,t,(bT ⟨3,[],[],aj t,if o=[]then[]else[o],[],ref,0,[]⟩).1],aj (bT ⟨3,[],[],aj t,if o=[]then[]else[o],[],ref,0,[]⟩).1,0)
theorem Gu (old first:Y0) (d:Dd) {a tr:Y0×Int} (h1:a=bT ⟨1,d.data,[],[],[],[],[],0,[]⟩) (h2:tr=bT ⟨2,[],[⟨iX,false,aj a.1⟩],[],[],[],[],0,[]⟩):fS old first d=if a.2≠0 then([],[],a.2)else if tr.2≠0 then([],[],tr.2)else wi a.1 tr.1 (if d.old=true then first else old) d.ref:=by
 subst h1 h2;rfl
theorem I9 {W:World} {g:Nat} {x:eI} (h:ag W g 100 #[x.nm,x.dir,x.id]):oH W (some ⟨g,0,none⟩) 1 [x]:=by
 refine⟨rfl,λ_=>⟨g,0,rfl,λi v hi=>?_⟩⟩;have:=h.cell i;rw[Nat.zero_add,this];simpa[jZ]using hi
theorem IE {W:World} {g:Nat} {x:Y0} (h:ag W g 9 #[x]):aE W (some ⟨g,0,none⟩) 1 [x]:=by
 refine⟨rfl,λ_=>⟨g,0,rfl,λi v hi=>?_⟩⟩;have:=h.cell i;rw[Nat.zero_add,this];simpa[aC]using hi
theorem sR (o:Ob):(bT o).1.length<=8192:=by
 exact zb3
theorem yM (old first:Y0) (d:Dd) (w:World) (hd:d.data.length<=1048576) (hr:d.ref.length<=1048576) (ho:old.length<=1048576) (hf:first.length<=1048576) (hT:bK w):Calls Ao 87 #[old,first,.agg (jG d.k d.b d.w d.ref d.data d.sg d.old d.size)] w λe w'=>∃A c,e=.returned (.tuple #[.slice A (fS old first d).1.length c,(fS old first d).2.1,.int .i64 (fS old first d).2.2])/\w'.ownsRow w.heap.size 9 1 (.slice A (fS old first d).1.length c) (fS old first d).1.length ((fS old first d).1.map aC)/\Gr w w':=by
 obtain⟨J,H⟩:=zq (w.alloc (.cells (jG d.k d.b d.w d.ref d.data d.sg d.old d.size) 30));obtain⟨p,V⟩:=zq (w.heap.size);have Lp:ag J p 30 (jG d.k d.b d.w d.ref d.data d.sg d.old d.size):=ze3
 have g0:Gr w J:=zc5
 have Kg:=aa g0;have La:=aa Lp;have Kt:=aa V;have Lz:=aa (hT.gr g0);have Ky:ab (∀W,Gr J W->W.cell? (p,3)=d.ref/\W.cell? (p,4)=d.data/\W.cell? (p,6)=d.old):=aa (λW k=>⟨(Lp.gr k).cell 3,(Lp.gr k).cell 4,(Lp.gr k).cell 6⟩);have Lv:ab (∀b W,Gr J W->b.length<=8192->Calls Ao 40 #[.string (bs b)] W λe w'=>e=.returned (aj b)/\Gr W w'):=aa (λb W k h=>jD b W (Lz.o.gr k) om);have j:ab (∀W,Gr J W->Calls Ao 39 #[.agg #[.int .i64 1,d.data,n_,s_,n_,s_,s_,i0,s_]] W λe w'=>e=.returned (.tuple #[.string (bs (bT ⟨1,d.data,[],[],[],[],[],0,[]⟩).1),.int .i64 (bT ⟨1,d.data,[],[],[],[],[],0,[]⟩).2])/\Gr W w'):=aa (λW k=>ll ⟨1,d.data,[],[],[],[],[],0,[]⟩ none 0 none 0 W ⟨ak.nil _ _ _,ak.nil _ _ _,λ_=>⟨rfl,rfl⟩,λ_=>⟨rfl,rfl⟩,Dg _,Dg _⟩ ⟨by simp only;omega,by simp,by simp,by simp,by simp,by simp,by simp,by simp,by simp⟩);have f:ab (∀W q id,Gr J W->id.length<=32->ag W q 100 #[iX,false,.string (bs id)]->Calls Ao 39 #[.agg #[.int .i64 2,s_,.slice (some ⟨q,0,none⟩) 1 1,s_,n_,s_,s_,i0,s_]] W λe w'=>e=.returned (.tuple #[.string (bs (bT ⟨2,[],[⟨iX,false,id⟩],[],[],[],[],0,[]⟩).1),.int .i64 (bT ⟨2,[],[⟨iX,false,id⟩],[],[],[],[],0,[]⟩).2])/\Gr W w'):=aa (λW q id k hi hb=>ll ⟨2,[],[⟨iX,false,id⟩],[],[],[],[],0,[]⟩ (some ⟨q,0,none⟩) 1 none 0 W ⟨I9 (x:=⟨iX,false,id⟩) hb,ak.nil _ _ _,(λh=>by cases h),λ_=>⟨rfl,rfl⟩,Dg _,Dg _⟩ ⟨by simp,by simp,(λx hx=>by simp only[List.mem_singleton]at hx;subst hx;exact⟨by simp only;decide,by simp only;omega⟩),by simp,by simp,by simp,by simp,by simp,by simp⟩);have D:ab (∀W t,Gr J W->t.length<=32->Calls Ao 39 #[.agg #[.int .i64 3,s_,n_,.string (bs t),n_,s_,d.ref,i0,s_]] W λe w'=>e=.returned (.tuple #[.string (bs (bT ⟨3,[],[],t,[],[],d.ref,0,[]⟩).1),.int .i64 (bT ⟨3,[],[],t,[],[],d.ref,0,[]⟩).2])/\Gr W w'):=aa (λW t k ht=>ll ⟨3,[],[],t,[],[],d.ref,0,[]⟩ none 0 none 0 W ⟨ak.nil _ _ _,ak.nil _ _ _,λ_=>⟨rfl,rfl⟩,λ_=>⟨rfl,rfl⟩,Dg _,Dg _⟩ ⟨by simp,by simp,by simp,by simp only;omega,by simp,by simp,by simp,by simp only;omega,by simp⟩);have E:ab (∀W q t o,Gr J W->t.length<=32->o.length<=1048576->ag W q 9 #[.string (bs o)]->Calls Ao 39 #[.agg #[.int .i64 3,s_,n_,.string (bs t),.slice (some ⟨q,0,none⟩) 1 1,s_,d.ref,i0,s_]] W λe w'=>e=.returned (.tuple #[.string (bs (bT ⟨3,[],[],t,[o],[],d.ref,0,[]⟩).1),.int .i64 (bT ⟨3,[],[],t,[o],[],d.ref,0,[]⟩).2])/\Gr W w'):=aa (λW q t o k ht ho hb=>ll ⟨3,[],[],t,[o],[],d.ref,0,[]⟩ none 0 (some ⟨q,0,none⟩) 1 W ⟨ak.nil _ _ _,IE hb,λ_=>⟨rfl,rfl⟩,(λh=>by cases h),Dg _,Dg _⟩ ⟨by simp,by simp,by simp,by simp only;omega,by simp,(λx hx=>by simp only[List.mem_singleton]at hx;subst hx;omega),by simp,by simp only;omega,by simp⟩);have Q:=sR ⟨1,d.data,[],[],[],[],[],0,[]⟩;obtain⟨⟨a,be⟩,hB⟩:=zq (bT ⟨1,d.data,[],[],[],[],[],0,[]⟩);have y:=sR ⟨2,[],[⟨iX,false,aj a⟩],[],[],[],[],0,[]⟩;obtain⟨⟨tr,te⟩,n⟩:=zq (bT ⟨2,[],[⟨iX,false,aj a⟩],[],[],[],[],0,[]⟩);obtain⟨Kb,hV⟩:=zq (fS old first d);have F:=Gu old first d hB n
 rw[<-hV]at F⊢;rw[<-hB]at j Q;have r:ab (∀W q,Gr J W->ag W q 100 #[iX,false,aj a]->Calls Ao 39 #[.agg #[.int .i64 2,s_,.slice (some ⟨q,0,none⟩) 1 1,s_,n_,s_,s_,i0,s_]] W λe w'=>e=.returned (.tuple #[tr,te])/\Gr W w'):=aa (λW q k hb=>by have:=f.o W q (aj a) k zfW hb;rwa [<-n]at this);rw[<-n]at y;simp only at j Q y F;have HV:=aa F;have K:=aa ho;have L:=aa hf;clear hV F hB n f Lp g0 hT hd hr ho hf;unfold jG at H;obtain⟨r3,r4,r6⟩:=Ky.o J (B4 _);have R:bs iX=bs [100,97,116,97]:=rfl;rw[R]at r;unfold jG;go_enter Tryz.func87,Tryz.ntmps87
 go_upto_region 1 with fail
 rw[<-H,<-V];clear H V;go_upto_region 2 with(first|(go_at_call 39;(with_reducible refine Bo (j.o _ (B4 _)) ?_);rintro e w1 ⟨rfl,I⟩))
 by_cases hb:be=0;case neg=>have O:ab (Kb=([],[],be)):=aa (by rw[HV.o,if_pos hb]);(have q1:(be !=0)=true:=by rw[bne_iff_ne];exact hb);clear hb HV;(go_wp2_with fail);refine bodyPost_ret (results_tmp3 rfl _ _ _) rfl ?_;rw[O.o];exact⟨none,0,rfl,World.ownsRow_nil _ _ _ _,Kg.o.trans I⟩
 subst hb;have Ke:=aa (HV.o.trans (if_neg (by simp)));clear HV;have s:=aa I;go_upto_region 5 with(first|(go_at_call 40;(with_reducible refine Bo (Lv.o _ _ s.o Q) ?_);rintro e w2 ⟨rfl,Z⟩)|(go_at_call 39;(with_reducible refine Bo (r.o _ _ ((s.o.trans Z).alloc _) (ag.new _ _ _)) ?_);rintro e w3 ⟨rfl,g3⟩))
 have Nj:Gr J w3:=((s.o.trans Z).alloc _).trans g3
 by_cases ht:te=0;case neg=>have O:ab (Kb=([],[],te)):=aa (by rw[Ke.o,if_pos ht]);(have q1:(te !=0)=true:=by rw[bne_iff_ne];exact ht);(go_wp2_with fail);refine bodyPost_ret (results_tmp3 rfl _ _ _) rfl ?_;rw[O.o];exact⟨none,0,rfl,World.ownsRow_nil _ _ _ _,Kg.o.trans Nj⟩
 subst ht;have Eq:=aa (Ke.o.trans (if_neg (by simp)));have Lw:=aa Nj;go_upto_region 7 with fail
 have gd:Gr w3 w3.drew:=(B4 w3).drew
 have ga:Gr w3 (w3.alloc (.cells #[i0,s_,n_,s_,n_,s_,s_,i0,s_] 97)).drew:=((B4 w3).alloc _).drew
 have Kp:ab (∀W,Gr w3 W->W.cell? (p,3)=d.ref):=aa (λW k=>(Ky.o W (Lw.o.trans k)).1);have Ki:ab (∀W v0 v1 v2 v3 v4 v5 v6 M B,Gr w3 W->Gr w3 ((((((((((W).setCell (w3.heap.size,0) v0).setCell (w3.heap.size,1) v1).setCell (w3.heap.size,2) v2).setCell (w3.heap.size,3) v3).setCell (w3.heap.size,4) v4).setCell (w3.heap.size,5) v5).setCell (w3.heap.size,6) v6).setCell (w3.heap.size,7) M).setCell (w3.heap.size,8) B)):=aa (λW v0 v1 v2 v3 v4 v5 v6 M B g=>(((((((((g).setCell (p:=⟨w3.heap.size,0,none⟩) (Dg _) _).setCell (p:=⟨w3.heap.size,1,none⟩) (Dg _) _).setCell (p:=⟨w3.heap.size,2,none⟩) (Dg _) _).setCell (p:=⟨w3.heap.size,3,none⟩) (Dg _) _).setCell (p:=⟨w3.heap.size,4,none⟩) (Dg _) _).setCell (p:=⟨w3.heap.size,5,none⟩) (Dg _) _).setCell (p:=⟨w3.heap.size,6,none⟩) (Dg _) _).setCell (p:=⟨w3.heap.size,7,none⟩) (Dg _) _).setCell (p:=⟨w3.heap.size,8,none⟩) (Dg _) _);have Ks:ab (∀W v0 v1 v2 v3 v4 v5 v6 M B o,Gr w3 W->Gr w3 ((((((((((W.alloc o).setCell ⟨W.heap.size,0,none⟩ v0).setCell ⟨W.heap.size,1,none⟩ v1).setCell ⟨W.heap.size,2,none⟩ v2).setCell ⟨W.heap.size,3,none⟩ v3).setCell ⟨W.heap.size,4,none⟩ v4).setCell ⟨W.heap.size,5,none⟩ v5).setCell ⟨W.heap.size,6,none⟩ v6).setCell ⟨W.heap.size,7,none⟩ M).setCell ⟨W.heap.size,8,none⟩ B)):=aa (λW v0 v1 v2 v3 v4 v5 v6 M B o g=>(((((((((g.alloc o).setCell (p:=⟨W.heap.size,0,none⟩) g.size _).setCell (p:=⟨W.heap.size,1,none⟩) g.size _).setCell (p:=⟨W.heap.size,2,none⟩) g.size _).setCell (p:=⟨W.heap.size,3,none⟩) g.size _).setCell (p:=⟨W.heap.size,4,none⟩) g.size _).setCell (p:=⟨W.heap.size,5,none⟩) g.size _).setCell (p:=⟨W.heap.size,6,none⟩) g.size _).setCell (p:=⟨W.heap.size,7,none⟩) g.size _).setCell (p:=⟨W.heap.size,8,none⟩) g.size _);have r3:=Kp.o w3 (B4 _);go_cut [12]from 36 to 40 (λv wd=>∃q,v=.pointer (some ⟨q,0,none⟩)/\ab (ag wd q 97 #[.int .i64 3,s_,n_,aj tr,n_,s_,d.ref,i0,s_])/\ab (Gr J wd)/\ab (J.heap.size<=q))
 case first=>(go_region_held3 (λW=>W.cell? (p,3)=d.ref) (first|with_reducible assumption|with_reducible exact Kp.o _ gd|with_reducible exact Kp.o _ ga|with_reducible exact Kp.o _ g4|with_reducible exact Kp.o _ (Ki.o _ _ _ _ _ _ _ _ _ _ g4)|with_reducible exact Kp.o _ (Gr.alloc g4 _)|with_reducible exact Kp.o _ (Ks.o _ _ _ _ _ _ _ _ _ _ _ g4)|fail) (first|(go_at_call 40;(with_reducible refine Bo (Lv.o _ _ (Lw.o.trans gd) y) ?_);rintro e w4 ⟨rfl,Lj⟩;have g4:Gr w3 w4:=gd.trans Lj)|(go_at_call 40;(with_reducible refine Bo (Lv.o _ _ (Lw.o.trans ga) y) ?_);rintro e w4 ⟨rfl,Lj⟩;have g4:Gr w3 w4:=ga.trans Lj;have m:ag w4 w3.heap.size 97 #[i0,s_,n_,s_,n_,s_,s_,i0,s_]:=ag.gr (ag.new w3 _ _) (Gr.trans (B4 _).drew Lj);have f0:=m.frozen 0;have m0:=m.cell 0;have f1:=m.frozen 1;have m1:=m.cell 1;have f2:=m.frozen 2;have m2:=m.cell 2;have f3:=m.frozen 3;have m3:=m.cell 3;have f4:=m.frozen 4;have m4:=m.cell 4;have f5:=m.frozen 5;have m5:=m.cell 5;have f6:=m.frozen 6;have m6:=m.cell 6;have f7:=m.frozen 7;have m7:=m.cell 7;have f8:=m.frozen 8;have P:=m.cell 8)|fail));(all_goals(go_wp2_with fail);go_meet);(. exact⟨w4.heap.size,rfl,aa (ag.new w4 _ _),aa (Lw.o.trans (g4.alloc _)),aa (Lw.o.trans g4).size⟩);. have Kq:=(((((((((m.set_ 0 (.int .i64 3)).set_ 1 s_).set_ 2 n_).set_ 3 (aj tr)).set_ 4 n_).set_ 5 s_).set_ 6 d.ref).set_ 7 i0).set_ 8 s_);have g5:=Ki.o _ (.int .i64 3) s_ n_ (aj tr) n_ s_ d.ref i0 s_ g4;exact⟨w3.heap.size,rfl,aa Kq,aa (Lw.o.trans g5),aa Lw.o.size⟩
 obtain⟨q,rfl,Mn,N,HQ⟩:=hcut;obtain⟨w5,rfl⟩:=zq (wc);have r6:=(Ky.o w5 N.o).2.2
 go_upto_region 8 with fail
 rcases hold:d.old with _|_;case' false=>rw[hold]at r6;have Kf:ab (Kb=wi a tr old d.ref):=aa (by rw[Eq.o,hold];rfl);have Oc:=K;(go_upto_region 10 with fail);obtain⟨o,rfl⟩:=zq (old)
 case' true=>rw[hold]at r6;have Kf:ab (Kb=wi a tr first d.ref):=aa (by rw[Eq.o,hold];rfl);have Oc:=L;(go_upto_region 10 with fail);obtain⟨o,rfl⟩:=zq (first)
 all_goals have c0:=Mn.o.cell 0;have c1:=Mn.o.cell 1;have c2:=Mn.o.cell 2;have c3:=Mn.o.cell 3;have c4:=Mn.o.cell 4;have c5:=Mn.o.cell 5;have c6:=Mn.o.cell 6;have c7:=Mn.o.cell 7;have c8:=Mn.o.cell 8;by_cases i:o=[];(. have G:ab (Kb=if(bT ⟨3,[],[],aj tr,[],[],d.ref,0,[]⟩).2≠0 then([],[],(bT ⟨3,[],[],aj tr,[],[],d.ref,0,[]⟩).2)else([a,tr,(bT ⟨3,[],[],aj tr,[],[],d.ref,0,[]⟩).1],aj (bT ⟨3,[],[],aj tr,[],[],d.ref,0,[]⟩).1,0)):=aa (by rw[Kf.o];unfold wi;rw[if_pos i]);(have q1:(o==[])=true:=by rw[i];rfl);(have q2:o.isEmpty=true:=by rw[i];rfl);have Kd:=aa (D.o w5 (aj tr) N.o zfW);have Ku:=N;obtain⟨⟨x,z⟩,hx⟩:=zq (bT ⟨3,[],[],aj tr,[],[],d.ref,0,[]⟩);have Kk:=sR ⟨3,[],[],aj tr,[],[],d.ref,0,[]⟩;rw[<-hx]at Kd G Kk;simp only at Kd G Kk;(go_upto_region 13 with(first|(go_at_call 39;(with_reducible refine Bo Kd.o ?_);rintro e w7 ⟨rfl,g7⟩)));have Le:=aa (Ku.o.trans g7);by_cases l:z=0;(. subst l;have O:ab (Kb=([a,tr,x],aj x,0)):=aa (G.o.trans (if_neg (by simp)));exact zaM);. have O:ab (Kb=([],[],z)):=aa (G.o.trans (if_pos l));(have q1:(z !=0)=true:=by rw[bne_iff_ne];exact l);exact zcQ);. have G:ab (Kb=if(bT ⟨3,[],[],aj tr,[o],[],d.ref,0,[]⟩).2≠0 then([],[],(bT ⟨3,[],[],aj tr,[o],[],d.ref,0,[]⟩).2)else([a,tr,(bT ⟨3,[],[],aj tr,[o],[],d.ref,0,[]⟩).1],aj (bT ⟨3,[],[],aj tr,[o],[],d.ref,0,[]⟩).1,0)):=aa (by rw[Kf.o];unfold wi;rw[if_neg i]);(have q1:(o==[])=false:=by simpa using i);(have q2:o.isEmpty=false:=by simpa using i);(have ga:Gr w5 (w5.alloc (.cells #[o] 9)):=(B4 w5).alloc _);(have f4:=(Mn.o.gr ga).frozen 4);(have n4:=(Mn.o.gr ga).cell 4);have Kh:=aa ((Mn.o.gr ga).set_ 4 (.slice (some ⟨w5.heap.size,0,none⟩) 1 1));have Kc:=aa ((ag.new w5 9 #[o]).far (p:=⟨q,4,none⟩) (by show w5.heap.size≠q;have:=Mn.o.lt;omega) (.slice (some ⟨w5.heap.size,0,none⟩) 1 1));have Ku:ab (Gr J ((w5.alloc (.cells #[o] 9)).setCell (q,4) ((w5.heap.size,0),1,1))):=aa ((N.o.trans ga).setCell (p:=⟨q,4,none⟩) HQ.o _);(go_upto_region 12 with fail);obtain⟨C,u⟩:∃x,x=w5.heap.size:=⟨_,rfl⟩;obtain⟨w6,Lf⟩:=zq ((w5.alloc (.cells #[o] 9)).setCell (q,4) ((w5.heap.size,0),1,1));rw[<-Lf]at Kh Kc Ku⊢;rw[<-u]at Kh Kc⊢;clear Lf u f4 n4 ga c0 c1 c2 c3 c4 c5 c6 c7 c8;have Kd:=aa (E.o w6 C (aj tr) o Ku.o zfW Oc.o Kc.o);have c0:=Kh.o.cell 0;have c1:=Kh.o.cell 1;have c2:=Kh.o.cell 2;have c3:=Kh.o.cell 3;have c4:=Kh.o.cell 4;have c5:=Kh.o.cell 5;have c6:=Kh.o.cell 6;have c7:=Kh.o.cell 7;have c8:=Kh.o.cell 8;clear i Kf D E;obtain⟨⟨x,z⟩,hx⟩:=zq (bT ⟨3,[],[],aj tr,[o],[],d.ref,0,[]⟩);have Kk:=sR ⟨3,[],[],aj tr,[o],[],d.ref,0,[]⟩;rw[<-hx]at Kd G Kk;simp only at Kd G Kk;clear hx;(go_upto_region 13 with(first|(go_at_call 39;(with_reducible refine Bo Kd.o ?_);rintro e w7 ⟨rfl,g7⟩)));have Le:=aa (Ku.o.trans g7);by_cases l:z=0;(. subst l;have O:ab (Kb=([a,tr,x],aj x,0)):=aa (G.o.trans (if_neg (by simp)));clear G Kd g7;exact zaM);. have O:ab (Kb=([],[],z)):=aa (G.o.trans (if_pos l));(have q1:(z !=0)=true:=by rw[bne_iff_ne];exact l);clear l G Kd;exact zcQ
theorem xC (es:List SA) (A:Yy) (c:Nat) (w:World) (hx:dX w A es.length es) (hn:es.length<=1099511627776) (hz:∀e∈es,dJ 1099511627776 e.s):Calls Ao 54 #[(A,es.length,c)] w λe w'=>∃U c' t,e=.returned (.slice U es.length c')/\FG es t/\w'.ownsRow w.heap.size 73 5 (.slice U es.length c') es.length (t.flatMap bO)/\(∀e∈t,gu w.heap.size w' e)/\Gr w w':=by
 have O:=aa hx;have l:ab (∀i (h:i<es.length),dJ 1099511627776 es[i].s):=aa (λi h=>hz _ (List.getElem_mem h));have m:ab (∀i (h:i<es.length) W,Gr w W->mS W es[i].s es[i].A es[i].c es[i].B es[i].d):=aa (λi h W g=>(hx.each _ (List.getElem_mem h)).gr g);obtain⟨N,hN⟩:=zq (es.length);have HN:=aa hN;rw[<-hN]at hn O;rw[<-hN];clear hx hz hN;go_enter Tryz.func54,Tryz.ntmps54
 go_wp2_with fail
 go_loopg [8,3,5] N (λfuel iv ov _ wr=>∃(i:Nat) (A0:Yy) (c0:Nat) (t:List SA),iv=.int .i64 (i:Int)/\ov=.slice A0 i c0/\N<=i+fuel/\i<=N/\ab (t.map (·.s)=(es.take i).map (·.s))∧ab (wr.ownsRow w.heap.size 73 5 (A0,i,c0) i (t.flatMap bO))/\ab (∀e∈t,gu w.heap.size wr e)/\ab (Gr w wr))
 case atStart=>exact⟨0,none,0,[],rfl,rfl,om,om,aa rfl,aa (World.ownsRow_nil _ _ _ _),aa (by simp),aa (B4 _)⟩
 case round=>obtain⟨i,A0,c0,t,rfl,rfl,Kj,hi,HS,HO,HE,HG⟩:=hrel;by_cases hlt:i<N;(. have Ki:(i:Int)<(N:Int):=om;(have D:i<es.length:=ze9);(obtain⟨b,off,rfl,e0,e1,e2,e3,e4⟩:=(O.o.gr HG.o).cell D);have f:=l.o i D;have d:=aa (m.o i D);have Lc:ab (∀x:aF,x=es[i].s->(t.map (·.s)++[x])=(es.take (i+1)).map (·.s)):=aa (λx hx=>by rw[List.take_succ_eq_append_getElem D,List.map_append,HS.o,hx];rfl);obtain⟨E0,Kh⟩:=zq (es[i]);rw[<-Kh]at f d Lc e0 e1 e2 e3 e4;clear Kh D;obtain⟨⟨r,o,n,who,seals⟩,A1,c1,B1,d1⟩:=E0;have Li:=f.who;have Kv:=f.seals;simp only at e0 e1 e2 e3 e4 Lc Li Kv d;have Ka:(0+who.length)*8<=140737488355328:=om;(have Kc:0+who.length<=maxLen:=zc1);have Ks:(0+seals.length)*16<=140737488355328:=om;(have Lb:0+seals.length<=maxLen:=zc1);have Ku:(i+1)*96<=140737488355328:=om;(have Le:i+1<=maxLen:=zc1);have Il:=aa hlt;clear hlt f;(go_upto_region 5 with fail);obtain⟨wb,Kn⟩:=zq (wr.alloc (.cells #[r,o,n,(A1,who.length,c1),(B1,seals.length,d1)] 73));obtain⟨p,V⟩:=zq (wr.heap.size);have HB:ab (ag wb p 73 #[r,o,n,(A1,who.length,c1),(B1,seals.length,d1)]):=aa (by rw[Kn,V];exact ag.new wr _ _);have Lh:ab (Gr wr wb):=aa (by rw[Kn];exact(B4 wr).alloc _);have Kt:=aa V;have Lf:ab (mS wb ⟨r,o,n,who,seals⟩ A1 c1 B1 d1):=aa (d.o wb (HG.o.trans Lh.o));rw[<-Kn,<-V];clear Kn V e0 e1 e2 e3 e4;have F:ab (∀w',Gr wb w'->w'.cell? (p,3)=(A1,who.length,c1)/\w'.cell? (p,4)=(B1,seals.length,d1)/\w'.frozen? (p,3)=false/\w'.frozen? (p,4)=false):=aa (λw' g=>⟨(HB.o.gr g).cell 3,(HB.o.gr g).cell 4,(HB.o.gr g).frozen 3,(HB.o.gr g).frozen 4⟩);have Kq:ab (∀w',Gr wb w'->p+1<=w'.heap.size):=aa (λw' g=>(HB.o.gr g).lt);(have gd:Gr wb wb.drew:=(B4 _).drew);obtain⟨a0,a1,a2,a3⟩:=F.o wb (B4 _);(go_cut [5]from 12 to 19 (λv wd=>v=.pointer (some ⟨p,0,none⟩)/\∃A2 k1 B2 k2,ab (ag wd p 73 #[r,o,n,.slice A2 who.length k1,.slice B2 seals.length k2])/\ab (wd.ownsRow (p+1) 3 1 (.slice A2 who.length k1) who.length (who.map iV)/\wd.ownsRow (p+1) 9 1 (.slice B2 seals.length k2) seals.length (seals.map aC))/\ab (Gr wr wd)));(case first=>(go_region_law (first|(refine au E.ints rfl (.const n_) (.tmp 13) rfl (B:=p+1) rfl (World.ownsRow_nil _ _ _ _) rfl (ak.gr Lf.o.who zeB) Lf.o.wn nu Ka Kc (Kq.o _ zeB) ?_;intro A2 k1 x1 o1 h1;have G1:Gr wb x1:=Gr.grown zeB h1 zeI;obtain⟨m0,m1,m2,m3⟩:=F.o x1 G1)|(refine au E.str rfl (.const n_) (.tmp 16) rfl (B:=p+1) rfl (World.ownsRow_nil _ _ _ _) rfl (ak.gr Lf.o.seals zeB) Lf.o.sn nx Ks Lb (Kq.o _ zeB) ?_;intro B2 k2 x2 o2 h2;have G2:Gr wb x2:=Gr.grown zeB h2 zeI;obtain⟨n0,n1,n2,n3⟩:=F.o x2 G2)));all_goals rw[Nat.zero_add,List.nil_append]at o1 o2;(go_wp2_with fail);(go_meet);first|(have gl:Gr x1 x2:=Gr.grown (B4 _) h2 zeI;exact⟨rfl,A2,k1,B2,k2,aa (((HB.o.gr G2).set_ 3 (.slice A2 who.length k1)).set_ 4 (.slice B2 seals.length k2)),aa ⟨(ownsRow_setCell_other (ownsRow_setCell_other (av o1 gl) (a:=⟨p,3,none⟩) (λe=>by have:=(((av o1 gl)).lt p e).1;omega) _) (a:=⟨p,4,none⟩) (λe=>by have:=(((av o1 gl)).lt p e).1;omega) _),(ownsRow_setCell_other (ownsRow_setCell_other o2 (a:=⟨p,3,none⟩) (λe=>by have:=((o2).lt p e).1;omega) _) (a:=⟨p,4,none⟩) (λe=>by have:=((o2).lt p e).1;omega) _)⟩,aa (((Lh.o.trans G2).setCell (p:=⟨p,3,none⟩) zeJ (.slice A2 who.length k1)).setCell (p:=⟨p,4,none⟩) zeJ (.slice B2 seals.length k2))⟩)|(have gl:Gr x1 x2:=Gr.grown (B4 _) h2 zeI;exact⟨rfl,A2,k1,B2,k2,aa (((HB.o.gr G2).set_ 4 (.slice B2 seals.length k2)).set_ 3 (.slice A2 who.length k1)),aa ⟨(ownsRow_setCell_other (ownsRow_setCell_other (av o1 gl) (a:=⟨p,4,none⟩) (λe=>by have:=(((av o1 gl)).lt p e).1;omega) _) (a:=⟨p,3,none⟩) (λe=>by have:=(((av o1 gl)).lt p e).1;omega) _),(ownsRow_setCell_other (ownsRow_setCell_other o2 (a:=⟨p,4,none⟩) (λe=>by have:=((o2).lt p e).1;omega) _) (a:=⟨p,3,none⟩) (λe=>by have:=((o2).lt p e).1;omega) _)⟩,aa (((Lh.o.trans G2).setCell (p:=⟨p,4,none⟩) zeJ (.slice B2 seals.length k2)).setCell (p:=⟨p,3,none⟩) zeJ (.slice A2 who.length k1))⟩)|(have gl:Gr x2 x1:=Gr.grown (B4 _) h1 zeI;exact⟨rfl,A2,k1,B2,k2,aa (((HB.o.gr G1).set_ 3 (.slice A2 who.length k1)).set_ 4 (.slice B2 seals.length k2)),aa ⟨(ownsRow_setCell_other (ownsRow_setCell_other o1 (a:=⟨p,3,none⟩) (λe=>by have:=((o1).lt p e).1;omega) _) (a:=⟨p,4,none⟩) (λe=>by have:=((o1).lt p e).1;omega) _),(ownsRow_setCell_other (ownsRow_setCell_other (av o2 gl) (a:=⟨p,3,none⟩) (λe=>by have:=(((av o2 gl)).lt p e).1;omega) _) (a:=⟨p,4,none⟩) (λe=>by have:=(((av o2 gl)).lt p e).1;omega) _)⟩,aa (((Lh.o.trans G1).setCell (p:=⟨p,3,none⟩) zeJ (.slice A2 who.length k1)).setCell (p:=⟨p,4,none⟩) zeJ (.slice B2 seals.length k2))⟩)|(have gl:Gr x2 x1:=Gr.grown (B4 _) h1 zeI;exact⟨rfl,A2,k1,B2,k2,aa (((HB.o.gr G1).set_ 4 (.slice B2 seals.length k2)).set_ 3 (.slice A2 who.length k1)),aa ⟨(ownsRow_setCell_other (ownsRow_setCell_other o1 (a:=⟨p,4,none⟩) (λe=>by have:=((o1).lt p e).1;omega) _) (a:=⟨p,3,none⟩) (λe=>by have:=((o1).lt p e).1;omega) _),(ownsRow_setCell_other (ownsRow_setCell_other (av o2 gl) (a:=⟨p,4,none⟩) (λe=>by have:=(((av o2 gl)).lt p e).1;omega) _) (a:=⟨p,3,none⟩) (λe=>by have:=(((av o2 gl)).lt p e).1;omega) _)⟩,aa (((Lh.o.trans G1).setCell (p:=⟨p,4,none⟩) zeJ (.slice B2 seals.length k2)).setCell (p:=⟨p,3,none⟩) zeJ (.slice A2 who.length k1))⟩));obtain⟨rfl,A2,k1,B2,k2,Ll,Pn,Ma⟩:=hcut;obtain⟨w1,rfl⟩:=zq (wc);have G1:=HG.o.trans Ma.o;have Km:=av HO.o Ma.o;have q:=Ll.o.cell 0;have Lp:=Ll.o.cell 1;have Ln:=Ll.o.cell 2;have s:=Ll.o.cell 3;have y:=Ll.o.cell 4;have j:ab (w.heap.size<=p+1):=aa (by have:=Kt.o;have:=HG.o.size;omega);clear a0 a1 a2 a3 gd;(go_wp2_with(first|(at_builtin;refine dn E.stp rfl (.tmp 20) (.tmp 22) rfl (B:=w.heap.size) (A0:=A0) (n0:=i) (cap0:=c0) (xs:=t.flatMap bO) rfl (av Km ((B4 _).alloc _)) rfl (qJ (e:=⟨⟨r,o,n,who,seals⟩,A2,k1,B2,k2⟩) (ag.new _ _ _)) (λh=>by cases h) (nI _) Ku Le (G1.alloc _).size ?_;intro A3 c3 w2 o2 h2)));(have Kz:=(B4 w1).alloc (.cells (aP ⟨r,o,n,who,seals⟩ A2 k1 B2 k2) 73));have Lj:=av Km Kz;have Kp:gu w.heap.size w1 ⟨⟨r,o,n,who,seals⟩,A2,k1,B2,k2⟩:=⟨eJ Pn.o.1 j.o,eJ Pn.o.2 j.o⟩;(go_roundg (gk-1));(case rel=>refine⟨i+1,A3,c3,t++[⟨⟨r,o,n,who,seals⟩,A2,k1,B2,k2⟩],by go_num,rfl,om,Il.o,aa ?_,aa ?_,aa (λe he=>?_),aa ?_⟩;(. rw[List.map_append];exact Lc.o _ rfl);(. rw[List.flatMap_append];simpa using o2);(. (rcases List.mem_append.1 he with he|he);(. exact(((HE.o e he).gr Ma.o).gr Kz).app Lj h2);. rw[List.mem_singleton]at he;subst he;exact(Kp.gr Kz).app Lj h2);. exact zch);case measure=>have:=Il.o;omega);. have q1:decide (i<N)=false:=decide_eq_false hlt;have HI:ab (i=N):=aa om;clear hlt;(go_wp2_with fail);go_ret;obtain rfl:=HI.o;(have u:t.map (·.s)=es.map (·.s):=by rw[HS.o,HN.o,List.take_length]);exact⟨A0,c0,rfl,t,u,HO.o,HE.o,HG.o⟩
end Go.Proofs.YtdpombnelangjaaGreatDoor
