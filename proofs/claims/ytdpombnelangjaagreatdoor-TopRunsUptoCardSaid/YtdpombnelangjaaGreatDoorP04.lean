/- Lemmas for TopRuns; each states its conditions. -/
import Derived.Test.YtdpombnelangjaaGreatDoorP02
import Derived.Test.YtdpombnelangjaaGreatDoorP03
namespace Go.Proofs.YtdpombnelangjaaGreatDoor
open Go.RowKit
set_option maxRecDepth 100000
set_option maxHeartbeats 64000000
set_option linter.unusedVariables false
open Go.Proofs.Tryz renaming prog → Ao
open Calls renaming mono → Bo
open Gr renaming refl → B4
open Nat renaming le_refl → Dg
def xz (ss:List (Y0)) (b:Y0) (w:Int) (sl:Y0):Bool:=decide (w<(ss.length:Int))&&(dC (ss.getD w.toNat []) b==sl)
def nH (ss:List (Y0)) (b:Y0) (s:aF):List Bool:=List.zipWith (xz ss b) s.who s.seals
def jg (ss:List (Y0)) (need at_:Int) (s:aF):Int:=
 if eR s=0 then(if(cL at_ s).2=0 then(if(nH ss (cL at_ s).1 s).all id=true/\need<=(s.who.length:Int)then 0 else 13)else(cL at_ s).2)else eR s
theorem GH {ss:List (Y0)} {b:Y0} {s:aF} (h:s.seals.length=s.who.length):(nH ss b s).length=s.who.length:=by
 unfold nH;rw[List.length_zipWith,h,Nat.min_self]
theorem Hf {ss:List (Y0)} {b:Y0} {s:aF} {i:Nat} (hi:i<s.who.length) (hs:i<s.seals.length) (h:i<(nH ss b s).length):(nH ss b s)[i]=xz ss b s.who[i] s.seals[i]:=by
 exact List.getElem_zipWith (h:=h)
theorem En (l:List Bool) (i:Nat) (h:i<l.length) (ha:(l.take i).all id=true):(l.take (i+1)).all id=l[i]:=by
 rw[List.take_succ_eq_append_getElem h,List.all_append,ha];simp
theorem Hp (l:List Bool) (i:Nat) (h:i<l.length) (hb:l[i]=false):l.all id=false:=by
 rw[List.all_eq_false];exact⟨l[i],List.getElem_mem h,by simp[hb]⟩
theorem rG (A0:Yy) (m c0:Nat) (B0:Yy) (m' d0:Nat) (z:Int) (ss:List (Y0)) (at_:Int) (s:aF) (A:Yy) (c:Nat) (B:Yy) (d:Nat) (w:World) (hK:aE w A0 m ss) (hm:m<=1099511627776) (Kt:∀x∈ss,x.length<=1099511627776) (hR:mS w s A c B d) (hz:dJ 1099511627776 s) (hT:bK w):Calls Ao 89 #[.agg (ek A0 m c0 B0 m' d0 z),at_,.agg (aP s A c B d)] w λe w'=>e=.returned (.int .i64 (jg ss z at_ s))/\Gr w w':=by
 obtain⟨J,H⟩:=zq ((w.alloc (.cells (ek A0 m c0 B0 m' d0 z) 53)).alloc (.cells (aP s A c B d) 73));have hk:ag J w.heap.size 53 (ek A0 m c0 B0 m' d0 z):=zfa
 have hb:ag J (w.heap.size+1) 73 (aP s A c B d):=zfn
 have t:Gr w J:=zeH
 obtain⟨p,V⟩:=zq (w.heap.size);rw[<-V]at hk hb;have Kc:ab (Calls Ao 103 #[.agg (aP s A c B d)] J λe w'=>e=.returned (eR s)/\Gr J w'):=aa (mD s A c B d J (hR.gr t) hz);have M:ab (∀W,Calls Ao 125 #[at_,.agg (aP s A c B d)] W λe w'=>e=.returned (.tuple #[.string (bs (cL at_ s).1),.int .i64 (cL at_ s).2])/\Gr W w'):=aa (λW=>tu at_ s A c B d W hz);have Ky:=aa (vh at_ s);have Lu:ab (∀key:Y0,key.length<=1099511627776->∀w',Gr J w'->Calls Ao 126 #[.string (bs key),.string (bs (cL at_ s).1)] w' λe w''=>e=.returned (.string (bs (dC key (cL at_ s).1)))/\Gr w' w''):=aa (λkey X w' g=>oL key _ w' (hT.gr (t.trans g)) om zhI);have HW:=aa (hR.who.gr t);have HS:=aa (hR.seals.gr t);have Lb:=aa (hK.gr t);have Kz:=aa (aE.len hK);have Il:=aa Kt;have Li:=hz.who;have Kv:=hz.seals;have Kp:=aa (λh=>gJ (s:=s) h);obtain⟨Kb,hV⟩:∃Kb:Int,Kb=jg ss z at_ s:=⟨_,rfl⟩;rw[<-hV];have HV:=aa hV;obtain⟨E,hE⟩:=zq (eR s);rw[<-hE]at Kc Kp;have HE:=aa hE;obtain⟨b,Ku⟩:=zq ((cL at_ s).1);obtain⟨be,Ka⟩:=zq ((cL at_ s).2);rw[<-Ku,<-Ka]at M;rw[<-Ku]at Lu;have Kq:ab (Kb=if E=0 then(if be=0 then(if(nH ss b s).all id=true/\z<=(s.who.length:Int)then 0 else 13)else be)else E):=aa (by rw[HV.o,Ku,Ka,hE];rfl);clear hV hE Ku Ka HV HE Ky;obtain⟨r,o,n,who,seals⟩:=s;unfold aP at hb H Kc M;unfold ek at hk H;unfold aP ek;simp only at hb H Li Kv HW HS Kc M Kq Kp⊢;have f:ab (∀w',Gr J w'->w'.cell? (p,0)=(A0,m,c0)/\w'.cell? (p,2)=z/\w'.cell? (p+1,0)=r/\w'.cell? (p+1,1)=o/\w'.cell? (p+1,2)=n/\w'.cell? (p+1,3)=(A,who.length,c)/\w'.cell? (p+1,4)=(B,seals.length,d)):=aa (λw' g=>⟨(hk.gr g).cell 0,(hk.gr g).cell 2,(hb.gr g).cell 0,(hb.gr g).cell 1,(hb.gr g).cell 2,(hb.gr g).cell 3,(hb.gr g).cell 4⟩);clear hb hk hK Kt hR hz hT;obtain⟨u0,Y,u2,u3,u4,u5,u6⟩:=f.o J (B4 _);by_cases h0:E=0;. obtain⟨-,-,-,-,z4,z5,z6,z7,-⟩:=Kp.o h0;(try simp only at z4 z5 z6 z7);have Ke:ab (Kb=if be=0 then(if(nH ss b ⟨r,o,n,who,seals⟩).all id=true/\z<=(who.length:Int)then 0 else 13)else be):=aa (by rw[Kq.o,if_pos h0]);subst h0;by_cases h1:be=0;(. have Eq:ab (Kb=if(nH ss b ⟨r,o,n,who,seals⟩).all id=true/\z<=(who.length:Int)then 0 else 13):=aa (by rw[Ke.o,if_pos h1]);have Kl:=aa z5;have Ks:=aa z7;have Lh:ab ((nH ss b ⟨r,o,n,who,seals⟩).length=who.length):=aa (GH (s:=⟨r,o,n,who,seals⟩) z5);subst h1;clear Kq Ke Kp z5 z6 z7;(go_enter Tryz.func89,Tryz.ntmps89);(go_upto_region 1 with fail);rw[<-H,<-V];clear H V;(go_wp2_with(first|(go_at_call 103;refine Bo Kc.o ?_;rintro e w1 ⟨rfl,I⟩;obtain⟨v0,v1,v2,v3,v4,v5,v6⟩:=f.o w1 I)|(go_at_call 125;refine Bo (M.o _) ?_;rintro e w2 ⟨rfl,v⟩;have Z:Gr J w2:=Gr.trans I v;obtain⟨t0,t1,t2,t3,t4,t5,t6⟩:=f.o w2 Z)));clear u0 Y u2 u3 u4 u5 u6 v0 v1 v2 v3 v4 v5 v6 t0 t1 t2 t3 t4 t5 t6;(go_loopg [29,10,11] who.length (λfuel iv _ _ wr=>∃i:Nat,iv=.int .i64 (i:Int)/\who.length<=i+fuel/\i<=who.length/\ab (((nH ss b ⟨r,o,n,who,seals⟩).take i).all id=true)/\Gr J wr));(case atStart=>exact⟨0,rfl,om,om,aa rfl,Z⟩);case round=>clear I Z v;obtain⟨i,rfl,Kj,hi,Kf,C⟩:=hrel;by_cases hlt:i<who.length;(. (have Mk:i<seals.length:=ze7);have Ki:(i:Int)<(who.length:Int):=om;have Kk:(i:Int)<(seals.length:Int):=om;(have N:i<(nH ss b ⟨r,o,n,who,seals⟩).length:=by rw[Lh.o];exact hlt);have y:=aa (Hf (ss:=ss) (b:=b) (s:=⟨r,o,n,who,seals⟩) hlt Mk N);have K:=aa (En _ i N Kf.o);have P:=aa (Hp _ i N);have L:=Ks.o _ (List.getElem_mem hlt);(obtain⟨bk,off,rfl,e0⟩:=(HW.o.gr C).cell hlt);(obtain⟨O,D,rfl,-⟩:=(HS.o.gr C).cell Mk);have u:ab (∀W,Gr J W->W.cell? (p,0)=(A0,m,c0)/\W.cell? (p+1,4)=((O,D),seals.length,d)/\W.cell? (O,D+i)=some (.string (bs seals[i]))/\Gr J W):=aa (λW g=>by(obtain⟨b',o',e',h'⟩:=(HS.o.gr g).cell Mk);injection e' with e';injection e' with e3 e4 _;subst e3 e4;exact⟨(f.o W g).1,(f.o W g).2.2.2.2.2.2,h',g⟩);obtain⟨mw,R⟩:=zq (who[i]);obtain⟨sl,l⟩:=zq (seals[i]);(try simp only at y);rw[<-R,<-l]at y;rw[<-R]at e0 L;rw[<-l]at u;obtain⟨a,rfl⟩:∃a:Nat,mw=(a:Int):=⟨mw.toNat,om⟩;have U:=aa hlt;have S:=Kz.o;clear R l Mk L;obtain⟨y0,y1,y2,-⟩:=u.o wr C;by_cases La:a<m;(. have Kg:a<ss.length:=om;(have G:ss.getD (a:Int).toNat []=ss[a]:=zfJ);have T:ab (xz ss b (a:Int) sl=(dC ss[a] b==sl)):=aa (by unfold xz;rw[decide_eq_true (show(a:Int)<(ss.length:Int) by omega),G];rfl);(obtain⟨Q,j,rfl,-⟩:=(Lb.o.gr C).cell Kg);have Kd:=Il.o ss[a] (List.getElem_mem Kg);have Kn:ab (∀W,Gr J W->W.cell? (Q,j+a)=some (.string (bs ss[a]))):=aa (λW g=>by(obtain⟨b',o',e',h'⟩:=(Lb.o.gr g).cell Kg);injection e' with e';injection e' with e3 e4 _;subst e3 e4;exact h');obtain⟨key,X⟩:=zq (ss[a]);rw[<-X]at Kd T Kn;have Km:=aa (λW (g:Gr J W)=>Lu.o key Kd W g);obtain⟨sv,Lj⟩:=zq (dC key b);rw[<-Lj]at Km T;have q0:decide (m<=a)=false:=decide_eq_false om;have Ld:(a:Int)<(m:Int):=om;have Kh:ab (∀W,Gr J W->W.cell? (p,0)=((Q,j),m,c0)/\W.cell? (p+1,4)=((O,D),seals.length,d)/\W.cell? (O,D+i)=sl/\W.cell? (Q,j+a)=some (.string (bs key))/\Gr J W):=aa (λW g=>⟨(u.o W g).1,(u.o W g).2.1,(u.o W g).2.2.1,Kn.o W g,g⟩);have gd:Gr J wr.drew:=C.drew;clear X Lj Kd G Kg La S;by_cases k:sv=sl;(. have Kw:ab (((nH ss b ⟨r,o,n,who,seals⟩).take (i+1)).all id=true):=aa (by rw[K.o,y.o,T.o,k];simp);subst k;(go_wp2_with fail);(go_region_held3 (λW=>W.cell? (p,0)=((Q,j),m,c0)/\W.cell? (p+1,4)=((O,D),seals.length,d)/\W.cell? (O,D+i)=sv/\W.cell? (Q,j+a)=some (.string (bs key))/\Gr J W) (first|with_reducible assumption|with_reducible exact Kh.o _ gd|with_reducible exact Kh.o _ g4|fail) (first|(go_at_call 126;(with_reducible refine Bo (Km.o wr.drew gd) ?_);rintro e w4 ⟨rfl,Ko⟩;have g4:Gr J w4:=Gr.trans gd Ko)|fail));all_goals(go_wp2_with fail);(go_roundg (gk-1));(case rel=>exact⟨i+1,by go_num,om,U.o,Kw,g4⟩);case measure=>have:=U.o;omega);. have Kx:ab (Kb=13):=aa (by(have hx:(sv==sl)=false:=ziF);rw[Eq.o,P.o (by rw[y.o,T.o,hx]),if_neg (by simp)]);(have hne:(sv==sl)=false:=ziF);(have Ml:(sv !=sl)=true:=by rw[bne_iff_ne];exact k);clear k;(go_wp2_with fail);(go_region_held3 (λW=>W.cell? (p,0)=((Q,j),m,c0)/\W.cell? (p+1,4)=((O,D),seals.length,d)/\W.cell? (O,D+i)=sl/\W.cell? (Q,j+a)=some (.string (bs key))/\Gr J W) (first|with_reducible assumption|with_reducible exact Kh.o _ gd|with_reducible exact Kh.o _ g4|fail) (first|(go_at_call 126;(with_reducible refine Bo (Km.o wr.drew gd) ?_);rintro e w4 ⟨rfl,Ko⟩;have g4:Gr J w4:=Gr.trans gd Ko)|fail));all_goals(go_wp2_with fail);go_ret;exact⟨by rw[Kx.o];rfl,t.trans g4⟩);. have T:ab (xz ss b (a:Int) sl=false):=aa (by unfold xz;rw[decide_eq_false (show¬(a:Int)<(ss.length:Int) by omega)];rfl);have Kx:ab (Kb=13):=aa (by rw[Eq.o,P.o (by rw[y.o,T.o]),if_neg (by simp)]);have q0:decide (m<=a)=true:=decide_eq_true om;clear La S;(go_wp2_with fail);(go_quiet (fail));(go_wp2_with fail);go_ret;exact⟨by rw[Kx.o];rfl,t.trans (Gr.drewN C _)⟩);. have Lc:ab ((nH ss b ⟨r,o,n,who,seals⟩).all id=true):=aa (by have h:=Kf.o;rwa [List.take_of_length_le (by rw[Lh.o];omega)]at h);obtain Kr:i=who.length:=om;obtain⟨y0,y1,y2,y3,y4,y5,y6⟩:=f.o wr C;have q:decide (i<who.length)=false:=decide_eq_false hlt;clear Kr hlt Kj;by_cases hn:z<=(who.length:Int);(. have q1:decide ((who.length:Int)<z)=false:=decide_eq_false om;have F:ab (Kb=0):=aa (by rw[Eq.o,if_pos ⟨Lc.o,hn⟩]);exact zbv);. have q1:decide ((who.length:Int)<z)=true:=decide_eq_true om;have F:ab (Kb=13):=aa (by rw[Eq.o,if_neg (λh=>hn h.2)]);exact zbv);. have F:ab (Kb=be):=aa (by rw[Ke.o,if_neg h1]);(have m0:(be !=0)=true:=zfX);clear Kq Ke Kp z4 z5 z6 z7;(go_enter Tryz.func89,Tryz.ntmps89);(go_upto_region 1 with fail);rw[<-H,<-V];clear H V;(go_wp2_with(first|(go_at_call 103;refine Bo Kc.o ?_;rintro e w1 ⟨rfl,I⟩;obtain⟨v0,v1,v2,v3,v4,v5,v6⟩:=f.o w1 I)|(go_at_call 125;refine Bo (M.o _) ?_;rintro e w2 ⟨rfl,v⟩)));go_ret;exact⟨by rw[F.o];rfl,t.trans (I.trans v)⟩
 . have F:ab (Kb=E):=aa (by rw[Kq.o,if_neg h0]);(have m0:(E !=0)=true:=zgA);clear Kq Kp;(go_enter Tryz.func89,Tryz.ntmps89);(go_upto_region 1 with fail);rw[<-H,<-V];clear H V;(go_wp2_with(go_at_call 103;refine Bo Kc.o ?_;rintro e w1 ⟨rfl,I⟩));go_ret;exact⟨by rw[F.o];rfl,t.trans I⟩
def jW (ss:List (Y0)) (need:Int):Nat->List aF->List Rf->List Rf×Int×Int
 |_,[],fs=>(fs,0,0)
 |i,s::r,fs=>
  if jg ss need i s=0 then(if(fj fs s.r s.o s.n).2=0 then jW ss need (i+1) r (fj fs s.r s.o s.n).1 else([],(i:Int),(fj fs s.r s.o s.n).2))else([],(i:Int),jg ss need i s)
def dg (ss:List (Y0)) (need:Int) (l:List aF):List Rf×Int×Int:=if 200<l.length then([],0,6)else jW ss need 0 l []
theorem Hj (ss:List (Y0)) (z:Int) (l:List aF) (i:Nat) (h:i<l.length) (fs:List Rf):jW ss z i (l.drop i) fs=if jg ss z i l[i]=0 then(if(fj fs l[i].r l[i].o l[i].n).2=0 then jW ss z (i+1) (l.drop (i+1)) (fj fs l[i].r l[i].o l[i].n).1 else([],(i:Int),(fj fs l[i].r l[i].o l[i].n).2))else([],(i:Int),jg ss z i l[i]):=by
 rw[List.drop_eq_getElem_cons h];rfl
structure oQ (k:Nat) (fs:List Rf):Prop where
 each:∀f∈fs,f.1.length<=k/\f.2.length<=k
theorem zJ {k:Nat} {fs:List Rf} {name old id:Y0} (h:oQ k fs) (hn:name.length<=k) (hi:id.length<=k):oQ k (fj fs name old id).1/\(fj fs name old id).1.length<=fs.length+1:=by
 have hz:oQ k []/\([]:List Rf).length<=fs.length+1:=⟨⟨by simp⟩,by simp⟩
 unfold fj;split;. split;(. split;(. split;(. split;(. refine⟨⟨λf hf=>h.each f (List.mem_of_mem_eraseIdx hf)⟩,?_⟩;exact zdd);. refine⟨⟨λf hf=>?_⟩,by simp⟩;rcases List.mem_or_eq_of_mem_set hf with hf|rfl;(. exact h.each f hf);. exact⟨hn,hi⟩);. split;(. exact⟨h,by simp⟩);. split;(. exact hz);. refine⟨⟨λf hf=>?_⟩,?_⟩;(. simp only[ku]at hf;(rcases List.mem_append.1 hf with hf|hf);(. exact h.each f (List.mem_of_mem_take hf));. (rcases List.mem_cons.1 hf with rfl|hf);(. exact⟨hn,hi⟩);. exact h.each f (List.mem_of_mem_drop hf));. exact zby);. exact hz);. exact hz
 . exact hz
theorem Fx (fs:List Rf) (name old id:Y0):(fj fs name old id).1.length<=fs.length+1:=by
 unfold fj;split;. split;(. split;(. split;(. split;(. exact zdd);. simp);. split;(. simp);. split;(. simp);. exact zby);. simp);. simp
 . simp
theorem xY (ss:List (Y0)) (z:Int):∀(l:List aF) (i:Nat) (fs:List Rf),(jW ss z i l fs).1.length<=fs.length+l.length
 |[],i,fs=>by simp[jW]
 |s::r,i,fs=>by
  rw[jW]
  split
  . split
    . have h1:=xY ss z r (i+1) (fj fs s.r s.o s.n).1
      have h2:=Fx fs s.r s.o s.n
      simp only[List.length_cons];omega
    . simp
  . simp
def kx (who:List Int) (x:Int):Nat:=(who.takeWhile λy=>decide (y<x)).length
theorem AR (x:Int):∀(who:List Int) (k:Nat),k<=who.length->(∀j (h:j<who.length),j<k->who[j]<x)->(∀h:k<who.length,¬who[k]<x)->kx who x=k
 |[],k,hk,_,_=>by simp at hk;subst hk;rfl
 |y::r,0,_,_,h2=>by
  have:=h2 (by simp)
  unfold kx
  rw[List.takeWhile_cons,if_neg (by simpa using this)]
  rfl
 |y::r,k+1,hk,h1,h2=>by
  have hy:=h1 0 (by simp) om
  have J:=AR x r k (by simpa using hk) (λj hj hjk=>by have:=h1 (j+1) ze2 om;simpa using this) (λh=>by have:=h2 zfc;simpa using this)
  unfold kx at J⊢
  rw[List.takeWhile_cons,if_pos (by simpa using hy),List.length_cons,J]
def eW {α:Type} (k:Nat) (x:α) (l:List α):List α:=l.take k++[x]++l.drop k
theorem oP {α:Type} (k:Nat) (x:α) (l:List α):(eW k x l).length=l.length+1:=by
 unfold eW;simp only[List.length_append,List.length_take,List.length_cons,List.length_nil,List.length_drop];omega
def cv:aF:=⟨[],[],[],[],[]⟩
def jk (s:aF) (at_ x:Int) (key:Y0):aF×Int:=
 if eR s=0 then
  (if(cL at_ s).2=0 then
   (if x<0\/7<x then(cv,3)
   else if s.who[kx s.who x]?=some x then(cv,8)
   else(⟨s.r,s.o,s.n,eW (kx s.who x) x s.who,eW (kx s.who x) (dC key (cL at_ s).1) s.seals⟩,0))
  else(cv,(cL at_ s).2))
 else(cv,eR s)
theorem qc {W:World} {g:Nat} {T:TypeId} {u:Value} (h:ag W g T #[u]):ak W 1 (some (g,0)) 1 [u]:=by
 exact za5
theorem ak.take1 {w:World} {n:Nat} {A:Yy} {vs:List Value} (h:ak w 1 A n vs) (k:Nat) (hk:k<=n):ak w 1 A k (vs.take k):=by
 have hl:=h.len;refine⟨by rw[List.length_take];omega,λh0=>?_⟩;obtain⟨b,off,e,hc⟩:=h.at_ om;refine⟨b,off,e,λi v hi=>hc i v ?_⟩;rw[List.getElem?_take]at hi;split at hi;. exact hi
 . cases hi
theorem ak.drop1 {w:World} {n b off:Nat} {vs:List Value} (h:ak w 1 (some (b,off)) n vs) (k:Nat) (hk:k<=n):ak w 1 (some (b,off+k)) (n-k) (vs.drop k):=by
 have hl:=h.len;refine⟨by rw[List.length_drop];omega,λh0=>?_⟩;obtain⟨b',Kl,e,hc⟩:=h.at_ om;injection e with e;injection e with e1 e2 _;subst e1 e2;refine⟨b,off+k,rfl,λi v hi=>?_⟩;rw[List.getElem?_drop]at hi;have:=hc (k+i) v hi;rwa [<-Nat.add_assoc]at this
theorem ak.none1 {w:World} {A:Yy} {vs:List Value} (n:Nat) (h:vs.length<=n):ak w 1 A 0 (vs.drop n):=by
 rw[List.drop_eq_nil_of_le h];exact ak.nil w 1 A
theorem dq {ops:Array Oper} {o:Oper} {a:Act} {K:Act->World->Prop} {Q:Exit->Act->World->Prop} {X:Prop} {w:World} {t e:TypeId} {z:Value} {f:Nat}
 (E:cC t e z 1 f) (G:o.guard=none) (s x:Operand) (ho:o.op=.call {callee:=.builtin .append,args:=#[s,x],argTypes:=#[t,t]})
 {A:Yy} {B n cap:Nat} {xs:List Value} (hs:a.eval s=.slice A n cap) (N:w.ownsRow B e 1 (A,n,cap) n xs)
 {u:Value} {c:Nat} (hx:a.eval x=.slice (some (w.heap.size,0)) 1 c) (h1:u.oneCell'=true)
 (i:(n+1)*f<=140737488355328) (q:n+1<=maxLen) (hB:B<=w.heap.size)
 (h:∀g D w',w'.ownsRow B e 1 (.slice (some ⟨g,0,none⟩) (n+1) D) (n+1) (xs++[u])->w.grownBy w' (Value.ownBlock (A,n,cap))->K (a.put o.dst (.slice (some ⟨g,0,none⟩) (n+1) D)) w'):
 if Region.wanted o (yielded ops a.tmps)=true then Oper.wp Ao o a (w.alloc (.cells #[u] e)) K Q else X:=by
 exact zaz
theorem jH {w:World} {B B' e size n:Nat} {v:Value} {xs:List Value} (h:w.ownsRow B e size v n xs) (z:B'<=B):w.ownsRow B' e size v n xs:=by
 exact zaN
structure FJ (w:World) (p:Nat) (r o n:Y0) (N:Nat) (who':List Int) (B:Yy) (m d:Nat) (wx:World):Prop where
 ex:∃A1 c1,ag wx p 73 #[r,o,n,(A1,N,c1),(B,m,d)]/\wx.ownsRow (p+1+1) 3 1 (.slice A1 N c1) N (who'.map iV)
 z:ag wx (p+1) 73 #[s_,s_,s_,n_,n_]
 gr:Gr w wx
theorem pQ {w W:World} {p N c1:Nat} {r o n:Y0} {A A1 B:Yy} {c m d M:Nat} {b:List Int} (hb:ag W p 73 #[.string (bs r),.string (bs o),.string (bs n),.slice A M c,.slice B m d])
 (hz:ag W (p+1) 73 #[.string (bs []),.string (bs []),.string (bs []),.slice none 0 0,.slice none 0 0]) (g:Gr w W) (V:w.heap.size<=p)
 (ho:W.ownsRow (p+1+1) 3 1 (.slice A1 N c1) N (b.map iV)):FJ w p r o n N b B m d (W.setCell ⟨p,3,none⟩ (.slice A1 N c1)):=
 ⟨⟨A1,c1,hb.set_ 3 _,ownsRow_setCell_other ho (a:=⟨p,3,none⟩) (λe=>by have h1:=(ho.lt p e).1;omega) _⟩,hz.far (p:=⟨p,3,none⟩) ze8 _,g.setCell (p:=⟨p,3,none⟩) V _⟩
structure Ax (w:World) (p:Nat) (r o n:Y0) (N:Nat) (who':List Int) (seals':List (Y0)) (wx:World):Prop where
 ex:∃A1 c1 B1 d1,ag wx p 73 #[r,o,n,(A1,N,c1),(B1,N,d1)]/\wx.ownsRow (p+1+1) 3 1 (.slice A1 N c1) N (who'.map iV)/\wx.ownsRow (p+1+1) 9 1 (.slice B1 N d1) N (seals'.map aC)
 z:ag wx (p+1) 73 #[s_,s_,s_,n_,n_]
 gr:Gr w wx
theorem CO {w W:World} {p N c1 d1:Nat} {r o n:Y0} {A1 B B1:Yy} {m d:Nat} {b:List Int} {c:List (Y0)} (hb:ag W p 73 #[.string (bs r),.string (bs o),.string (bs n),.slice A1 N c1,.slice B m d])
 (hz:ag W (p+1) 73 #[.string (bs []),.string (bs []),.string (bs []),.slice none 0 0,.slice none 0 0]) (g:Gr w W) (V:w.heap.size<=p)
 (ho:W.ownsRow (p+1+1) 3 1 (.slice A1 N c1) N (b.map iV)) (v:W.ownsRow (p+1+1) 9 1 (.slice B1 N d1) N (c.map aC)):Ax w p r o n N b c (W.setCell ⟨p,4,none⟩ (.slice B1 N d1)):=
 ⟨⟨A1,c1,B1,d1,hb.set_ 4 _,ownsRow_setCell_other ho (a:=⟨p,4,none⟩) (λe=>by have h1:=(ho.lt p e).1;omega) _,ownsRow_setCell_other v (a:=⟨p,4,none⟩) (λe=>by have h1:=(v.lt p e).1;omega) _⟩,hz.far (p:=⟨p,4,none⟩) ze8 _,g.setCell (p:=⟨p,4,none⟩) V _⟩
theorem mF {α β:Type} (f:α->β) (k:Nat) (x:α) (l:List α):(eW k x l).map f=(l.map f).take k++[f x]++(l.map f).drop k:=by
 unfold eW;simp[List.map_take,List.map_drop]
theorem JN {l:Y0} (h:gE l=0):0<gK l:=by
 exact zbE
theorem vW (q:St):aD q<4611686018427387904:=by
 unfold aD;split;. exact vB _
 . omega
theorem tL (q:St):(ao q).1.length<=q.1.length:=by
 exact zbT
theorem CZ {q:St} (h:q.2=0) (h2:(ao q).2=0):(ao q).1.length<q.1.length:=by
 unfold ao at h2⊢;rw[if_pos h]at h2⊢;have:=JN h2;have:=(tp q.1).1
 simp;omega
theorem zt (n:Int) (q:St):(aN n q).1.length<=q.1.length:=by
 exact zbS
theorem EC {n:Int} {q:St} (h:(aN n q).2=0):q.2=0:=by
 exact zci
theorem FW (q:St):(cu 32 q).length<=32:=by
 exact zbX
theorem mH (q:St):(aS q).1.length<=q.1.length:=by
 exact zck
theorem qL (q:St):(cx q).length<=q.1.length:=by
 exact zbw
def j7:Nat->St->List Int×List (Y0)×St
 |0,q=>([],[],q)
 |n+1,q=>if q.2=0 then((aD q:Int)::(j7 n (aN 32 (ao q))).1,cu 32 (ao q)::(j7 n (aN 32 (ao q))).2.1,(j7 n (aN 32 (ao q))).2.2)else([],[],q)
structure lj (k n0:Nat) (q0:St) (i n:Nat) (q:St) (W:List Int) (S:List (Y0)):Prop where
 all:j7 n0 q0=(W++(j7 n q).1,S++(j7 n q).2.1,(j7 n q).2.2)
 sum:i+n=n0
 wl:W.length=i
 sl:S.length=i
 le:i<=k+1
 left:q.2=0->q.1.length+i<=k
 len:q.1.length<=k
 each:∀x∈S,x.length<=32
theorem lj.start {k n0:Nat} {q0:St} (h:q0.1.length<=k):lj k n0 q0 0 n0 q0 [] []:=
 ⟨rfl,om,rfl,rfl,om,λ_=>om,h,by simp⟩
theorem lj.next {k n0:Nat} {q0:St} {i n:Nat} {q:St} {W:List Int} {S:List (Y0)} (h:lj k n0 q0 i (n+1) q W S) (h0:q.2=0):lj k n0 q0 (i+1) n (aN 32 (ao q)) (W++[(aD q:Int)]) (S++[cu 32 (ao q)]):=by
 have hl:=h.left h0;have h1:=zt 32 (ao q);have h2:=tL q;refine⟨?_,by have:=h.sum;omega,by rw[List.length_append,h.wl];rfl,by rw[List.length_append,h.sl];rfl,om,λe=>?_,om,λx hx=>?_⟩;. have:=h.all;rw[j7,if_pos h0]at this;rw[this];simp
 . have:=CZ h0 (EC e);omega
 . (rcases List.mem_append.1 hx with hx|hx);(. exact h.each x hx);. simp at hx;subst hx;exact FW _
theorem lj.bad {k n0:Nat} {q0:St} {i n:Nat} {q:St} {W:List Int} {S:List (Y0)} (h:lj k n0 q0 i n q W S) (h0:¬q.2=0):j7 n0 q0=(W,S,q):=by
 have:=h.all;cases n with|zero=>simpa[j7]using this|succ n=>rw[j7,if_neg h0]at this;simpa using this
theorem lj.done {k n0:Nat} {q0:St} {i:Nat} {q:St} {W:List Int} {S:List (Y0)} (h:lj k n0 q0 i 0 q W S):j7 n0 q0=(W,S,q):=by
 have:=h.all;simpa[j7]using this
def wM (b:Y0):St:=aS (aS (aS (b,0)))
def si (b:Y0):List Int×List (Y0)×St:=j7 (aD (wM b)) (ao (wM b))
def zD (b:Y0):aF:=⟨cx (b,0),cx (aS (b,0)),cx (aS (aS (b,0))),(si b).1,(si b).2.1⟩
def jT (b:Y0):aF×Int:=if(si b).2.2.2=0/\(si b).2.2.1.length=0 then(if eR (zD b)=0 then(zD b,0)else(cv,eR (zD b)))else(cv,2)
theorem IV (b:Y0):(wM b).1.length<=b.length:=by
 unfold wM;have h1:=mH (aS (aS (b,0)));have h2:=mH (aS (b,0));have h3:=mH (b,0);simp only at h3;omega
section
structure Md (w0:World) (q K:Nat) (cs:Array Value) (X Y:Value) (N M:Nat) (F:List Int) (G:List (Y0)) (w:World):Prop where
 blk:ag w q 73 cs
 own1:w.ownsRow K 3 1 X N (F.map iV)
 own2:w.ownsRow K 9 1 Y M (G.map aC)
 gr:Gr w0 w
 lt:q<K
 le:w0.heap.size<=q
section
variable{w0:World} {q K:Nat} {cs:Array Value} {X Y:Value} {N M:Nat} {F:List Int} {G:List (Y0)} {w w':World}
theorem Md.gr' (h:Md w0 q K cs X Y N M F G w) (g:Gr w w'):Md w0 q K cs X Y N M F G w':=⟨h.blk.gr g,av h.own1 g,av h.own2 g,h.gr.trans g,h.lt,h.le⟩
theorem Md.al (h:Md w0 q K cs X Y N M F G w) (o:Obj):Md w0 q K cs X Y N M F G (w.alloc o):=h.gr' ((B4 _).alloc _)
theorem Md.only {g:Nat} {T:TypeId} {cs':Array Value} (h:Md w0 q K cs X Y N M F G w) (hb:ag w g T cs') (h1:3≠T) (h2:9≠T) (hq:q≠g) (hg:w0.heap.size<=g) (k:w.grownBy w' (some g)):Md w0 q K cs X Y N M F G w':=
 ⟨h.blk.only k hq,aB h.own1 hb h1 k,aB h.own2 hb h2 k,h.gr.only k hg,h.lt,h.le⟩
theorem Md.app1 {a:Value} {N':Nat} {F':List Int} (h:Md w0 q K cs X Y N M F G w) (ho:w'.ownsRow K 3 1 a N' (F'.map iV)) (k:w.grownBy w' X.ownBlock):Md w0 q K cs a Y N' M F' G w':=
 ⟨eH h.blk h.own1 dc0 k,ho,iL h.own2 h.own1 dc0 k,h.gr.grown k (λi hi=>by have:=(h.own1.lt i hi).1;have:=h.lt;have:=h.le;omega),h.lt,h.le⟩
theorem Md.app2 {a:Value} {M':Nat} {b:List (Y0)} (h:Md w0 q K cs X Y N M F G w) (ho:w'.ownsRow K 9 1 a M' (b.map aC)) (k:w.grownBy w' Y.ownBlock):Md w0 q K cs X a N M' F b w':=
 ⟨eH h.blk h.own2 dc0 k,iL h.own1 h.own2 dc0 k,ho,h.gr.grown k (λi hi=>by have:=(h.own2.lt i hi).1;have:=h.lt;have:=h.le;omega),h.lt,h.le⟩
theorem Md.st (h:Md w0 q K cs X Y N M F G w) (i:Nat) (u:Value):Md w0 q K (cs.setIfInBounds i u) X Y N M F G (w.setCell (q,i) u):=
 ⟨h.blk.set_ i u,ownsRow_setCell_other h.own1 (a:=(q,i)) (λe=>by have:=(h.own1.lt q e).1;have:=h.lt;omega) u,ownsRow_setCell_other h.own2 (a:=(q,i)) (λe=>by have:=(h.own2.lt q e).1;have:=h.lt;omega) u,h.gr.setCell (p:=(q,i)) h.le u,h.lt,h.le⟩
theorem FH {w:World} {g:Nat} {t:TypeId} {cs:Array Value} (h:g=w.heap.size):ag (w.alloc (.cells cs t)) g t cs:=by subst h;exact ag.new w t cs
theorem Md.size (h:Md w0 q K cs X Y N M F G w) (hK:K<=q+1):K<=w.heap.size:=by have:=h.blk.lt;omega
theorem Md.keep1 {g:Nat} {T:TypeId} {cs':Array Value} (h:Md w0 q K cs X Y N M F G w) (hb:ag w g T cs') (h1:3≠T) (k:w.grownBy w' X.ownBlock):ag w' g T cs':=eH hb h.own1 h1 k
theorem Md.keep2 {g:Nat} {T:TypeId} {cs':Array Value} (h:Md w0 q K cs X Y N M F G w) (hb:ag w g T cs') (h1:9≠T) (k:w.grownBy w' Y.ownBlock):ag w' g T cs':=eH hb h.own2 h1 k
end
def kJ (r o n:Y0) (A:Yy) (c N:Nat) (B:Yy) (d M:Nat):Array Value:=#[r,o,n,(A,N,c),(B,M,d)]
def Tw (w0:World) (q K:Nat) (r o n:Y0) (N:Nat) (F:List Int) (G:List (Y0)) (w:World):Prop:=
 ∃A c B d,Md w0 q K (kJ r o n A c N B d N) (A,N,c) (B,N,d) N N F G w
theorem Tw.new {w0 w:World} {q K:Nat} {r o n:Y0} (h:ag w q 73 (kJ r o n none 0 0 none 0 0)) (g:Gr w0 w) (lt:q<K) (le:w0.heap.size<=q):Tw w0 q K r o n 0 [] [] w:=
 ⟨none,0,none,0,h,World.ownsRow_nil _ _ _ _,World.ownsRow_nil _ _ _ _,g,lt,le⟩
theorem Tw.only {w0 w w':World} {q K N g:Nat} {r o n:Y0} {F:List Int} {G:List (Y0)} {T:TypeId} {cs':Array Value} (h:Tw w0 q K r o n N F G w) (hb:ag w g T cs') (h1:3≠T) (h2:9≠T) (hq:q≠g) (hg:w0.heap.size<=g) (k:w.grownBy w' (some g)):Tw w0 q K r o n N F G w':=by
 obtain⟨A,c,B,d,h⟩:=h;exact⟨A,c,B,d,h.only hb h1 h2 hq hg k⟩
theorem zL {w:World} {K K' N:Nat} {r o n:Y0} {F:List Int} {G:List (Y0)} {A B:Yy} {c d:Nat} (h:w.ownsRow K 3 1 (A,N,c) N (F.map iV)) (h':w.ownsRow K' 9 1 (B,N,d) N (G.map aC)):mS w ⟨r,o,n,F,G⟩ A c B d/\kJ r o n A c N B d N=aP ⟨r,o,n,F,G⟩ A c B d:=by
 have h1:F.length=N:=zgT
 have h2:G.length=N:=zgK
 subst h1;unfold kJ aP;simp only;rw[h2];exact⟨⟨ak.own h,by simp only;rw[h2];exact ak.own h',qC h,λe=>by simp only;rw[h2];exact qC h' e,qI h,by simp only;rw[h2];exact qI h'⟩,rfl⟩
theorem Md.str {w0 w:World} {q K N:Nat} {r o n:Y0} {F:List Int} {G:List (Y0)} {A B:Yy} {c d:Nat} (h:Md w0 q K (kJ r o n A c N B d N) (A,N,c) (B,N,d) N N F G w):mS w ⟨r,o,n,F,G⟩ A c B d/\kJ r o n A c N B d N=aP ⟨r,o,n,F,G⟩ A c B d:=zL h.own1 h.own2
theorem IC (F:List Int) (x:Int):F.map iV++[Value.int .i64 x]=(F++[x]).map iV:=by simp[iV]
theorem IX (G:List (Y0)) (x:Y0):G.map aC++[Value.string (bs x)]=(G++[x]).map aC:=by simp[aC]
end
section
def qy (b:Nat) (w:World) (s:aF) (A:Yy) (c:Nat) (B:Yy) (d:Nat):Prop:=w.ownsRow b 3 1 (A,s.who.length,c) s.who.length (s.who.map iV)/\w.ownsRow b 9 1 (B,s.seals.length,d) s.seals.length (s.seals.map aC)
theorem qy.zero (b:Nat) (w:World):qy b w cv none 0 none 0:=⟨World.ownsRow_nil _ _ _ _,World.ownsRow_nil _ _ _ _⟩
theorem zp {w:World} {b b' e size n:Nat} {v:Value} {xs:List Value} (h:w.ownsRow b e size v n xs) (hb:b'<=b):w.ownsRow b' e size v n xs:=by
 refine⟨h.1,?_⟩;rcases h.2 with h|⟨g,c,d,h1,h2,h3⟩
 . exact .inl h
 . exact .inr ⟨g,c,d,h1,Nat.le_trans hb h2,h3⟩
theorem F1 {w:World} {K K' N b:Nat} {r o n:Y0} {F:List Int} {G:List (Y0)} {A B:Yy} {c d:Nat} (h:w.ownsRow K 3 1 (A,N,c) N (F.map iV)) (h':w.ownsRow K' 9 1 (B,N,d) N (G.map aC)) (hb:b<=K/\b<=K'):qy b w ⟨r,o,n,F,G⟩ A c B d:=by
 have h1:F.length=N:=zgT
 have h2:G.length=N:=zgK
 subst h1;refine⟨zp h hb.1,?_⟩;simp only;rw[h2];exact zp h' hb.2
theorem lj.fits {k n0:Nat} {q0:St} {i n:Nat} {q:St} {W:List Int} {S:List (Y0)} (h:lj k n0 q0 i n q W S) (hk:k<=1099511627775):W.length<=1099511627776/\S.length<=1099511627776:=by
 have:=h.wl;have:=h.sl;have:=h.le;omega
section
variable{w0:World} {q K:Nat} {cs:Array Value} {X Y:Value} {N M:Nat} {F:List Int} {G:List (Y0)} {w w':World}
theorem Md.rd {T:TypeId} {g:Nat} {st:St} {W:World} (h:Md w0 q K cs X Y N M F G w) (gx:Gr w W) (hd:an T w g st) (h1:3≠T) (h2:9≠T) (hq:q≠g) (hg:w0.heap.size<=g) (k:W.grownBy w' (some g)):Md w0 q K cs X Y N M F G w':=
 (h.gr' gx).only (hd.gr gx).blk h1 h2 hq hg k
theorem Md.rdApp1 {T:TypeId} {g:Nat} {st:St} (h:Md w0 q K cs X Y N M F G w) (hd:an T w g st) (h1:3≠T) (k:w.grownBy w' X.ownBlock):an T w' g st:=⟨h.keep1 hd.blk h1 k,hd.len,hd.err⟩
theorem Md.rdApp2 {T:TypeId} {g:Nat} {st:St} (h:Md w0 q K cs X Y N M F G w) (hd:an T w g st) (h1:9≠T) (k:w.grownBy w' Y.ownBlock):an T w' g st:=⟨h.keep2 hd.blk h1 k,hd.len,hd.err⟩
theorem an.far {T:TypeId} {g:Nat} {st:St} (hd:an T w g st) {a:Addr} (hne:g≠a.block) (u:Value):an T (w.setCell a u) g st:=⟨hd.blk.far hne u,hd.len,hd.err⟩
end
theorem Bz (b:Y0) (w:World) (hb:b.length<=1099511627775):Calls Ao 147 #[b] w λe w'=>∃A c B d,e=.returned (.tuple #[.agg (aP (jT b).1 A c B d),.int .i64 (jT b).2])/\qy w.heap.size w' (jT b).1 A c B d/\Gr w w':=by
 obtain⟨J,H⟩:=zq (w.alloc (.cells (aP cv none 0 none 0) 73));have hz:ag J w.heap.size 73 (aP cv none 0 none 0):=zeM
 have t:Gr w J:=zc5
 obtain⟨p,V⟩:=zq (w.heap.size);rw[<-V]at hz;have Kd:w.heap.size<=p:=om;obtain⟨g,hg⟩:=zq (J.heap.size);have Mr:p<g:=by rw[hg];exact hz.lt
 have j:J.heap.size<=g:=om;obtain⟨R,hR⟩:=zq (cx (b,0));obtain⟨O,hO⟩:=zq (cx (aS (b,0)));obtain⟨L,hL⟩:=zq (cx (aS (aS (b,0))));obtain⟨q1,Kg⟩:=zq (aS (b,0));obtain⟨q2,Kk⟩:=zq (aS q1);obtain⟨q3,P⟩:=zq (wM b);obtain⟨n0,Ki⟩:=zq (aD q3);obtain⟨q4,v⟩:=zq (ao q3);have Ku:q3=aS q2:=by rw[P,Kk,Kg];rfl
 have Ld:ab (Calls Ao 71 #[b] J λe w'=>e=.returned (g,0)/\an 196 w' g (b,0)/\Gr J w'):=aa (by rw[hg];exact kY b J om);have Ka:ab (∀W,an 196 W g (b,0)->Calls Ao 73 #[(g,0)] W λe w'=>e=.returned R/\an 196 w' g q1/\W.grownBy w' (some g)):=aa (λW h=>by rw[hR,Kg];exact mU g (b,0) W h);have Kr:ab (∀W,an 196 W g q1->Calls Ao 73 #[(g,0)] W λe w'=>e=.returned O/\an 196 w' g q2/\W.grownBy w' (some g)):=aa (λW h=>by rw[hO,<-Kg,Kk];exact mU g q1 W h);have Lh:ab (∀W,an 196 W g q2->Calls Ao 73 #[(g,0)] W λe w'=>e=.returned L/\an 196 w' g q3/\W.grownBy w' (some g)):=aa (λW h=>by rw[hL,<-Kg,<-Kk,Ku];exact mU g q2 W h);have Km:ab (∀q W,an 196 W g q->Calls Ao 72 #[(g,0)] W λe w'=>e=.returned (aD q)/\an 196 w' g (ao q)/\W.grownBy w' (some g)):=aa (λq W h=>aW g q W h);have Ko:ab (∀q W,an 196 W g q->Calls Ao 75 #[(g,0),.int .i64 32] W λe w'=>e=.returned (cu 32 q)/\an 196 w' g (aN 32 q)/\W.grownBy w' (some g)):=aa (λq W h=>iE g q 32 W h om);have s:ab (∀q W,an 196 W g q->Calls Ao 74 #[(g,0)] W λe w'=>e=.returned q.2/\W=w'):=aa (λq W h=>dD g q W h);have Kj:ab (∀q W,an 196 W g q->Calls Ao 76 #[(g,0)] W λe w'=>e=.returned q.1.length/\W=w'):=aa (λq W h=>eS g q W h);have Kv:q4.1.length<=b.length:=by have h1:=tL q3;have h2:=IV b;rw[<-P]at h2;rw[v];omega
 have Mg:n0<4611686018427387904:=by rw[Ki];exact vW q3
 have Kp:=aa (lj.start (n0:=n0) Kv);have C:R.length<=1099511627776:=by have:=qL (b,0);simp only at this;rw[hR];omega
 have Li:O.length<=1099511627776:=by have:=qL (aS (b,0));have:=mH (b,0);simp only at this;rw[hO];omega
 have Me:L.length<=1099511627776:=by have:=qL (aS (aS (b,0)));have:=mH (aS (b,0));have:=mH (b,0);simp only at this;rw[hL];omega
 have a:ab (∀(q:St) (F:List Int) (G:List (Y0)),j7 n0 q4=(F,G,q)->jT b=if q.2=0/\q.1.length=0 then(if eR ⟨R,O,L,F,G⟩=0 then(⟨R,O,L,F,G⟩,0)else(cv,eR ⟨R,O,L,F,G⟩))else(cv,2)):=aa (λq F G h=>by(have h':si b=(F,G,q):=by rw[<-h,Ki,v,P];rfl);unfold jT zD;rw[h',hR,hO,hL]);have Kc:ab (∀(F:List Int) (G:List (Y0)) A c B d W,F.length<=1099511627776->G.length<=1099511627776->(∀x∈G,x.length<=32)->mS W ⟨R,O,L,F,G⟩ A c B d->Calls Ao 103 #[.agg (aP ⟨R,O,L,F,G⟩ A c B d)] W λe w'=>e=.returned (.int .i64 (eR ⟨R,O,L,F,G⟩))/\Gr W w'):=aa (λF G A c B d W h1 h2 h3 hr=>mD _ A c B d W hr ⟨C,Li,Me,h1,h2,λx hx=>Nat.le_trans (h3 x hx) om⟩);have Ly:ab (∀W,an 196 W g q3->Calls Ao 72 #[(g,0)] W λe w'=>e=.returned n0/\an 196 w' g q4/\W.grownBy w' (some g)):=aa (λW h=>by rw[Ki,v];exact aW g q3 W h);have HB:=aa hb;have HZ:=aa hz;obtain⟨Kb,hV⟩:=zq (jT b);rw[<-hV]at a⊢;clear hV hR hO hL Kg Kk P Ku Ki v Kv C Li Me hz;unfold aP cv at H;simp only[List.length_nil]at H;go_enter Tryz.func147,Tryz.ntmps147
 go_upto_region 1 with fail
 rw[<-H,<-V];clear H V;clear hg;go_upto_region 3 with(first|(go_at_call 71;refine Bo Ld.o ?_;rintro e w1 ⟨rfl,d1,I⟩)|(go_at_call 73;refine Bo (Ka.o _ d1) ?_;rintro e w2 ⟨rfl,d2,Z⟩;have G2:Gr J w2:=Gr.only I Z j)|(go_at_call 73;refine Bo (Kr.o _ d2) ?_;rintro e w3 ⟨rfl,d3,g3⟩;have G3:Gr J w3:=Gr.only G2 g3 j)|(go_at_call 73;refine Bo (Lh.o _ d3) ?_;rintro e w4 ⟨rfl,d4,g4⟩;have G4:Gr J w4:=Gr.only G3 g4 j))
 obtain⟨k,hk⟩:=zq (w4.heap.size);clear d1 d2 d3 Z g3 G2 G3;have f:ab (J.heap.size<=k/\g<k):=aa ⟨by rw[hk];exact G4.size,by rw[hk];exact d4.blk.lt⟩;have Ma:ab (Tw J k (k+1) R O L 0 [] [] (w4.alloc (.cells #[R,O,L,n_,n_] 73))):=aa (Tw.new (by rw[hk];exact ag.new _ _ _) (G4.alloc _) om f.o.1);have D:=aa (d4.gr ((B4 w4).alloc (.cells #[R,O,L,n_,n_] 73)));rw[<-hk];obtain⟨wb,Kn⟩:=zq (w4.alloc (.cells #[R,O,L,n_,n_] 73));rw[<-Kn]at Ma D⊢;clear hk Kn d4 g4 G4;have HC:ab (∀A c N B d M X Y N' M' F G W,Md J k (k+1) (kJ R O L A c N B d M) X Y N' M' F G W->W.cell? (k,3)=(A,N,c)/\W.cell? (k,4)=(B,M,d)/\W.frozen? (k,3)=false/\W.frozen? (k,4)=false):=aa (λA c N B d M X Y N' M' F G W h=>⟨h.blk.cell 3,h.blk.cell 4,h.blk.frozen 3,h.blk.frozen 4⟩);have Ky:ab (∀q W,an 196 W g q->W.cell? (g,0)=q.1/\W.cell? (g,1)=q.2):=aa (λq W h=>⟨h.blk.cell 0,h.blk.cell 1⟩);have U:k≠g:=by have:=f.o.2;omega
 have Il:g≠k:=om;go_upto_block 0 with(first|(go_at_call 72;refine Bo (Ly.o _ D.o) ?_;rintro e w5 ⟨rfl,d5,g5⟩;have T5:=aa (Ma.o.only D.o.blk dc0 dc0 U j g5);have D5:=aa d5;clear d5 g5))
 clear Ka Kr Lh Ly Ld Ma D;go_cut []from 19 to 41 (λwx=>ab (∃q F G N,j7 n0 q4=(F,G,q)/\F.length<=1099511627776/\G.length<=1099511627776/\(∀x∈G,x.length<=32)/\an 196 wx g q/\Tw J k (k+1) R O L N F G wx))
 case first=>(go_wp2_with fail);(go_loopg [6] n0 (λfuel iv wr=>∃n:Nat,iv=.int .i64 (n:Int)/\n<=fuel/\n<=n0/\ab (∃i q F G,lj b.length n0 q4 i n q F G/\an 196 wr g q/\Tw J k (k+1) R O L i F G wr)));(case atStart=>exact⟨n0,rfl,om,om,aa ⟨0,q4,[],[],Kp.o,D5.o,T5.o⟩⟩);case round=>clear T5 D5;obtain⟨n,rfl,Kx,Lb,HF⟩:=hrel;obtain⟨i,q,F,G,Kq,hD,A1,c1,B1,d1,M0⟩:=HF.o;have y:=aa Kq;have Ke:=Kq.fits HB.o;have Le:i<=b.length+1:=Kq.le;have Kt:=aa Ke;have Kl:=aa (show i<=1099511627776 by have:=HB.o;omega);obtain⟨y0,y1⟩:=Ky.o _ _ hD;have HD:=aa hD;have HM:=aa M0;clear Kq HF Ke Le;by_cases hn:0<n;(. have Mb:(0:Int)<(n:Int):=om;(by_cases hq:q.2=0);(. (have Lt:((q.2:Int)==0)=true:=zff);have Kw:ab (lj b.length n0 q4 (i+1) (n-1) (aN 32 (ao q)) (F++[(aD q:Int)]) (G++[cu 32 (ao q)])):=aa (by have h:=y.o;rw[show n=(n-1)+1 by omega]at h;exact h.next hq);obtain⟨x,hx⟩:=zq (aD q);have Lc:ab (∀W,an 196 W g q->Calls Ao 72 #[(g,0)] W λe w'=>e=.returned x/\an 196 w' g (ao q)/\W.grownBy w' (some g)):=aa (by rw[hx];exact Km.o q);obtain⟨sv,Lj⟩:=zq (cu 32 (ao q));have Ks:ab (∀W,an 196 W g (ao q)->Calls Ao 75 #[(g,0),.int .i64 32] W λe w'=>e=.returned sv/\an 196 w' g (aN 32 (ao q))/\W.grownBy w' (some g)):=aa (by rw[Lj];exact Ko.o (ao q));rw[<-hx,<-Lj]at Kw;(have Nn:(i+1)*8<=140737488355328:=ze7);(have Lm:(i+1)*16<=140737488355328:=ze7);(have m:i+1<=maxLen:=zgu);clear hx Lj hq;clear hD M0;(go_upto_region 6 with(go_at_call 74;refine Bo (s.o _ _ HD.o) ?_;rintro e w6 ⟨rfl,rfl⟩));obtain⟨x0,x1,x2,x3⟩:=HC.o _ _ _ _ _ _ _ _ _ _ _ _ _ HM.o;(go_cut []from 28 to 34 (λwx=>ab (∃A c,Md J k (k+1) (kJ R O L A c (i+1) B1 d1 i) (A,i+1,c) (B1,i,d1) (i+1) i (F++[(x:Int)]) G wx)/\ab (an 196 wx g (ao q))));(case first=>(go_region_law (first|(go_simp;go_at_call 72;(refine Bo (Lc.o _ (an.gr HD.o ?gx)) ?_);(case gx=>first|exact B4 _|exact(B4 _).drew);rintro e w1 ⟨rfl,D1,I⟩;have M1:Md J k (k+1) (kJ R O L A1 c1 i B1 d1 i) (A1,i,c1) (B1,i,d1) i i F G w1:=zfo;obtain⟨a0,a1,a2,a3⟩:=HC.o _ _ _ _ _ _ _ _ _ _ _ _ _ M1;obtain⟨c0,Lp,Ln,c3⟩:=HC.o _ _ _ _ _ _ _ _ _ _ _ _ _ (M1.al (.cells #[x] 3)))|(refine au (B:=k+1) (A0:=A1) (n0:=i) (cap0:=c1) (xs:=F.map iV) (A:=some ⟨w1.heap.size,0,none⟩) (n:=1) (c:=1) (vs:=[.int .i64 (x:Int)]) E.ints rfl (.tmp 29) (.tmp 32) rfl ?hd ?ho ?hx (qc (T:=3) ?hr) (λh=>by cases h) (λu hu=>by simp at hu;subst hu;rfl) Nn m ?hB ?_;(case hd=>first|(simp[Act.eval];done)|(simp[Act.eval,Act.put];done));(case hx=>first|(simp[Act.eval];done)|(simp[Act.eval,Act.put];done));(case ho=>refine Md.own1 (w0:=J) (q:=k) (K:=k+1) (cs:=kJ R O L A1 c1 i B1 d1 i) (X:=(A1,i,c1)) (Y:=(B1,i,d1)) (N:=i) (M:=i) (F:=F) (G:=G) ?_;(repeat(first|with_reducible exact M1|with_reducible refine Md.drew ?_|with_reducible refine Md.al ?_ _));done);(case hr=>(repeat(first|(with_reducible refine FH ?_;simp;done)|with_reducible refine ag.drew ?_|with_reducible refine ag.alloc ?_ _));done);(case hB=>refine Md.size (w0:=J) (q:=k) (K:=k+1) (cs:=kJ R O L A1 c1 i B1 d1 i) (X:=(A1,i,c1)) (Y:=(B1,i,d1)) (N:=i) (M:=i) (F:=F) (G:=G) ?_ (Dg _);(repeat(first|with_reducible exact M1|with_reducible refine Md.drew ?_|with_reducible refine Md.al ?_ _));done);intro Aa ka wA oA hA;rw[IC]at oA;have MA:Md J k (k+1) (kJ R O L A1 c1 i B1 d1 i) (Aa,i+1,ka) (B1,i,d1) (i+1) i (F++[(x:Int)]) G wA:=(by refine Md.app1 (w0:=J) (q:=k) (K:=k+1) (cs:=kJ R O L A1 c1 i B1 d1 i) (X:=(A1,i,c1)) (Y:=(B1,i,d1)) (N:=i) (M:=i) (F:=F) (G:=G) ?_ oA hA;repeat(first|with_reducible exact M1|with_reducible refine Md.drew ?_|with_reducible refine Md.al ?_ _));have DA:an 196 wA g (ao q):=(by refine Md.rdApp1 (w0:=J) (q:=k) (K:=k+1) (cs:=kJ R O L A1 c1 i B1 d1 i) (X:=(A1,i,c1)) (Y:=(B1,i,d1)) (N:=i) (M:=i) (F:=F) (G:=G) ?hm (an.gr D1 ?hg) dc0 hA;(case hm=>(repeat(first|with_reducible exact M1|with_reducible refine Md.drew ?_|with_reducible refine Md.al ?_ _));done);(case hg=>(first|exact(B4 _).alloc _|exact((B4 _).alloc _).drew|exact((B4 _).drew.alloc _))));obtain⟨b0,b1,b2,b3⟩:=HC.o _ _ _ _ _ _ _ _ _ _ _ _ _ MA)));all_goals(go_wp2_with fail);(go_meet);exact⟨aa ⟨Aa,ka,MA.st 3 _⟩,aa (DA.far Il _)⟩);case rest=>obtain⟨La,Eq⟩:=hcut;obtain⟨A2,c2,Kf⟩:=La.o;have z:=aa Kf;clear La Kf HM HD y0 y1 x0 x1 x2 x3;obtain⟨x0,x1,x2,x3⟩:=HC.o _ _ _ _ _ _ _ _ _ _ _ _ _ z.o;(go_upto_region 7 with fail);(go_region_law (first|(go_simp;go_at_call 75;(refine Bo (Ks.o _ (an.gr Eq.o ?gx)) ?_);(case gx=>first|exact B4 _|exact(B4 _).drew);rintro e w1 ⟨rfl,D1,I⟩;have M1:Md J k (k+1) (kJ R O L A2 c2 (i+1) B1 d1 i) (A2,i+1,c2) (B1,i,d1) (i+1) i (F++[(x:Int)]) G w1:=(by first|exact z.o.rd (B4 _) Eq.o dc0 dc0 U j I|exact z.o.rd (B4 _).drew Eq.o dc0 dc0 U j I);obtain⟨a0,a1,a2,a3⟩:=HC.o _ _ _ _ _ _ _ _ _ _ _ _ _ M1;obtain⟨c0,Lp,Ln,c3⟩:=HC.o _ _ _ _ _ _ _ _ _ _ _ _ _ (M1.al (.cells #[sv] 9)))|(refine au (B:=k+1) (A0:=B1) (n0:=i) (cap0:=d1) (xs:=G.map aC) (A:=some ⟨w1.heap.size,0,none⟩) (n:=1) (c:=1) (vs:=[.string (bs sv)]) E.str rfl (.tmp 36) (.tmp 39) rfl ?hd ?ho ?hx (qc (T:=9) ?hr) (λh=>by cases h) (λu hu=>by simp at hu;subst hu;rfl) Lm m ?hB ?_;(case hd=>first|(simp[Act.eval];done)|(simp[Act.eval,Act.put];done));(case hx=>first|(simp[Act.eval];done)|(simp[Act.eval,Act.put];done));(case ho=>refine Md.own2 (w0:=J) (q:=k) (K:=k+1) (cs:=kJ R O L A2 c2 (i+1) B1 d1 i) (X:=(A2,i+1,c2)) (Y:=(B1,i,d1)) (N:=i+1) (M:=i) (F:=F++[(x:Int)]) (G:=G) ?_;(repeat(first|with_reducible exact M1|with_reducible refine Md.drew ?_|with_reducible refine Md.al ?_ _));done);(case hr=>(repeat(first|(with_reducible refine FH ?_;simp;done)|with_reducible refine ag.drew ?_|with_reducible refine ag.alloc ?_ _));done);(case hB=>refine Md.size (w0:=J) (q:=k) (K:=k+1) (cs:=kJ R O L A2 c2 (i+1) B1 d1 i) (X:=(A2,i+1,c2)) (Y:=(B1,i,d1)) (N:=i+1) (M:=i) (F:=F++[(x:Int)]) (G:=G) ?_ (Dg _);(repeat(first|with_reducible exact M1|with_reducible refine Md.drew ?_|with_reducible refine Md.al ?_ _));done);intro Bb kb wA oA hA;rw[IX]at oA;have MA:Md J k (k+1) (kJ R O L A2 c2 (i+1) B1 d1 i) (A2,i+1,c2) (Bb,i+1,kb) (i+1) (i+1) (F++[(x:Int)]) (G++[sv]) wA:=(by refine Md.app2 (w0:=J) (q:=k) (K:=k+1) (cs:=kJ R O L A2 c2 (i+1) B1 d1 i) (X:=(A2,i+1,c2)) (Y:=(B1,i,d1)) (N:=i+1) (M:=i) (F:=F++[(x:Int)]) (G:=G) ?_ oA hA;repeat(first|with_reducible exact M1|with_reducible refine Md.drew ?_|with_reducible refine Md.al ?_ _));have DA:an 196 wA g (aN 32 (ao q)):=(by refine Md.rdApp2 (w0:=J) (q:=k) (K:=k+1) (cs:=kJ R O L A2 c2 (i+1) B1 d1 i) (X:=(A2,i+1,c2)) (Y:=(B1,i,d1)) (N:=i+1) (M:=i) (F:=F++[(x:Int)]) (G:=G) ?hm (an.gr D1 ?hg) dc0 hA;(case hm=>(repeat(first|with_reducible exact M1|with_reducible refine Md.drew ?_|with_reducible refine Md.al ?_ _));done);(case hg=>(first|exact(B4 _).alloc _|exact((B4 _).alloc _).drew|exact((B4 _).drew.alloc _))));obtain⟨b0,b1,b2,b3⟩:=HC.o _ _ _ _ _ _ _ _ _ _ _ _ _ MA)));all_goals(go_wp2_with fail);(go_roundg (gk-1));(case rel=>exact⟨n-1,by go_num,om,om,aa ⟨i+1,aN 32 (ao q),F++[(x:Int)],G++[sv],Kw.o,DA.far Il _,_,_,_,_,MA.st 4 _⟩⟩);case measure=>omega);. (have Lt:((q.2:Int)==0)=false:=zc2);have Mp:=aa hq;clear hq;(go_wp2_with(go_at_call 74;refine Bo (s.o _ _ HD.o) ?_;rintro e w6 ⟨rfl,rfl⟩));(go_meet);exact aa ⟨q,F,G,i,y.o.bad Mp.o,Kt.o.1,Kt.o.2,y.o.each,HD.o,_,_,_,_,HM.o⟩);. obtain rfl:n=0:=om;have Lf:ab (j7 n0 q4=(F,G,q)):=aa y.o.done;(go_wp2_with fail);(go_meet);exact aa ⟨q,F,G,i,Lf.o,Kt.o.1,Kt.o.2,y.o.each,HD.o,_,_,_,_,HM.o⟩
 case rest=>obtain⟨q,F,G,N,h1,h2,h3,h4,hD,A1,c1,B1,d1,M0⟩:=hcut.o;have HR:=a.o q F G h1;obtain⟨S0,e1⟩:=M0.str;have B0:=M0.blk;rw[e1]at B0;obtain⟨y0,y1⟩:=Ky.o _ _ hD;have GX:Gr J wc:=M0.gr;(by_cases hq:q.2=0);(. have Lt:(q.2:Int)=0:=om;(by_cases hl:q.1.length=0);(. rw[if_pos ⟨hq,hl⟩]at HR;have Lg:ab (Calls Ao 103 #[.agg (aP ⟨R,O,L,F,G⟩ A1 c1 B1 d1)] wc λe w'=>e=.returned (.int .i64 (eR ⟨R,O,L,F,G⟩))/\Gr wc w'):=aa (Kc.o F G A1 c1 B1 d1 _ h2 h3 h4 S0);obtain⟨E,hE⟩:=zq (eR ⟨R,O,L,F,G⟩);rw[<-hE]at HR Lg;have Kz:=aa M0;clear Kc h1 h2 h3 h4 S0 e1 hE M0;by_cases Kh:E=0;(. subst Kh;rw[if_pos rfl]at HR;have HR:=aa HR;have Lq:¬(0:Int)<(q.1.length:Int):=om;(go_wp2_with(first|(go_at_call 74;refine Bo (s.o _ _ hD) ?_;rintro e w6 ⟨rfl,rfl⟩)|(go_at_call 76;refine Bo (Kj.o _ _ hD) ?_;rintro e w7 ⟨rfl,rfl⟩)|(go_at_call 103;refine Bo Lg.o ?_;rintro e w8 ⟨rfl,g8⟩;have B8:=B0.gr g8;have S:=GX.trans g8)|(refine az rfl 73 (.tmp 5) rfl (g:=k) rfl B0 cY ?_)|(refine az rfl 73 (.tmp 5) rfl (g:=k) rfl B8 cY ?_)|(refine ah rfl 73 (.tmp 2) (.tmp 57) rfl (g:=p) (cs':=aP ⟨R,O,L,F,G⟩ A1 c1 B1 d1) rfl rfl (HZ.o.gr S) cY rfl (ik _ _ _ _ _) ?_;intro w9 h9 Q)));refine bodyPost_ret (ai rfl _ rfl h9 cY) rfl ?_;rw[HR.o];obtain⟨l,s2⟩:=zL (r:=R) (o:=O) (n:=L) (aB (Kz.o.gr' g8).own1 (HZ.o.gr S) dc0 Q) (aB (Kz.o.gr' g8).own2 (HZ.o.gr S) dc0 Q);exact⟨A1,c1,B1,d1,rfl,F1 (aB (Kz.o.gr' g8).own1 (HZ.o.gr S) dc0 Q) (aB (Kz.o.gr' g8).own2 (HZ.o.gr S) dc0 Q) (by have h1:=f.o.1;have h2:=t.size;omega),Gr.only (t.trans S) Q Kd⟩);. rw[if_neg Kh]at HR;have HR:=aa HR;(have m0:(E !=0)=true:=zfx);clear Kh;have Lq:¬(0:Int)<(q.1.length:Int):=om;(go_wp2_with(first|(go_at_call 74;refine Bo (s.o _ _ hD) ?_;rintro e w6 ⟨rfl,rfl⟩)|(go_at_call 76;refine Bo (Kj.o _ _ hD) ?_;rintro e w7 ⟨rfl,rfl⟩)|(go_at_call 103;refine Bo Lg.o ?_;rintro e w8 ⟨rfl,g8⟩;have B8:=B0.gr g8;have S:=GX.trans g8)|(refine az rfl 73 (.tmp 5) rfl (g:=k) rfl B0 cY ?_)|(refine ah rfl 73 (.tmp 2) _ rfl (g:=p) (cs':=aP cv none 0 none 0) rfl rfl (HZ.o.gr S) cY rfl (ik _ _ _ _ _) ?_;intro w9 h9 Q)));refine bodyPost_ret (ai rfl _ rfl h9 cY) rfl ?_;rw[HR.o];exact⟨none,0,none,0,rfl,qy.zero _ _,Gr.only (t.trans S) Q Kd⟩);. have HR:ab (Kb=(cv,2)):=aa (by rw[HR,if_neg (λh=>hl h.2)]);clear h1 h2 h3 h4 S0 e1 M0 B0;have Lq:(0:Int)<(q.1.length:Int):=om;exact zaJ);. have HR:ab (Kb=(cv,2)):=aa (by rw[HR,if_neg (λh=>hq h.1)]);clear h1 h2 h3 h4 S0 e1 M0 B0;have Lt:¬(q.2:Int)=0:=om;exact zaJ
end
end Go.Proofs.YtdpombnelangjaaGreatDoor
