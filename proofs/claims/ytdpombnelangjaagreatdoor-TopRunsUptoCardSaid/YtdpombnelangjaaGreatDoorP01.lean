/- Lemmas for TopRuns; each states its conditions. -/
import Derived.Test.YtdpombnelangjaaGreatDoorM04
import Derived.Test.YtdpombnelangjaaGreatDoorM05
import Derived.Laws.MakeOwn
import Derived.Laws.BitsLemmas
namespace Go.Proofs.YtdpombnelangjaaGreatDoor
open Go.RowKit
set_option maxRecDepth 100000
set_option maxHeartbeats 64000000
set_option linter.unusedVariables false
open Go.Proofs.Tryz renaming prog → Ao
open Calls renaming mono → Bo
open Gr renaming refl → B4
open Nat renaming le_refl → Dg
section
def dQ:Y0->Y0->Nat
 |a::l,b::m=>if a=b then dQ l m+1 else 0
 |_,_=>0
theorem xU:∀(l m:Y0),dQ l m<=l.length/\dQ l m<=m.length
 |[],m=>by simp[dQ]
 |a::l,[]=>by simp[dQ]
 |a::l,b::m=>by
  have:=xU l m
  unfold dQ
  split<;>simp<;>omega
theorem wK (l m:Y0) (n:Nat) (h:n<=dQ l m):dQ l m=n+dQ (l.drop n) (m.drop n):=by
 induction n generalizing l m with|zero=>simp|succ n J=>(match l,m with|[],m=>simp[dQ]at h|a::l,[]=>simp[dQ]at h|a::l,b::m=>(have e0:dQ (a::l) (b::m)=if a=b then dQ l m+1 else 0:=rfl);rw[e0]at h⊢;by_cases e:a=b;(. rw[if_pos e]at h⊢;rw[J l m om];simp only[List.drop_succ_cons];omega);. rw[if_neg e]at h;omega)
theorem oR (l m:Y0) (n:Nat) (h:n<=dQ l m) (h1:∀(i:n<l.length) (j:n<m.length),l[n]≠m[n]):dQ l m=n:=by
 rw[wK l m n h];have:dQ (l.drop n) (m.drop n)=0:=by by_cases i:n<l.length;(. by_cases j:n<m.length;(. rw[List.drop_eq_getElem_cons i,List.drop_eq_getElem_cons j,dQ,if_neg (h1 i j)]);. rw[List.drop_eq_nil_of_le (by omega:m.length<=n)];cases l.drop n<;>rfl);. rw[List.drop_eq_nil_of_le (by omega:l.length<=n)];rfl
 omega
theorem Bi (l m:Y0) (n:Nat) (h:n<=dQ l m) (i:n<l.length) (j:n<m.length) (e:l[n]=m[n]):n+1<=dQ l m:=by
 rw[wK l m n h,List.drop_eq_getElem_cons i,List.drop_eq_getElem_cons j,dQ,if_pos e];omega
def lz (b:Y0) (i:Nat):Y0:=(b.drop i).take 8
def rF (b:Y0):Nat->Y0->Option Nat
 |0=>λ_=>none
 |k+1=>iO (rF b k) (lz b (b.length-8-k)) (b.length-8-k)
def gH (tg:Y0) (fr tt:Nat) (q:dS):dS:=if fr<tt then df ((tg.drop fr).take (tt-fr)) (aL (2*((tt:Int)-fr)) q)else q
def ml (b tg:Y0) (f:Y0->Option Nat) (i:Nat):Nat:=if(f (lz tg i)).isSome then dQ (b.drop ((f (lz tg i)).getD 0)) (tg.drop i)else 0
def nZ (b tg:Y0) (f:Y0->Option Nat):Nat->Nat->Nat->dS->Nat×dS
 |0,_,fr,q=>(fr,q)
 |k+1,i,fr,q=>
  if i+8<=tg.length then
   (if ml b tg f i<12 then nZ b tg f k (i+1) fr q
    else nZ b tg f k (i+ml b tg f i) (i+ml b tg f i) (aL (((f (lz tg i)).getD 0:Nat):Int) (aL (2*(ml b tg f i:Int)+1) (gH tg fr i q))))
  else(fr,q)
def uz (b tg:Y0):dS:=
 gH tg (nZ b tg (rF b (b.length-7)) (tg.length+1) 0 0 (aL tg.length (aL b.length ([],0)))).1 tg.length
  (nZ b tg (rF b (b.length-7)) (tg.length+1) 0 0 (aL tg.length (aL b.length ([],0)))).2
def dR (b tg:Y0):Y0×Int:=
 if 8192<b.length\/8192<tg.length then([],1)else(if(uz b tg).2=0 then(uz b tg).1 else[],((uz b tg).2:Int))
theorem Dz (b:Y0):∀(k:Nat) (l:Y0) (x:Nat),rF b k l=some x->x<=b.length
 |0,_,_,h=>by cases h
 |k+1,l,x,h=>by
  unfold rF iO at h
  split at h
  . injection h with h;omega
  . exact Dz b k l x h
theorem DT (b tg:Y0) (f:Y0->Option Nat) (i:Nat):ml b tg f i<=tg.length-i:=by
 unfold ml;split;. (have:=(xU (b.drop ((f (lz tg i)).getD 0)) (tg.drop i)).2);rwa [List.length_drop]at this
 . exact Nat.zero_le _
theorem dV (n:Int) (q:dS):(aL n q).1.length<=q.1.length+9:=by
 unfold aL;split;. have:=@gC n;simp only[List.length_append];omega
 . omega
theorem jJ (s:Y0) (q:dS):(df s q).1.length<=q.1.length+s.length:=by
 unfold df;split;. simp
 . omega
theorem sd (tg:Y0) (fr a:Nat) (q:dS) (h:fr<=a):(gH tg fr a q).1.length<=q.1.length+9+(a-fr):=by
 unfold gH;split;. have h1:=jJ ((tg.drop fr).take (a-fr)) (aL (2*((a:Int)-fr)) q);have h2:=dV (2*((a:Int)-fr)) q;(have h3:((tg.drop fr).take (a-fr)).length<=a-fr:=zeA);omega
 . omega
def nz (i fr:Nat) (q:dS):Prop:=fr<=i/\q.1.length<=40+fr+3*i
theorem nz.start (a b:Int):nz 0 0 (aL a (aL b ([],0))):=by
 have h1:=dV a (aL b ([],0));have h2:=dV b ([],0);simp only[List.length_nil]at h2;exact⟨Dg _,om⟩
theorem nz.step {i fr:Nat} {q:dS} (h:nz i fr q):nz (i+1) fr q:=⟨by have:=h.1;omega,by have:=h.2;omega⟩
theorem nz.copy {i fr n:Nat} {q:dS} (h:nz i fr q) (tg:Y0) (x y:Int) (hn:12<=n):nz (i+n) (i+n) (aL x (aL y (gH tg fr i q))):=by
 have h1:=dV x (aL y (gH tg fr i q));have h2:=dV y (gH tg fr i q);have h3:=sd tg fr i q h.1
 have h4:=h.2
 have h5:=h.1
 exact⟨Dg _,om⟩
def rC (b tg:Y0) (f:Y0->Option Nat) (R:Nat×dS) (i fr:Nat) (q:dS):Prop:=∃k,tg.length<i+k/\R=nZ b tg f k i fr q
section
variable{b tg:Y0} {f:Y0→Option Nat} {R:Nat×dS} {i fr:Nat} {q:dS}
theorem rC.done (h:rC b tg f R i fr q) (hi:¬i+8<=tg.length):R=(fr,q):=by
 obtain⟨k,_,h⟩:=h;cases k with|zero=>rw[h];rfl|succ k=>rw[h,nZ,if_neg hi]
theorem rC.step (h:rC b tg f R i fr q) (hi:i+8<=tg.length) (hn:ml b tg f i<12):rC b tg f R (i+1) fr q:=by
 obtain⟨k,hk,h⟩:=h;obtain⟨k,rfl⟩:∃j,k=j+1:=⟨k-1,om⟩;exact⟨k,om,by rw[h,nZ,if_pos hi,if_pos hn]⟩
theorem rC.copy (h:rC b tg f R i fr q) (hi:i+8<=tg.length) (hn:¬ml b tg f i<12):rC b tg f R (i+ml b tg f i) (i+ml b tg f i) (aL (((f (lz tg i)).getD 0:Nat):Int) (aL (2*(ml b tg f i:Int)+1) (gH tg fr i q))):=by
 obtain⟨k,hk,h⟩:=h;obtain⟨k,rfl⟩:∃j,k=j+1:=⟨k-1,om⟩;exact⟨k,om,by rw[h,nZ,if_pos hi,if_neg hn]⟩
end
end
section
def qr (will:Nat) (out:Y0):Y0×Nat:=if out.length=will then(out,0)else([],2)
def bR (base:Y0) (will:Nat):Nat->St->Y0->Y0×Nat
 |0,_,out=>qr will out
 |f+1,q,out=>
  if q.1=[]then qr will out
  else if aD q%2=0 then
   (if(aN ((aD q/2:Nat):Int) (ao q)).2≠0\/aD q/2=0\/will<out.length+(cu ((aD q/2:Nat):Int) (ao q)).length then([],2)
   else bR base will f (aN ((aD q/2:Nat):Int) (ao q)) (out++cu ((aD q/2:Nat):Int) (ao q)))
  else if(ao (ao q)).2≠0 then([],2)
  else if base.length<aD (ao q)\/base.length-aD (ao q)<aD q/2 then([],3)
  else if aD q/2=0\/will<out.length+aD q/2 then([],2)
  else bR base will f (ao (ao q)) (out++dm base (aD (ao q)) (aD (ao q)+aD q/2))
def fJ (base d:Y0):Y0×Nat:=
 if(ao (ao (d,0))).2≠0 then([],2)
 else if aD (d,0)≠base.length then([],11)
 else if 8192<aD (ao (d,0))then([],1)
 else bR base (aD (ao (d,0))) (ao (ao (d,0))).1.length (ao (ao (d,0))) []
section
variable{base:Y0} {will f:Nat} {q:St} {out:Y0}
theorem rB (h:q.1=[]):bR base will f q out=qr will out:=by
 cases f with|zero=>rfl|succ f=>rw[bR,if_pos h]
theorem yX (h:q.1≠[]) (h0:aD q%2=0) (h1:(aN ((aD q/2:Nat):Int) (ao q)).2≠0\/aD q/2=0\/will<out.length+(cu ((aD q/2:Nat):Int) (ao q)).length):bR base will (f+1) q out=([],2):=by
 rw[bR,if_neg h,if_pos h0,if_pos h1]
theorem yR (h:q.1≠[]) (h0:aD q%2=0) (h1:¬((aN ((aD q/2:Nat):Int) (ao q)).2≠0\/aD q/2=0\/will<out.length+(cu ((aD q/2:Nat):Int) (ao q)).length)):bR base will (f+1) q out=bR base will f (aN ((aD q/2:Nat):Int) (ao q)) (out++cu ((aD q/2:Nat):Int) (ao q)):=by
 rw[bR,if_neg h,if_pos h0,if_neg h1]
theorem yw (h:q.1≠[]) (h0:¬aD q%2=0) (h1:(ao (ao q)).2≠0):bR base will (f+1) q out=([],2):=by
 rw[bR,if_neg h,if_neg h0,if_pos h1]
theorem yF (h:q.1≠[]) (h0:¬aD q%2=0) (h1:(ao (ao q)).2=0) (h2:base.length<aD (ao q)\/base.length-aD (ao q)<aD q/2):bR base will (f+1) q out=([],3):=by
 rw[bR,if_neg h,if_neg h0,if_neg zfX,if_pos h2]
theorem yG (h:q.1≠[]) (h0:¬aD q%2=0) (h1:(ao (ao q)).2=0) (h2:¬(base.length<aD (ao q)\/base.length-aD (ao q)<aD q/2)) (h3:aD q/2=0\/will<out.length+aD q/2):bR base will (f+1) q out=([],2):=by
 rw[bR,if_neg h,if_neg h0,if_neg zfX,if_neg h2,if_pos h3]
theorem wV (h:q.1≠[]) (h0:¬aD q%2=0) (h1:(ao (ao q)).2=0) (h2:¬(base.length<aD (ao q)\/base.length-aD (ao q)<aD q/2)) (h3:¬(aD q/2=0\/will<out.length+aD q/2)):bR base will (f+1) q out=bR base will f (ao (ao q)) (out++dm base (aD (ao q)) (aD (ao q)+aD q/2)):=by
 rw[bR,if_neg h,if_neg h0,if_neg zfX,if_neg h2,if_neg h3]
end
theorem I6 {l:Y0} (h:gE l=0):0<gK l:=by
 rcases hg:lo l with _|⟨n,k⟩;. rw[(sX hg).2.2]at h;omega
 . rw[(mK hg).2.1];exact(sD hg).2.1
theorem o0 (q:St):(ao q).1.length<=q.1.length:=by
 exact zbT
theorem Gw {q:St} (h:q.2=0) (h1:q.1≠[]) (h2:(ao q).2=0):(ao q).1.length<q.1.length:=by
 unfold ao at h2⊢;rw[if_pos h]at h2⊢;have:=I6 h2;have:0<q.1.length:=List.length_pos_iff.2 h1
 simp;omega
theorem qM (q:St):aD q<4611686018427387904:=by
 unfold aD;split;. exact vB _
 . omega
theorem Ep (n:Int) (q:St):(aN n q).1.length<=q.1.length:=by
 unfold aN;split;. split;(. simp);. exact Dg _
 . exact Dg _
theorem Hn {n:Nat} {q:St} (h:(aN (n:Int) q).2=0):q.2=0/\n<=q.1.length/\cu (n:Int) q=q.1.take n/\(cu (n:Int) q).length=n/\aN (n:Int) q=(q.1.drop n,0):=by
 unfold aN at h;by_cases h0:q.2=0
 . rw[if_pos h0]at h;(by_cases h1:0<=(n:Int)/\(n:Int)<=q.1.length);(. (have hn:n<=q.1.length:=om);refine⟨h0,hn,by simp[cu,h0,hn],by simp[cu,h0,hn],by simp[aN,h0,hn]⟩);. rw[if_neg h1]at h;simp at h
 . rw[if_neg h0]at h;exact absurd h h0
theorem xh (n:Int) (q:St):(cu n q).length<=q.1.length:=by
 unfold cu;split;. simp;omega
 . simp
theorem EZ {q:St} (h:q.2≠0):(ao q).2≠0/\aD q=0:=by simp[ao,aD,h]
theorem yT (base:Y0) (will:Nat):∀(f:Nat) (q:St) (out:Y0),will<=8192->(bR base will f q out).1.length<=8192/\(bR base will f q out).2<=3:=by
 have hd:∀out:Y0,will<=8192->(qr will out).1.length<=8192/\(qr will out).2<=3:=by intro out hw;unfold qr;split;(. exact⟨by simp only;omega,by simp⟩);. simp
 intro f;induction f with|zero=>intro q out hw;exact hd out hw|succ f J=>intro q out hw;rw[bR];split;(. exact hd out hw);. split;(. split;(. simp);. exact J _ _ hw);. split;(. simp);. split;(. simp);. split;(. simp);. exact J _ _ hw
theorem AC (base d:Y0):(fJ base d).1.length<=8192/\(fJ base d).2<=11:=by
 unfold fJ;split;. simp
 . split;(. simp);. split;(. simp);. rename_i h;(have:=yT base (aD (ao (d,0))) (ao (ao (d,0))).1.length (ao (ao (d,0))) [] om);omega
end
def dl (out:List (Y0)):Y0->Option (Y0):=out.foldl (λf x=>iO f (aj x) x) (λ_=>none)
theorem p6 (out:List (Y0)) (i:Nat) (h:i<out.length):dl (out.take (i+1))=iO (dl (out.take i)) (aj out[i]) out[i]:=by
 unfold dl;exact zb9
theorem sa:∀(out:List (Y0)) {id x:Y0},dl out id=some x->x∈out:=by
 intro out;have key:∀(l:List (Y0)) (f:Y0->Option (Y0)) (id x:Y0),l.foldl (λf x=>iO f (aj x) x) f id=some x->x∈l\/f id=some x:=by intro l;induction l with|nil=>intro f id x h;exact .inr h|cons a r J=>(intro f id x h;rcases J _ id x h with h|h;(. exact .inl (List.mem_cons_of_mem _ h));. simp only[iO]at h;split at h;(. injection h with h;subst h;exact .inl (by simp));. exact .inr h)
 intro id x h;rcases key out _ id x h with h|h;. exact h
 . cases h
def ru (q:St) (base:Y0) (depth:Nat):(Y0×Nat×Nat)×St:=
 if(aS q).2≠0 then(([],0,2),aS q)else if 8<=depth then(([],0,10),aS q)else(((fJ base (cx q)).1,depth+1,(fJ base (cx q)).2),aS q)
def zI (q:St):(Y0×Nat×Nat)×St:=
 if(aN (aD q:Int) (ao q)).2≠0 then(([],0,2),aN (aD q:Int) (ao q))else((cu (aD q:Int) (ao q),0,0),aN (aD q:Int) (ao q))
def zU (L:List (Y0×Nat)) (q:St):(Y0×Nat×Nat)×St:=
 if(ao q).2≠0 then(([],0,2),ao q)else(match L[aD q]? with|none=>(([],0,3),ao q)|some x=>ru (ao q) x.1 x.2)
def zj (F:Y0->Option (Y0)) (q:St):(Y0×Nat×Nat)×St:=
 if(aN 32 q).2≠0 then(([],0,2),aN 32 q)else(match F (cu 32 q)with|none=>(([],0,11),aN 32 q)|some x=>ru (aN 32 q) x 0)
def kh (F:Y0->Option (Y0)) (L:List (Y0×Nat)) (q:St):(Y0×Nat×Nat)×St:=
 if(ao q).2≠0\/2<aD q then(([],0,2),ao q)
 else if aD q=0 then zI (ao q)
 else if aD q=1 then zU L (ao q)
 else zj F (ao q)
def jf (F:Y0->Option (Y0)):Nat->List (Y0×Nat)->St->List (Y0)×Int
 |0,L,q=>if q.1.length=0 then(L.map (·.1),0)else([],2)
 |n+1,L,q=>
  if(kh F L q).1.2.2≠0 then([],((kh F L q).1.2.2:Int))
  else if(cO (kh F L q).1.1).2≠0 then([],(cO (kh F L q).1.1).2)
  else if(kh F L q).1.1∈L.map (·.1)then([],8)
  else jf F n (L++[((kh F L q).1.1,(kh F L q).1.2.1)]) (kh F L q).2
def mj (b:Y0) (out:List (Y0)):List (Y0)×Int:=
 if b.length<33\/b.take 1≠[80]then([],2)
 else if aj (b.take (b.length-32))≠b.drop (b.length-32)then([],5)
 else if(ao (dm b 1 (b.length-32),0)).2≠0 then([],2)
 else if 400<aD (dm b 1 (b.length-32),0)then([],6)
 else jf (dl out) (aD (dm b 1 (b.length-32),0)) [] (ao (dm b 1 (b.length-32),0))
structure ue (L:List (Y0×Nat)):Prop where
 len:∀x∈L,x.1.length<=8192
 deep:∀x∈L,x.2<=8
theorem qG {s:Y0} (h:(cO s).2=0):s.length<=8192:=by
 unfold cO at h;split at h;. cases h
 . omega
structure xd (k:Nat) (r:(Y0×Nat×Nat)×St):Prop where
 deep:r.1.2.1<=8
 len:r.1.1.length<=k
 left:r.2.1.length<=k
 err:r.1.2.2<=11
theorem Cx {q:St} {base:Y0} {a k:Nat} (hq:q.1.length<=k) (h8:8192<=k):xd k (ru q base a):=by
 have h1:=mQ q;have h3:=AC base (cx q);unfold ru;split;. exact zaT
 . split;(. exact zaT);. exact⟨by simp only;omega,by simp only;omega,by simp only;omega,h3.2⟩
theorem I3 {q:St} {k:Nat} (hq:q.1.length<=k):xd k (zI q):=by
 have h1:=fU q;have h2:=kn (aD q:Int) (ao q);have h3:=xh (aD q:Int) (ao q);unfold zI;split;. exact zaT
 . exact⟨by simp,by simp only;omega,by simp only;omega,by simp⟩
theorem Ja {L:List (Y0×Nat)} {q:St} {k:Nat} (hq:q.1.length<=k) (h8:8192<=k):xd k (zU L q):=by
 have h1:=fU q;unfold zU;exact zdi
theorem Is {F:Y0->Option (Y0)} {q:St} {k:Nat} (hq:q.1.length<=k) (h8:8192<=k):xd k (zj F q):=by
 have h1:=kn 32 q;unfold zj;exact zdi
theorem CD {F:Y0->Option (Y0)} {L:List (Y0×Nat)} {q:St} {k:Nat} (hq:q.1.length<=k) (h8:8192<=k):xd k (kh F L q):=by
 have h1:=fU q;unfold kh;split;. exact zaT
 . split;(. exact I3 om);. split;(. exact Ja om h8);. exact Is om h8
theorem ue.add {L:List (Y0×Nat)} (h:ue L) {s:Y0} {d:Nat} (hs:(cO s).2=0) (hd:d<=8):ue (L++[(s,d)]):=by
 refine⟨λx hx=>?_,λx hx=>?_⟩;. (rcases List.mem_append.1 hx with hx|hx);(. exact h.len x hx);. simp only[List.mem_singleton]at hx;subst hx;exact qG hs
 . (rcases List.mem_append.1 hx with hx|hx);(. exact h.deep x hx);. simp only[List.mem_singleton]at hx;subst hx;exact hd
theorem zv (F:Y0->Option (Y0)):∀(n:Nat) (L:List (Y0×Nat)) (q:St),(jf F n L q).1.length<=L.length+n
 |0,L,q=>by
  rw[jf]
  split<;>simp
 |n+1,L,q=>by
  rw[jf]
  split
  . simp
  . split
    . simp
    . split
      . simp
      . have:=zv F n (L++[((kh F L q).1.1,(kh F L q).1.2.1)]) (kh F L q).2
        simp only[List.length_append,List.length_cons,List.length_nil]at this
        omega
abbrev Ch:=Nat×Nat×Y0
def ox (s:Y0) (l:List (Y0)) (deep:List Nat) (i:Nat) (c:Ch):Ch:=
 if(dR (l.getD i []) s).2=0/\deep.getD i 0<8/\(dR (l.getD i []) s).1.length+2<c.2.2.length/\(dR (l.getD i []) s).1.length<=4096 then(1,i,(dR (l.getD i []) s).1)else c
def pU (s:Y0) (out:List (Y0)) (i:Nat) (c:Ch):Ch:=
 if(dR (out.getD i []) s).2=0/\(dR (out.getD i []) s).1.length+32<c.2.2.length/\(dR (out.getD i []) s).1.length<=4096 then(2,i,(dR (out.getD i []) s).1)else c
def rv {α:Type} (F:Nat->α->α):Nat->Nat->α->α
 |0,_,c=>c
 |k+1,i,c=>rv F k (i+1) (F i c)
def dy (s:Y0) (l:List (Y0)) (deep:List Nat) (out:List (Y0)):Ch:=
 rv (pU s out) (out.length-(out.length-10)) (out.length-10) (rv (ox s l deep) (l.length-(l.length-10)) (l.length-10) (0,0,s))
theorem ud {α:Type} (F:Nat->α->α) (P:α->Prop) (n:Nat) (h:∀i c,i<n->P c->P (F i c)):∀(k i:Nat) (c:α),i+k<=n->P c->P (rv F k i c)
 |0,_,_,_,hc=>hc
 |k+1,i,c,hk,hc=>ud F P n h k (i+1) (F i c) om (h i c om hc)
def yg (s:Y0) (n m:Nat) (c:Ch):Prop:=c.2.2.length<=s.length/\(c=(0,0,s)\/(c.1=1/\c.2.1<n/\c.2.2.length<=4096)\/(c.1=2/\c.2.1<m/\c.2.2.length<=4096))
theorem Ih {s:Y0} {l:List (Y0)} {deep:List Nat} {m i:Nat} {c:Ch} (hi:i<l.length) (h:yg s l.length m c):yg s l.length m (ox s l deep i c):=by
 unfold ox;split;. rename_i h1;exact⟨by have:=h.1;show(dR (l.getD i []) s).1.length<=_;omega,.inr (.inl ⟨rfl,hi,h1.2.2.2⟩)⟩
 . exact h
theorem Iv {s:Y0} {out:List (Y0)} {n i:Nat} {c:Ch} (hi:i<out.length) (h:yg s n out.length c):yg s n out.length (pU s out i c):=by
 unfold pU;split;. rename_i h1;exact⟨by have:=h.1;show(dR (out.getD i []) s).1.length<=_;omega,.inr (.inr ⟨rfl,hi,h1.2.2⟩)⟩
 . exact h
theorem Ew (s:Y0) (l:List (Y0)) (deep:List Nat) (out:List (Y0)):yg s l.length out.length (dy s l deep out):=by
 unfold dy;refine ud _ _ out.length (λi c hi hc=>Iv hi hc) _ _ _ om ?_;refine ud _ _ l.length (λi c hi hc=>Ih hi hc) _ _ _ om ?_;exact⟨Dg _,.inl rfl⟩
def mM:List (Y0)->List (Y0)->Int
 |_,[]=>0
 |a,s::r=>if(cO s).2=0 then(if s∈a then 8 else mM (a++[s]) r)else(cO s).2
abbrev rz:=List Nat×dS
def mL (l out:List (Y0)) (i:Nat) (st:rz):rz:=
 if(dy (l.getD i []) (l.take i) st.1 out).1=0 then(st.1,df (l.getD i []) (aL ((l.getD i []).length:Int) (aL ((dy (l.getD i []) (l.take i) st.1 out).1:Int) st.2)))
 else if(dy (l.getD i []) (l.take i) st.1 out).1=1 then
  (st.1.set i (st.1.getD (dy (l.getD i []) (l.take i) st.1 out).2.1 0+1),bX (dy (l.getD i []) (l.take i) st.1 out).2.2 (aL ((dy (l.getD i []) (l.take i) st.1 out).2.1:Int) (aL ((dy (l.getD i []) (l.take i) st.1 out).1:Int) st.2)))
 else(st.1.set i 1,bX (dy (l.getD i []) (l.take i) st.1 out).2.2 (df (aj (out.getD (dy (l.getD i []) (l.take i) st.1 out).2.1 [])) (aL ((dy (l.getD i []) (l.take i) st.1 out).1:Int) st.2)))
def mY (l out:List (Y0)):rz:=rv (mL l out) l.length 0 (List.replicate l.length 0,aL (l.length:Int) (df [80] ([],0)))
def fV (l out:List (Y0)):Y0×Int:=
 if 400<l.length\/400<out.length then([],6)
 else if mM [] l=0 then(if(mY l out).2.2=0 then((mY l out).2.1++aj (mY l out).2.1,0)else([],((mY l out).2.2:Int)))
 else([],mM [] l)
def ya (s:aF) (q:dS):dS:=bX s.n (bX s.o (bX s.r q))
def iY (s:aF) (q:dS):Nat->dS
 |0=>q
 |1=>bX s.r q
 |2=>bX s.o (bX s.r q)
 |_=>ya s q
def rJ (s:aF):Nat->Y0
 |0=>s.r
 |1=>s.o
 |_=>s.n
theorem sW (s:aF) (q:dS) (i:Nat) (h:i<3):iY s q (i+1)=bX (rJ s i) (iY s q i):=by
 match i,h with|0,_=>rfl|1,_=>rfl|2,_=>rfl
theorem jy (t:Y0) (q:dS):(bX t q).1.length<=q.1.length+4105:=by
 unfold bX;split;. split;(. rename_i h;exact zb1);. simp only;omega
 . omega
theorem uM (s:aF) (q:dS):∀i,(iY s q i).1.length<=q.1.length+12315
 |0=>by show q.1.length<=_;omega
 |1=>by have:=jy s.r q;show(bX s.r q).1.length<=_;omega
 |2=>by
  have h1:=jy s.r q
  have h2:=jy s.o (bX s.r q)
  show(bX s.o (bX s.r q)).1.length<=_
  omega
 |n+3=>by
  have h1:=jy s.r q
  have h2:=jy s.o (bX s.r q)
  have h3:=jy s.n (bX s.o (bX s.r q))
  show(bX s.n (bX s.o (bX s.r q))).1.length<=_
  omega
theorem GI {at_:Int} (s:aF) (h0:0<=at_) (h1:at_<=199):(if(ya s (aZ at_,0)).2=0 then(ya s (aZ at_,0)).1 else[],((ya s (aZ at_,0)).2:Int))=cL at_ s:=by
 have hB:cL at_ s=if 4096<s.r.length\/4096<s.o.length\/4096<s.n.length then([],1)else(aZ at_++txt s.r++txt s.o++txt s.n,0):=by unfold cL;rw[if_neg (show¬(at_<0\/199<at_) by omega)]
 have no:∀(l t:Y0),bX t (l,1)=(l,1):=λl t=>by unfold bX;rw[if_neg (show¬(1:Nat)=0 by omega)]
 have yes:∀(l t:Y0),t.length<=4096->bX t (l,0)=(l++txt t,0):=λl t h=>by unfold bX;rw[if_pos rfl,if_pos h]
 have d:∀(l t:Y0),¬t.length<=4096->bX t (l,0)=(l,1):=λl t h=>by unfold bX;rw[if_pos rfl,if_neg h]
 have bad:∀l:Y0,(if(l,(1:Nat)).2=0 then(l,(1:Nat)).1 else([]:Y0),((l,(1:Nat)).2:Int))=(([]:Y0),(1:Int)):=λl=>rfl;rw[hB];unfold ya;by_cases a:s.r.length<=4096;. rw[yes _ _ a];by_cases b:s.o.length<=4096;(. rw[yes _ _ b];by_cases c:s.n.length<=4096;(. rw[yes _ _ c,if_neg (show¬(4096<s.r.length\/4096<s.o.length\/4096<s.n.length) by omega)];rfl);. rw[d _ _ c,bad,if_pos (show 4096<s.r.length\/4096<s.o.length\/4096<s.n.length by omega)]);. rw[d _ _ b,no,bad,if_pos (show 4096<s.r.length\/4096<s.o.length\/4096<s.n.length by omega)]
 . rw[d _ _ a,no,no,bad,if_pos (show 4096<s.r.length\/4096<s.o.length\/4096<s.n.length by omega)]
theorem tu (at_:Int) (s:aF) (A:Yy) (c:Nat) (B:Yy) (d:Nat) (w:World) (hz:dJ 1099511627776 s):Calls Ao 125 #[at_,.agg (aP s A c B d)] w λe w'=>e=.returned (.tuple #[.string (bs (cL at_ s).1),.int .i64 (cL at_ s).2])/\Gr w w':=by
 obtain⟨J,H⟩:=zq (w.alloc (.cells (aP s A c B d) 73));have hb:ag J w.heap.size 73 (aP s A c B d):=zeM
 have t:Gr w J:=zc5
 obtain⟨p,V⟩:=zq (w.heap.size);rw[<-V]at hb;by_cases hr:at_<0\/199<at_;. have HR:ab (cL at_ s=([],3)):=aa (by unfold cL;rw[if_pos hr]);rw[HR.o];unfold aP at H;unfold aP;by_cases h0:at_<0;(. have q0:decide (at_<0)=true:=decide_eq_true h0;exact zbh);. have q0:decide (at_<0)=false:=decide_eq_false h0;have q1:decide (200<=at_)=true:=decide_eq_true om;exact zbh
 . have q0:decide (at_<0)=false:=decide_eq_false om;have q1:decide (200<=at_)=false:=decide_eq_false om;have f:=aa (GI (at_:=at_) s om om);(have y:(aZ at_).length<=9:=zgY);have o:=aa (uM s (aZ at_,0));have j:=aa (sW s (aZ at_,0));have Km:ab (∀B g w,bf w B g ([],0)->Calls Ao 63 #[.pointer (some ⟨g,0,none⟩),at_] w λe w'=>e=.returned (.tuple #[])/\bf w' B g (iY s (aZ at_,0) 0)/\Below B w w'/\bY g w w'):=aa (λB g w h=>by have:=jB B g ([],0) at_ w h (by simp);(have e:aL at_ ([],0)=(aZ at_,0):=by unfold aL;rw[if_pos rfl,if_pos ⟨om,om⟩];rfl);rwa [e]at this);have Ka:ab (∀B g w i,i<3->bf w B g (iY s (aZ at_,0) i)->Calls Ao 64 #[.pointer (some ⟨g,0,none⟩),rJ s i] w λe w'=>e=.returned (.tuple #[])/\bf w' B g (iY s (aZ at_,0) (i+1))/\Below B w w'/\bY g w w'):=aa (λB g w i hi h=>by have:=qp B g _ (rJ s i) w h (by have:=o.o i;simp only at this;omega);rwa [<-j.o i hi]at this);have M:ab (∀B g w,bf w B g (iY s (aZ at_,0) 3)->Calls Ao 66 #[.pointer (some ⟨g,0,none⟩)] w λe w'=>e=.returned (.tuple #[.string (bs (cL at_ s).1),.int .i64 (cL at_ s).2])/\Gr w w'):=aa (λB g w h=>by have:=mO B g _ w h;have e:=f.o;have e1:=congrArg Prod.fst e;have e2:=congrArg Prod.snd e;simp only at e1 e2;rw[<-e1,<-e2];exact this);have Kp:ab (∀w1:World,bf (w1.alloc (.cells #[n_,i0] 125)) w1.heap.size w1.heap.size ([],0)):=aa (λw1=>⟨⟨none,0,ag.new w1 _ _,World.ownsRow_nil _ _ _ _⟩,Dg _,by simp⟩);obtain⟨R,a⟩:=zq (cL at_ s);rw[<-a]at M;rw[<-a];obtain⟨T,hT⟩:=zq (iY s (aZ at_,0));rw[<-hT]at Km Ka M;have HB:=aa hb;clear hr hb f y o j a hT hz;unfold aP at H;unfold aP;(go_enter Tryz.func125,Tryz.ntmps125);(go_upto_region 3 with fail);rw[<-H,<-V];clear H V;(go_wp2_with(go_at_call 63;refine Bo (Km.o J.heap.size J.heap.size _ (Kp.o J)) ?_;rintro e w2 ⟨rfl,d2,k2,_⟩;have Z:Gr J w2:=Below.trans ((B4 J).alloc _) k2;have y0:w2.cell? (p,0)=s.r:=(HB.o.gr Z).cell 0;have y1:w2.cell? (p,1)=s.o:=(HB.o.gr Z).cell 1;have y2:w2.cell? (p,2)=s.n:=(HB.o.gr Z).cell 2));have hv:=ag.new w2 9 #[s.r,s.o,s.n];have dv:=d2.gr ((B4 w2).alloc (.cells #[s.r,s.o,s.n] 9));have gv:=Z.alloc (.cells #[s.r,s.o,s.n] 9);(have L:w2.heap.size≠J.heap.size:=by have:=d2.ex;obtain⟨_,_,h,_⟩:=this;have:=h.lt;omega);obtain⟨wb,Kn⟩:=zq (w2.alloc (.cells #[s.r,s.o,s.n] 9));obtain⟨v,b⟩:=zq (w2.heap.size);obtain⟨g,r⟩:=zq (J.heap.size);rw[<-Kn]at hv dv gv;rw[<-b]at hv L;rw[<-r]at dv L;rw[<-Kn,<-b,<-r];have HG:=aa r;clear Kn b r y0 y1 y2 d2 k2 Z;(go_loopg [28,8] 3 (λfuel iv _ wr=>∃i:Nat,iv=.int .i64 (i:Int)/\3<=i+fuel/\i<=3/\bf wr g g (T i)/\ag wr v 9 #[s.r,s.o,s.n]/\Gr J wr));(case atStart=>exact⟨0,rfl,om,om,dv,hv,gv⟩);case round=>clear hv dv gv;obtain⟨i,rfl,Kj,hi,F,n,C⟩:=hrel;by_cases h3:i<3;(. have m:=Ka.o g g wr i h3 F;(have hc:wr.cell? ⟨v,i,none⟩=rJ s i:=zcU);have u:=aa m;have Ki:(i:Int)<3:=om;have H3:=aa h3;clear m h3;(go_wp2_with(go_at_call 64;refine Bo u.o ?_;rintro e w3 ⟨rfl,d3,k3,z⟩));(go_roundg (gk-1));(case rel=>exact⟨i+1,by go_num,om,by have:=H3.o;omega,d3,z v _ _ L dc0 n,by rw[HG.o]at k3;exact Below.trans C k3⟩);case measure=>have:=H3.o;omega);. obtain rfl:i=3:=om;clear h3 Kj;(go_wp2_with(go_at_call 66;refine Bo (M.o _ _ _ F) ?_;rintro e w4 ⟨rfl,g4⟩));go_ret2;exact⟨rfl,t.trans (C.trans g4)⟩
theorem DS (b:Y0) (w:World) (hb:b.length<=1099511627776):Calls Ao 148 #[b] w λe w'=>e=.returned (.tuple #[.agg (a7 (gQ b).1 (gQ b).2.1),.int .i64 (gQ b).2.2])/\Gr w w':=by
 have Ld:ab (∀w,Calls Ao 71 #[b] w λe w'=>e=.returned (.pointer (some ⟨w.heap.size,0,none⟩))/\an 196 w' w.heap.size (b,0)/\Gr w w'):=aa (λw=>kY b w om);obtain⟨n1,Nb⟩:=zq (aD (b,0));obtain⟨q1,Kg⟩:=zq (ao (b,0));obtain⟨r1,Ly⟩:=zq (cu 32 q1);obtain⟨q2,Kk⟩:=zq (aN 32 q1);have Km:ab (∀g w,an 196 w g (b,0)->Calls Ao 72 #[.pointer (some ⟨g,0,none⟩)] w λe w'=>e=.returned n1/\an 196 w' g q1/\w.grownBy w' (some g)):=aa (λg w h=>by rw[Nb,Kg];exact aW g (b,0) w h);have Ko:ab (∀g w,an 196 w g q1->Calls Ao 75 #[.pointer (some ⟨g,0,none⟩),.int .i64 32] w λe w'=>e=.returned r1/\an 196 w' g q2/\w.grownBy w' (some g)):=aa (λg w h=>by rw[Ly,Kk];exact iE g q1 32 w h om);have s:ab (∀g w,an 196 w g q2->Calls Ao 74 #[.pointer (some ⟨g,0,none⟩)] w λe w'=>e=.returned q2.2/\w=w'):=aa (λg w h=>dD g q2 w h);have Kj:ab (∀g w,an 196 w g q2->Calls Ao 76 #[.pointer (some ⟨g,0,none⟩)] w λe w'=>e=.returned q2.1.length/\w=w'):=aa (λg w h=>eS g q2 w h);have N:r1.length<=b.length/\r1.length<=32:=by rw[Ly];unfold cu;split;(. rename_i h;(have:(32:Int).toNat=32:=rfl);rw[List.length_take,this];(have hq:q1.1.length<=b.length:=by rw[Kg];unfold ao;simp);omega);. simp
 have HG:ab (∀w,Calls Ao 170 #[.agg (a7 (n1:Int) r1)] w λe w'=>e=.returned (.int .i64 (ij (n1:Int) r1))/\Gr w w'):=aa (λw=>uC (n1:Int) r1 w om);have a:ab ((q2.2=0/\q2.1.length=0/\gQ b=(if ij (n1:Int) r1=0 then((n1:Int),r1,0)else(0,[],ij (n1:Int) r1)))\/((q2.2≠0\/0<q2.1.length)/\gQ b=(0,[],2))):=aa (by by_cases h:gE b=0/\b.length-gK b=32;(. obtain⟨e1,e2,e3⟩:=If h;left;rw[Kk,Kg,e3,Nb,Ly,Kg,e1,e2];refine⟨rfl,rfl,?_⟩;unfold gQ;rw[if_pos h]);. right;rw[Kk,Kg];exact⟨Jo h,by unfold gQ;rw[if_neg h]⟩);clear Nb Kg Ly Kk N;unfold a7 at HG;unfold a7;have t:=ag.new w 24 #[i0,s_];have o:=(B4 w).alloc (.cells #[i0,s_] 24)
 have n:(w.alloc (.cells #[i0,s_] 24)).heap.size=w.heap.size+1:=by simp
 obtain⟨J,H⟩:=zq (w.alloc (.cells #[i0,s_] 24));obtain⟨p,V⟩:=zq (w.heap.size);rw[<-H]at t o n;rw[<-V]at t n;have HZ:=aa t;have x:=aa o;have Kd:w.heap.size<=p:=om;obtain⟨g,hg⟩:=zq (J.heap.size);have z:g=p+1:=om;have m:ab (Calls Ao 71 #[b] J λe w'=>e=.returned (g,0)/\an 196 w' g (b,0)/\Gr J w'):=aa (by rw[hg];exact Ld.o J);have B:=aa hg;clear t o n Ld hg hb;have y:ab (∀w1 w2 w3,Gr J w1->w1.grownBy w2 (some g)->w2.grownBy w3 (some g)->ag w3 p 24 #[i0,s_]/\Gr w w3):=aa (λw1 w2 w3 k1 k2 k3=>⟨((HZ.o.gr k1).only k2 om).only k3 om,((x.o.trans k1).only k2 om).only k3 om⟩);clear z;rcases a.o with⟨h1,h2,hR⟩|⟨h1,hR⟩;. by_cases hE:ij (n1:Int) r1=0;(. rw[if_pos hE]at hR;have HR:=aa hR;rw[hE]at HG;clear a hE hR;(go_enter Tryz.func148,Tryz.ntmps148);(go_wp2_with(first|(rw[<-H,<-V];clear H V;go_wp2_with fail)|(go_at_call 71;refine Bo m.o ?_;rintro e w1 ⟨rfl,d1,I⟩)|(go_at_call 72;refine Bo (Km.o g w1 d1) ?_;rintro e w2 ⟨rfl,d2,Z⟩)|(go_at_call 75;refine Bo (Ko.o g w2 d2) ?_;rintro e w3 ⟨rfl,d3,g3⟩;obtain⟨d,Lg⟩:=y.o w1 w2 w3 I Z g3;have d4:=an.gr d3 ((B4 w3).alloc (.cells #[n1,r1] 24));have Kn:=d.alloc (.cells #[n1,r1] 24);have i:=ag.new w3 24 #[n1,r1];have c:=Lg.alloc (.cells #[n1,r1] 24))|(go_at_call 74;refine Bo (s.o g _ d4) ?_;rw[h1];rintro e w5 ⟨rfl,rfl⟩)|(go_at_call 76;refine Bo (Kj.o g _ d4) ?_;rw[h2];rintro e w6 ⟨rfl,rfl⟩)|(go_at_call 170;refine Bo (HG.o _) ?_;rintro e w7 ⟨rfl,g7⟩;have q:=i.gr g7;have l:=Kn.gr g7;have x0:w7.cell? ⟨w3.heap.size,0,none⟩=n1:=q.cell 0;have x1:w7.cell? ⟨w3.heap.size,1,none⟩=r1:=q.cell 1;have y0:w7.cell? (p,0)=i0:=l.cell 0;have y1:w7.cell? (p,1)=s_:=l.cell 1;have z0:w7.frozen? (p,0)=false:=l.frozen 0;have z1:w7.frozen? (p,1)=false:=l.frozen 1)));refine bodyPost_ret (ai rfl _ rfl ((l.set_ 0 n1).set_ 1 r1) A.head) rfl ?_;exact zcW);. rw[if_neg hE]at hR;have HR:=aa hR;obtain⟨E,k⟩:∃E,E=ij (n1:Int) r1:=⟨_,rfl⟩;rw[<-k]at HG HR hE;clear a k hR;(go_enter Tryz.func148,Tryz.ntmps148);(go_wp2_with(first|(rw[<-H,<-V];clear H V;go_wp2_with fail)|(go_at_call 71;refine Bo m.o ?_;rintro e w1 ⟨rfl,d1,I⟩)|(go_at_call 72;refine Bo (Km.o g w1 d1) ?_;rintro e w2 ⟨rfl,d2,Z⟩)|(go_at_call 75;refine Bo (Ko.o g w2 d2) ?_;rintro e w3 ⟨rfl,d3,g3⟩;obtain⟨d,Lg⟩:=y.o w1 w2 w3 I Z g3;have d4:=an.gr d3 ((B4 w3).alloc (.cells #[n1,r1] 24));have Kn:=d.alloc (.cells #[n1,r1] 24);have i:=ag.new w3 24 #[n1,r1];have c:=Lg.alloc (.cells #[n1,r1] 24);have r:(w3.alloc (.cells #[n1,r1] 24)).cell? (p,0)=i0:=Kn.cell 0;have u:(w3.alloc (.cells #[n1,r1] 24)).cell? (p,1)=s_:=Kn.cell 1;have v:(w3.alloc (.cells #[n1,r1] 24)).frozen? (p,0)=false:=Kn.frozen 0;have j:(w3.alloc (.cells #[n1,r1] 24)).frozen? (p,1)=false:=Kn.frozen 1)|(go_at_call 74;refine Bo (s.o g _ d4) ?_;rw[h1];rintro e w5 ⟨rfl,rfl⟩)|(go_at_call 76;refine Bo (Kj.o g _ d4) ?_;rw[h2];rintro e w6 ⟨rfl,rfl⟩)|(go_at_call 170;refine Bo (HG.o _) ?_;rintro e w7 ⟨rfl,g7⟩;have l:=Kn.gr g7;have y0:w7.cell? (p,0)=i0:=l.cell 0;have y1:w7.cell? (p,1)=s_:=l.cell 1;have z0:w7.frozen? (p,0)=false:=l.frozen 0;have z1:w7.frozen? (p,1)=false:=l.frozen 1)));refine bodyPost_ret (ai rfl _ rfl ((l.set_ 0 i0).set_ 1 s_) A.head) rfl ?_;exact zcW
 . have HR:=aa hR;(by_cases Kw:q2.2=0);(. (have h2:0<q2.1.length:=by rcases h1 with h1|h1;(. exact absurd Kw h1);. exact h1);have f:(0:Int)<(q2.1.length:Int):=om;clear a hR h1;(go_enter Tryz.func148,Tryz.ntmps148);(go_wp2_with(first|(rw[<-H,<-V];clear H V;go_wp2_with fail)|(go_at_call 71;refine Bo m.o ?_;rintro e w1 ⟨rfl,d1,I⟩)|(go_at_call 72;refine Bo (Km.o g w1 d1) ?_;rintro e w2 ⟨rfl,d2,Z⟩)|(go_at_call 75;refine Bo (Ko.o g w2 d2) ?_;rintro e w3 ⟨rfl,d3,g3⟩;obtain⟨d,Lg⟩:=y.o w1 w2 w3 I Z g3;have d4:=an.gr d3 ((B4 w3).alloc (.cells #[n1,r1] 24));have Kn:=d.alloc (.cells #[n1,r1] 24);have i:=ag.new w3 24 #[n1,r1];have c:=Lg.alloc (.cells #[n1,r1] 24);have r:(w3.alloc (.cells #[n1,r1] 24)).cell? (p,0)=i0:=Kn.cell 0;have u:(w3.alloc (.cells #[n1,r1] 24)).cell? (p,1)=s_:=Kn.cell 1;have v:(w3.alloc (.cells #[n1,r1] 24)).frozen? (p,0)=false:=Kn.frozen 0;have j:(w3.alloc (.cells #[n1,r1] 24)).frozen? (p,1)=false:=Kn.frozen 1)|(go_at_call 74;refine Bo (s.o g _ d4) ?_;rw[Kw];rintro e w5 ⟨rfl,rfl⟩)|(go_at_call 76;refine Bo (Kj.o g _ d4) ?_;rintro e w6 ⟨rfl,rfl⟩)));exact za8);. have h3:¬(q2.2:Int)=0:=om;clear a hR h1;(go_enter Tryz.func148,Tryz.ntmps148);(go_wp2_with(first|(rw[<-H,<-V];clear H V;go_wp2_with fail)|(go_at_call 71;refine Bo m.o ?_;rintro e w1 ⟨rfl,d1,I⟩)|(go_at_call 72;refine Bo (Km.o g w1 d1) ?_;rintro e w2 ⟨rfl,d2,Z⟩)|(go_at_call 75;refine Bo (Ko.o g w2 d2) ?_;rintro e w3 ⟨rfl,d3,g3⟩;obtain⟨d,Lg⟩:=y.o w1 w2 w3 I Z g3;have d4:=an.gr d3 ((B4 w3).alloc (.cells #[n1,r1] 24));have Kn:=d.alloc (.cells #[n1,r1] 24);have i:=ag.new w3 24 #[n1,r1];have c:=Lg.alloc (.cells #[n1,r1] 24);have r:(w3.alloc (.cells #[n1,r1] 24)).cell? (p,0)=i0:=Kn.cell 0;have u:(w3.alloc (.cells #[n1,r1] 24)).cell? (p,1)=s_:=Kn.cell 1;have v:(w3.alloc (.cells #[n1,r1] 24)).frozen? (p,0)=false:=Kn.frozen 0;have j:(w3.alloc (.cells #[n1,r1] 24)).frozen? (p,1)=false:=Kn.frozen 1)|(go_at_call 74;refine Bo (s.o g _ d4) ?_;rintro e w5 ⟨rfl,rfl⟩)));exact za8
theorem yH:mu [] 0=true:=dc0
theorem BD (b:Y0) (h:b.length<1152921504606846976):mu (gZ b) (b.length:Int)=true:=by
 rw[nS,Ay];omega
theorem dO (b:Y0) (w:World) (hT:bK w) (hb:b.length<=576460752303423488):Calls Ao 44 #[b] w λe w'=>e=.returned (aj b)/\Gr w w':=by
 have HG:=aa (BD b om);have HS:ab (aj b=BL (fP ol b) (gZ b) b.length):=aa rfl;have HZ:=aa (show(0:Int)+(b.length:Int)<1152921504606846976 by omega);have HA:ab (([]:Y0)++b=b):=aa rfl;have HN:ab ((0:Int)+(b.length:Int)=(b.length:Int)):=aa om;obtain⟨S,hS⟩:=zq (fP ol b);obtain⟨R,hR⟩:=zq (gZ b);rw[<-hS,<-hR]at HS;rw[<-hR]at HG;have Il:=aa hS;have G:=aa hR;clear hS hR;go_enter Tryz.func44,Tryz.ntmps44
 go_wp2_with(first|(refine ah rfl 140 (.tmp 3) (.tmp 11) rfl (g:=w2.heap.size) rfl rfl (ag.new w2 _ _) A.state rfl (rg _ _ _) ?_;intro w3 h3 N;have o:Gr w w3:=Gr.only (Z.alloc _) N Z.size;clear N)|(refine az rfl 140 (.tmp 3) rfl (g:=w2.heap.size) rfl h3 A.state ?_)|(go_at_call 78;refine(Do _).mono ?_;rintro e w1 ⟨rfl,I⟩)|(go_at_call 77;refine(Ir ol [] 0 b _ (hT.gr I) yH hb HZ.o).mono ?_;rw[HA.o,HN.o,<-Il.o,<-G.o];rintro e w2 ⟨rfl,v⟩;have Z:=I.trans v;clear v I)|(go_at_call 79;refine(Im S R b.length _ (hT.gr o) HG.o).mono ?_;rw[<-HS.o];rintro e w4 ⟨rfl,g4⟩))
 go_ret;exact⟨rfl,o.trans g4⟩
def ff (fs:List Fl) (name:Y0):Y0×Int:=
 if(du fs name).2=0 then
  (if 32<=(du fs name).1.length/\aj ((du fs name).1.take ((du fs name).1.length-32))=(du fs name).1.drop ((du fs name).1.length-32)then((du fs name).1.take ((du fs name).1.length-32),0)else([],5))
 else([],(du fs name).2)
theorem uw (fs:List Fl) (name:Y0):(du fs name).1.length<=1048576:=by
 unfold du;cases hg:aQ fs with|false=>simp|true=>(cases hh:cS name fs with|false=>simp|true=>(obtain⟨h1,_⟩:=kO (ew hg) hh;simp only[if_true];rw[List.getD_eq_getElem?_getD,List.getElem?_eq_getElem h1];(have:=(iK hg _ (List.getElem_mem h1)).2.2);simp only[Option.getD_some,List.length_append];exact this))
theorem ry (fs:List Fl) (name:Y0) (A:Yy) (n cap:Nat) (f:Int) (w:World) (hn:n<=1099511627776) (hx:aO w A n fs) (hs:∀f∈fs,f.1.length<=1099511627776/\f.2.1.length<=1099511627776/\f.2.2.length<=1099511627776) (hT:bK w):Calls Ao 146 #[aI A n cap f,name] w λe w'=>e=.returned (.tuple #[(ff fs name).1,.int .i64 (ff fs name).2])/\Gr w w':=by
 have g0:=(B4 w).alloc (.cells #[(A,n,cap),f] 36)
 have a:=aa (wX fs name A n cap f _ hn (hx.gr g0) hs);have Lh:=aa (uw fs name);obtain⟨R,hR⟩:=zq (du fs name);have v:ab (ff fs name=if R.2=0 then(if 32<=R.1.length/\aj (R.1.take (R.1.length-32))=R.1.drop (R.1.length-32)then(R.1.take (R.1.length-32),0)else([],5))else([],R.2)):=aa (by rw[hR];rfl);rw[<-hR]at a Lh;have HT:=aa hT;have Kg:=aa g0;clear hR hx hs hT g0;unfold aI at a;unfold aI;obtain⟨r,Y⟩:=R;simp only at v Lh;by_cases he:Y=0;. subst he;by_cases hl:32<=r.length;(. obtain⟨m,hm⟩:=zq (r.length-32);rw[<-hm]at v;have c:m<=r.length:=om;have b:(r.length:Int)-32=(m:Int):=om;have D:(m:Int)<=(r.length:Int):=om;have N:r.length<=1048576:=Lh.o;have X:ab (∀W,Gr w W->Calls Ao 44 #[r.take m] W λe w'=>e=.returned (aj (r.take m))/\Gr W w'):=aa (λW g=>dO (r.take m) W (HT.o.gr g) zeA);have HL:=aa hl;(have Lg:IntKind.i64.wrap ((r.length:Int)-32)=(m:Int):=by rw[b];exact IntWalk.i64_in _ om);have Kw:decide ((m:Int)<0)=false:=decide_eq_false om;clear hm hl N b;cases hq:aj (r.take m)==r.drop m with|true=>(have u:aj (r.take m)=r.drop m:=zfM);rw[if_pos rfl,if_pos ⟨HL.o,u⟩]at v;rw[v.o];rw[u]at X;clear hq u;exact zaE|false=>((have u:¬aj (r.take m)=r.drop m:=zfM);rw[if_pos rfl,if_neg (λh=>u h.2)]at v;rw[v.o];obtain⟨S,hS⟩:=zq (aj (r.take m));rw[<-hS]at X hq;clear u hS;exact zaE));. rw[if_pos rfl,if_neg (λh=>hl h.1)]at v;rw[v.o];obtain⟨K,hK⟩:∃K,K=(r.length:Int)-32:=⟨_,rfl⟩;(have Lg:IntKind.i64.wrap ((r.length:Int)-32)=K:=by rw[<-hK];exact IntWalk.i64_in _ om);have hk0:decide (K<0)=true:=decide_eq_true om;clear hK hl;(go_enter Tryz.func146,Tryz.ntmps146);(go_wp2_with(go_at_call 69;refine Bo a.o ?_;rintro e w1 ⟨rfl,I⟩));(go_quiet (fail));(go_wp2_with fail);go_ret2;exact⟨rfl,(Kg.o.trans I).drewN _⟩
 . rw[if_neg he]at v;rw[v.o];(go_enter Tryz.func146,Tryz.ntmps146);(go_wp2_with(go_at_call 69;refine Bo a.o ?_;rintro e w1 ⟨rfl,I⟩));go_ret2;exact⟨rfl,Kg.o.trans I⟩
theorem Fw {n k:Nat} (V:∃h,k=2^h) (h1:k=1\/k<n) (h2:¬2*k<n):k=bN n:=by
 obtain⟨h,rfl⟩:=V;have hh:=Nat.two_pow_pos h;by_cases hn:n<=2;. rw[zh hn];omega
 . rw[EE (h:=h) om (by rw[Nat.pow_succ];omega)]
theorem rZ (n:Nat) (w:World) (hn:n<=1099511627776):Calls Ao 102 #[n] w λe w'=>e=.returned (bN n)/\w'=w:=by
 go_enter Tryz.func102,Tryz.ntmps102
 go_wp2_with fail
 go_loopw [3] (λv wr=>∃k:Nat,v=.int .i64 (k:Int)/\ab (∃h,k=2^h)/\(k=1\/k<n)/\0<k/\wr=w) (λv _=>2*n+2-(intOf v).toNat)
 case atStart=>exact⟨1,rfl,aa ⟨0,rfl⟩,.inl rfl,om,rfl⟩
 case round=>obtain⟨k,rfl,HP,hk,hk0,rfl⟩:=hrel;by_cases hlt:2*k<n;(. have s:2*(k:Int)<(n:Int):=om;have Kn:k<n:=om;clear hk;(go_wp2_with fail);(go_roundw);(case rel=>exact⟨k*2,by go_num,aa (by obtain⟨h,e⟩:=HP.o;exact⟨h+1,by rw[e,Nat.pow_succ]⟩),.inr om,om,by trivial⟩);case measure=>simp[intOf];omega);. have s:¬2*(k:Int)<(n:Int):=om;have HE:=aa (Fw HP.o hk hlt);have Kn:k<=1099511627777:=om;clear hk hlt;(go_wp2_with fail);go_ret;exact⟨by rw[<-HE.o];rfl,by trivial⟩
theorem ET (s:Y0) (w:World) (hT:bK w) (hs:s.length<=1099511627776):Calls Ao 149 #[s] w λe w'=>e=.returned (vz s)/\Gr w w':=by
 have HF:ab (vz s=aj ([0]++s)):=aa rfl;have HL:ab (([0]++s:Y0).length<=576460752303423488):=aa zc4;have q:¬9223372036854775807<1+s.length:=om;go_enter Tryz.func149,Tryz.ntmps149
 go_wp2_with(go_at_call 44;refine(dO ([0]++s) _ hT HL.o).mono ?_;rintro e w1 ⟨rfl,I⟩)
 go_ret;exact⟨by rw[HF.o];rfl,I⟩
theorem pj (a b:Y0) (w:World) (hT:bK w) (ha:a.length<=1099511627776) (hb:b.length<=1099511627776):Calls Ao 150 #[a,b] w λe w'=>e=.returned (il a b)/\Gr w w':=by
 have HF:ab (il a b=aj ([1]++a++b)):=aa rfl;have HL:ab (([1]++a++b:Y0).length<=576460752303423488):=aa zc4;have q:¬9223372036854775807<1+a.length:=om;have o:¬9223372036854775807<1+a.length+b.length:=om;go_enter Tryz.func150,Tryz.ntmps150
 go_wp2_with(go_at_call 44;refine(dO ([1]++a++b) _ hT HL.o).mono ?_;rintro e w1 ⟨rfl,I⟩)
 go_ret;exact⟨by rw[HF.o];rfl,I⟩
def iA (ss:List (Y0)):Prop:=∀s∈ss,s.length<=1099511627776
theorem iA.take {ss:List (Y0)} (h:iA ss) (k:Nat):iA (ss.take k):=λs hs=>h s (List.mem_of_mem_take hs)
theorem iA.drop {ss:List (Y0)} (h:iA ss) (k:Nat):iA (ss.drop k):=λs hs=>h s (List.mem_of_mem_drop hs)
theorem aE.take {w:World} {A:Yy} {n:Nat} {ss:List (Y0)} (h:aE w A n ss) (k:Nat) (hk:k<=n):aE w A k (ss.take k):=by
 refine⟨?_,λhk0=>?_⟩;. have:=h.len;simp;omega
 . obtain⟨b,off,e,hc⟩:=ak.at_ h om;refine⟨b,off,e,λi v hv=>hc i v ?_⟩;rw[List.map_take]at hv;(obtain⟨hl,hg⟩:=List.getElem?_eq_some_iff.1 hv);rw[List.getElem_take]at hg;rw[List.length_take]at hl;exact List.getElem?_eq_some_iff.2 ⟨om,hg⟩
theorem aE.drop {w:World} {b off n:Nat} {ss:List (Y0)} (h:aE w (some (b,off)) n ss) (k:Nat) (hk:k<=n):aE w (some (b,off+k)) (n-k) (ss.drop k):=by
 refine⟨?_,λhk0=>?_⟩;. have:=h.len;simp;omega
 . obtain⟨b',Kl,e,hc⟩:=ak.at_ h om;injection e with e;injection e with e1 e2 _;subst e1 e2;refine⟨b,off+k,rfl,λi v hv=>?_⟩;rw[List.map_drop,List.getElem?_drop]at hv;rw[Nat.add_assoc];exact hc _ v hv
theorem mR (N:Nat):∀(ss:List (Y0)) (A:Yy) (n cap:Nat) (w:World),ss.length<=N->n<=1099511627776->n<=cap->aE w A n ss->iA ss->bK w→Calls Ao 101 #[(A,n,cap)] w λe w'=>e=.returned (cB ss)/\Gr w w':=by
 induction N with|zero=>(intro ss A n cap w hN hn q C hs hT;have hl:=C.len;obtain rfl:ss=[]:=List.eq_nil_of_length_eq_zero om;(obtain rfl:n=0:=by simpa using hl.symm);have HR:=aa pS;clear hl;exact zbg)|succ N J=>(intro ss A n cap w hN hn q C hs hT;have hl:=C.len;by_cases h0:n=0;(. subst h0;obtain rfl:ss=[]:=List.eq_nil_of_length_eq_zero hl;have HR:=aa pS;clear hl J;exact zbg);. by_cases h1:n=1;(. subst h1;(obtain⟨s,rfl⟩:∃s,ss=[s]:=by match ss,hl with|[s],_=>exact⟨s,rfl⟩);have HR:=aa (C7 s);have Kv:=hs s (by simp);obtain⟨b,off,rfl,hc⟩:=C.cell (i:=0) (by simp);simp at hc;clear hl J h0 hs;(go_enter Tryz.func101,Tryz.ntmps101);(go_wp2_with(go_at_call 149;refine(ET s _ hT Kv).mono ?_;rintro e w1 ⟨rfl,I⟩));go_ret;exact⟨by rw[HR.o];rfl,I⟩);. have hlt:1<n:=om;(have t0:((n:Int)==0)=false:=zc2);(have t1:((n:Int)==1)=false:=zc2);have S:=kF hlt;have hkp:=jC n;have hR:=BQ (l:=ss) om;rw[hl]at hR;have HH:ab (∀w,Calls Ao 102 #[n] w λe w'=>e=.returned (bN n)/\w'=w):=aa λw=>rZ n w hn;obtain⟨b,off,rfl,_⟩:=ak.at_ C om;obtain⟨k,hk⟩:=zq (bN n);rw[<-hk]at S hkp hR HH;have y:=C.take k om;have F:=C.drop k om;have a:ab (∀w',Gr w w'->Calls Ao 101 #[((b,off),k,cap)] w' λe w''=>e=.returned (cB (ss.take k))/\Gr w' w''):=aa λw' g=>J (ss.take k) _ k cap w' zc4 om om (y.gr g) (hs.take k) (hT.gr g);have c:ab (∀w',Gr w w'->Calls Ao 101 #[((b,off+k),(n-k:Nat),(cap-k:Nat))] w' λe w''=>e=.returned (cB (ss.drop k))/\Gr w' w''):=aa λw' g=>J (ss.drop k) _ (n-k) (cap-k) w' zc4 om om (F.gr g) (hs.drop k) (hT.gr g);have HR:=aa hR;have hki:(k:Int)<=(n:Int):=om;have Mz:(k:Int)<=(cap:Int):=om;have t:¬cap=k:=om;clear y F hR hk J hl h0 h1 C hs hN;(go_enter Tryz.func101,Tryz.ntmps101);(go_wp2_with(go_at_call 102;with_reducible refine Bo (HH.o _) ?_;rintro e w1 ⟨rfl,rfl⟩));have Kw:=aa (show(cB (ss.take k)).length<=1099511627776 by rw[iJ];omega);have U:=aa (show(cB (ss.drop k)).length<=1099511627776 by rw[iJ];omega);obtain⟨R1,d⟩:=zq (cB (ss.take k));obtain⟨R2,f⟩:=zq (cB (ss.drop k));rw[<-d]at a Kw HR;rw[<-f]at c U HR;clear d f;(go_region_held3 (λw'=>Gr w1 w') (first|assumption|exact(B4 _).drew|exact B4 _) (first|(go_at_call 101;with_reducible refine Bo (a.o _ ze5) ?_;rintro e w2 ⟨rfl,Z⟩;have G:Gr w1 w2:=Gr.trans ze5 Z)|(go_at_call 101;with_reducible refine Bo (c.o _ ze5) ?_;rintro e w3 ⟨rfl,g3⟩;have o:Gr w1 w3:=Gr.trans ze5 g3)|(go_at_call 150;with_reducible refine Bo (pj R1 R2 _ (hT.gr ze5) Kw.o U.o) ?_;rintro e w4 ⟨rfl,g4⟩;have j:Gr w1 w4:=Gr.trans ze5 g4)));all_goals(go_wp2_with fail);go_ret;exact⟨by rw[HR.o];rfl,by assumption⟩)
theorem nD (w:World) (hT:bK w):Calls Ao 100 #[] w λe w'=>e=.returned (.agg (a7 0 (aj [])))/\Gr w w':=by
 have hR:∀w,bK w->Calls Ao 101 #[n_] w λe w'=>e=.returned (aj [])/\Gr w w':=by intro w hT;have:=mR 0 [] none 0 0 w (by simp) om om ⟨rfl,λh=>absurd h om⟩ (by intro s h;cases h) hT;rw[pS]at this;exact this
 have HR:=aa hR;clear hR;go_enter Tryz.func100,Tryz.ntmps100
 go_wp2_with(first|(refine ah rfl 24 (.tmp 0) (.tmp 2) rfl (g:=w.heap.size) (cs':=a7 0 (aj [])) rfl rfl hB A.head rfl (DO _ _) ?_;intro w2 h2 y)|(go_at_call 101;refine Bo (HR.o _ (hT.gr ((B4 w).alloc _))) ?_;rintro e w1 ⟨rfl,I⟩;have hB:=(ag.new w 24 (a7 0 [])).gr I;have l:Gr w w1:=Gr.trans ((B4 w).alloc _) I))
 refine bodyPost_ret (aA rfl _ rfl h2 A.head) rfl ?_;exact⟨rfl,Gr.only l y (Dg _)⟩
theorem db:dZ 38 6:=A.wit
def dj (who:Int) (key:Y0) (A:Yy) (n cap:Nat) (f sz:Int) (r:Y0):Array Value:=#[who,key,(A,n,cap),f,sz,r]
theorem iU (who:Int) (key:Y0) (A:Yy) (n cap:Nat) (f sz:Int) (r:Y0):(dj who key A n cap f sz r).all (·.oneCell')=true:=by simp[dj,Value.oneCell']
def cH:Y0:=[115,101,101,110]
def cG (fs:List Fl) (f keep sz:Int) (r:Y0):List Fl×Int×Int×Y0×Int:=
 if(bn fs f keep).2.2=0 then
  (if(ff (bn fs f keep).1 cH).2=7 then((bn fs f keep).1,(bn fs f keep).2.1,0,aj [],0)
   else if(ff (bn fs f keep).1 cH).2=0 then
    (if(gQ (ff (bn fs f keep).1 cH).1).2.2=0 then((bn fs f keep).1,(bn fs f keep).2.1,(gQ (ff (bn fs f keep).1 cH).1).1,(gQ (ff (bn fs f keep).1 cH).1).2.1,0)else(fs,f,sz,r,(gQ (ff (bn fs f keep).1 cH).1).2.2))
   else(fs,f,sz,r,(ff (bn fs f keep).1 cH).2))
 else(fs,f,sz,r,(bn fs f keep).2.2)
theorem EA (b:Y0):(gQ b).2.2≠7:=by
 unfold gQ;split;. split;(. simp);. have:=In (gN b:Int) (b.drop (gK b));simp only;omega
 . simp
theorem wo {fs:List Fl} {f keep:Int} (hs:∀f∈fs,f.1.length<=1099511627776/\f.2.1.length<=1099511627776/\f.2.2.length<=1099511627776):∀x∈(bn fs f keep).1,x.1.length<=1099511627776/\x.2.1.length<=1099511627776/\x.2.2.length<=1099511627776:=by
 intro x hx;unfold bn at hx;split at hx;. rename_i h;(obtain⟨y,hy,rfl⟩:=List.mem_map.1 hx);(have h1:=iK h.1 y hy);have h2:=hs y hy;unfold ed;simp only[List.length_append,List.length_take,List.length_nil];omega
 . exact hs x hx
theorem zZ (fs:List Fl) (name:Y0):(ff fs name).1.length<=1048576:=by
 have:=uw fs name;unfold ff;split;. split;(. simp only[List.length_take];omega);. simp
 . simp
theorem rV {J w1:World} {A A1:Yy} {n cap1 p:Nat} {gs:List Fl} (hx:∀b off,A=some ⟨b,off,none⟩->0<n->b<p) (V:p+1<J.heap.size) (hg:Gr J w1) (h1:aO w1 A1 n gs) (ha:A1=A\/w1.ownsRow J.heap.size 70 3 (A1,n,cap1) n (gs.flatMap ap)):∀g,(g=p\/g=p+1\/w1.heap.size<=g)->0<n->∀b off,A1=some ⟨b,off,none⟩->b≠g:=by
 intro g r h0 b off e;have hs:=hg.size;rcases ha with rfl|ha;. have:=hx b off e h0;rcases r with h|h|h<;>omega
 . have:=ha.lt b zfq;rcases r with h|h|h<;>omega
theorem vI {W:World} {p n cap n' cap1:Nat} {who:Int} {key r r2:Y0} {A A1:Yy} {f sz u s2:Int} {z:Array Value} (B:ag W p 38 (dj who key A n cap f sz r)) (Ka:ag W (p+1) 38 z):
 ag ((((W.setCell ⟨p,2,none⟩ (.slice A1 n' cap1)).setCell ⟨p,3,none⟩ (.int .i64 u)).setCell ⟨p,4,none⟩ (.int .i64 s2)).setCell ⟨p,5,none⟩ (.string (bs r2))).drew p 38 (dj who key A1 n' cap1 u s2 r2)∧
 ag ((((W.setCell ⟨p,2,none⟩ (.slice A1 n' cap1)).setCell ⟨p,3,none⟩ (.int .i64 u)).setCell ⟨p,4,none⟩ (.int .i64 s2)).setCell ⟨p,5,none⟩ (.string (bs r2))).drew (p+1) 38 z:=
 ⟨((((B.set_ 2 _).set_ 3 _).set_ 4 _).set_ 5 _).drew,((((Ka.far (p:=⟨p,2,none⟩) ze8 _).far (p:=⟨p,3,none⟩) ze8 _).far (p:=⟨p,4,none⟩) ze8 _).far (p:=⟨p,5,none⟩) ze8 _).drew⟩
theorem gn {W:World} {p n:Nat} {A1:Yy} {gs:List Fl} (h:aO W A1 n gs) (hne:0<n->∀b off,A1=some ⟨b,off,none⟩->b≠p) (j:Nat) (v:Value):aO (W.setCell (p,j) v) A1 n gs:=
 ak.only h (cP W (p,j) v) hne
theorem CE (fs:List Fl) (who:Int) (key:Y0) (A:Yy) (n cap:Nat) (f sz:Int) (r:Y0) (keep:Int) (w:World) (hn:n<=1099511627776) (hx:aO w A n fs) (hA:A=none->n=0/\cap=0) (hs:∀f∈fs,f.1.length<=1099511627776/\f.2.1.length<=1099511627776/\f.2.2.length<=1099511627776) (hT:bK w):Calls Ao 98 #[.agg (dj who key A n cap f sz r),.int .i64 keep] w λe w'=>∃U D,e=.returned (.tuple #[.agg (dj who key U n D (cG fs f keep sz r).2.1 (cG fs f keep sz r).2.2.1 (cG fs f keep sz r).2.2.2.1),.int .i64 (cG fs f keep sz r).2.2.2.2])/\aO w' U n (cG fs f keep sz r).1/\kQ w A n cap U n D/\Gr w w':=by
 have t:=((B4 w).alloc (.cells (dj who key A n cap f sz r) 38)).alloc (.cells (dj 0 [] none 0 0 0 0 []) 38)
 have Ka:=(ag.new w 38 (dj who key A n cap f sz r)).alloc (.cells (dj 0 [] none 0 0 0 0 []) 38)
 have Kc:=ag.new1 w (.cells (dj who key A n cap f sz r) 38) 38 (dj 0 [] none 0 0 0 0 []);have Lh:=hx.gr t;have y:=hT.gr t;obtain⟨J,H⟩:=zq ((w.alloc (.cells (dj who key A n cap f sz r) 38)).alloc (.cells (dj 0 [] none 0 0 0 0 []) 38));rw[<-H]at t Ka Kc Lh y;obtain⟨p,V⟩:=zq (w.heap.size);have Kd:w.heap.size<=p+1:=om;have Ln:w.heap.size<=p:=om;rw[<-V]at Ka Kc;have x:=aa hA;have Ke:ab (w.heap.size<=J.heap.size):=aa t.size;have m:=aa (sF fs A n cap f keep J hn Lh hA hs);have Lw:=wo (f:=f) (keep:=keep) hs;obtain⟨C,hC⟩:=zq (bn fs f keep);rw[<-hC]at m Lw;have a:ab (cG fs f keep sz r=if C.2.2=0 then(if(ff C.1 cH).2=7 then(C.1,C.2.1,0,aj [],0)else if(ff C.1 cH).2=0 then(if(gQ (ff C.1 cH).1).2.2=0 then(C.1,C.2.1,(gQ (ff C.1 cH).1).1,(gQ (ff C.1 cH).1).2.1,0)else(fs,f,sz,r,(gQ (ff C.1 cH).1).2.2))else(fs,f,sz,r,(ff C.1 cH).2))else(fs,f,sz,r,C.2.2)):=aa (by rw[hC];rfl);obtain⟨gs,u,ec⟩:=C;simp only at a Lw;have O:=aa Lh;have Lc:=aa hx;have HT:=aa y;have Kk:=aa Lw;have HB:=aa Ka;have Kj:=aa Kc;have Kg:=aa t;have c2:J.cell? ⟨p,2,none⟩=some (.slice A n cap):=Ka.cell 2;have c3:J.cell? ⟨p,3,none⟩=some (.int .i64 f):=Ka.cell 3;clear hC hx Lh hT y hs hA Ka Kc t Lw;unfold aI at m;by_cases he:ec=0;. subst he;rw[if_pos rfl]at a;have Lb:ab (∀W,Gr J W->Calls Ao 100 #[] W λe w'=>e=.returned (.agg #[.int .i64 0,.string (bs (aj []))])/\Gr W w'):=aa (λW g=>nD W (HT.o.gr g));have S:=zZ gs cH;have o:ab (∀W A1 cap1,Gr J W->aO W A1 n gs->Calls Ao 146 #[.agg #[.slice A1 n cap1,.int .i64 u],.string (bs cH)] W λe w'=>e=.returned (.tuple #[.string (bs (ff gs cH).1),.int .i64 (ff gs cH).2])/\Gr W w'):=aa (λW A1 cap1 g h=>ry gs cH A1 n cap1 u W hn h Kk.o (HT.o.gr g));obtain⟨K,hK⟩:=zq (ff gs cH);rw[<-hK]at o a S;obtain⟨kb,ke⟩:=K;simp only at a o S;have Mu:ab (∀W,Calls Ao 148 #[.string (bs kb)] W λe w'=>e=.returned (.tuple #[.agg (a7 (gQ kb).1 (gQ kb).2.1),.int .i64 (gQ kb).2.2])/\Gr W w'):=aa (λW=>DS kb W om);have h7:=EA kb;obtain⟨HD,Ki⟩:=zq (gQ kb);rw[<-Ki]at Mu a h7;obtain⟨hz,hr,hE⟩:=HD;simp only at a Mu h7;have z:bs cH=bs [115,101,101,110]:=rfl;rw[z]at o;have Ly:ab (∀b off,A=some ⟨b,off,none⟩->0<n->b<p):=aa (λb off e h0=>by obtain⟨b',Kl,e',hlt⟩:=ak.lt Lc.o h0 om;rw[e]at e';injection e' with e';injection e' with e1 _;rw[e1,V];exact hlt);have M:p+1<J.heap.size:=Kj.o.lt;clear hK Ki S z;unfold a7 at Mu;unfold dj at H;unfold dj;by_cases E:ke=7;(. subst E;rw[if_pos rfl]at a;rw[a.o];clear a Mu h7;(go_enter Tryz.func98,Tryz.ntmps98);(go_wp2_with(first|(rw[<-H,<-V];clear H V;go_wp2_with fail)|(go_at_call 145;refine Bo m.o ?_;rintro e w1 ⟨A1,cap1,rfl,h1,I,d⟩;have q:=d.imp And.left id;have l:=mG x.o d Ke.o)|(go_at_call 100;refine Bo (Lb.o (w1.alloc (.cells #[.slice A1 n cap1,.int .i64 u] 36)) (I.alloc _)) ?_;rintro e w2 ⟨rfl,Z⟩;have g3:Gr J (w2.alloc (.cells #[.int .i64 0,.string (bs (aj []))] 24)):=((I.alloc _).trans Z).alloc _;have P:=((ag.new w1 36 #[.slice A1 n cap1,.int .i64 u]).gr Z).alloc (.cells #[.int .i64 0,.string (bs (aj []))] 24);have R:(w2.alloc (.cells #[.int .i64 0,.string (bs (aj []))] 24)).cell? ⟨w1.heap.size,0,none⟩=some (.slice A1 n cap1):=P.cell 0;have T:(w2.alloc (.cells #[.int .i64 0,.string (bs (aj []))] 24)).cell? ⟨w1.heap.size,1,none⟩=some (.int .i64 u):=P.cell 1;have h3:=((h1.gr ((B4 w1).alloc (.cells #[.slice A1 n cap1,.int .i64 u] 36))).gr Z).gr ((B4 w2).alloc (.cells #[.int .i64 0,.string (bs (aj []))] 24));have s:=ag.new w2 24 #[.int .i64 0,.string (bs (aj []))])|(go_at_call 146;refine Bo (o.o _ A1 cap1 g3 h3) ?_;rintro e w4 ⟨rfl,g4⟩;have v:=P.gr g4;have i:=s.gr g4;have h4:=h3.gr g4;have j:=g3.trans g4;have L:=HB.o.gr j;have Z4:=Kj.o.gr j;have F:p+1<w1.heap.size:=(Kj.o.gr I).lt;have G:w1.heap.size<w2.heap.size:=((ag.new w1 36 #[.slice A1 n cap1,.int .i64 u]).gr Z).lt;have Y:w4.cell? ⟨w1.heap.size,0,none⟩=some (.slice A1 n cap1):=v.cell 0;have Eq:w4.cell? ⟨w1.heap.size,1,none⟩=some (.int .i64 u):=v.cell 1;have Il:w4.cell? ⟨w2.heap.size,0,none⟩=some (.int .i64 0):=i.cell 0;have Kb:w4.cell? ⟨w2.heap.size,1,none⟩=some (.string (bs (aj []))):=i.cell 1)));have B':ag w4 p 38 #[.int .i64 who,.string (bs key),.slice A n cap,.int .i64 f,.int .i64 sz,.string (bs r)]:=L;have p2:w4.cell? ⟨p,2,none⟩=some (.slice A n cap):=B'.cell 2;have p3:w4.cell? ⟨p,3,none⟩=some (.int .i64 f):=B'.cell 3;have p4:w4.cell? ⟨p,4,none⟩=some (.int .i64 sz):=B'.cell 4;have p5:w4.cell? ⟨p,5,none⟩=some (.string (bs r)):=B'.cell 5;have z2:w4.frozen? ⟨p,2,none⟩=false:=B'.frozen 2;have z3:w4.frozen? ⟨p,3,none⟩=false:=B'.frozen 3;have z4:w4.frozen? ⟨p,4,none⟩=false:=B'.frozen 4;have z5:w4.frozen? ⟨p,5,none⟩=false:=B'.frozen 5;(go_region);obtain⟨BX,ZX⟩:=vI (n':=n) (A1:=A1) (cap1:=cap1) (u:=u) (s2:=0) (r2:=(aj [])) L Z4;(have gX:Gr w ((((w4.setCell ⟨p,2,none⟩ (.slice A1 n cap1)).setCell ⟨p,3,none⟩ (.int .i64 u)).setCell ⟨p,4,none⟩ (.int .i64 0)).setCell ⟨p,5,none⟩ (.string (bs (aj [])))).drew:=(((((Kg.o.trans j).setCell (p:=⟨p,2,none⟩) Ln _).setCell (p:=⟨p,3,none⟩) Ln _).setCell (p:=⟨p,4,none⟩) Ln _).setCell (p:=⟨p,5,none⟩) Ln _).drew);have hne:=rV Ly.o M I h1 q;(have rX:aO ((((w4.setCell ⟨p,2,none⟩ (.slice A1 n cap1)).setCell ⟨p,3,none⟩ (.int .i64 u)).setCell ⟨p,4,none⟩ (.int .i64 0)).setCell ⟨p,5,none⟩ (.string (bs (aj [])))).drew A1 n gs:=aO.gr (gn (gn (gn (gn h4 (hne p (.inl rfl)) 2 _) (hne p (.inl rfl)) 3 _) (hne p (.inl rfl)) 4 _) (hne p (.inl rfl)) 5 _) (B4 _).drew);(go_wp2_with(first|(refine az rfl 38 (.tmp 2) rfl (g:=p) rfl BX db ?_)|(refine ah rfl 38 (.tmp 4) (.tmp 46) rfl (g:=p+1) (cs':=dj who key A1 n cap1 u 0 (aj [])) rfl rfl ZX db rfl (iU _ _ _ _ _ _ _ _) ?_;intro w9 h9 Q)));exact zbn);. rw[if_neg E]at a;by_cases hk0:ke=0;(. subst hk0;rw[if_pos rfl]at a;by_cases Kh:hE=0;(. subst Kh;rw[if_pos rfl]at a;rw[a.o];clear a h7 E;(go_enter Tryz.func98,Tryz.ntmps98);(go_wp2_with(first|(rw[<-H,<-V];clear H V;go_wp2_with fail)|(go_at_call 145;refine Bo m.o ?_;rintro e w1 ⟨A1,cap1,rfl,h1,I,d⟩;have q:=d.imp And.left id;have l:=mG x.o d Ke.o)|(go_at_call 100;refine Bo (Lb.o (w1.alloc (.cells #[.slice A1 n cap1,.int .i64 u] 36)) (I.alloc _)) ?_;rintro e w2 ⟨rfl,Z⟩;have g3:Gr J (w2.alloc (.cells #[.int .i64 0,.string (bs (aj []))] 24)):=((I.alloc _).trans Z).alloc _;have P:=((ag.new w1 36 #[.slice A1 n cap1,.int .i64 u]).gr Z).alloc (.cells #[.int .i64 0,.string (bs (aj []))] 24);have R:(w2.alloc (.cells #[.int .i64 0,.string (bs (aj []))] 24)).cell? ⟨w1.heap.size,0,none⟩=some (.slice A1 n cap1):=P.cell 0;have T:(w2.alloc (.cells #[.int .i64 0,.string (bs (aj []))] 24)).cell? ⟨w1.heap.size,1,none⟩=some (.int .i64 u):=P.cell 1;have h3:=((h1.gr ((B4 w1).alloc (.cells #[.slice A1 n cap1,.int .i64 u] 36))).gr Z).gr ((B4 w2).alloc (.cells #[.int .i64 0,.string (bs (aj []))] 24));have s:=ag.new w2 24 #[.int .i64 0,.string (bs (aj []))])|(go_at_call 146;refine Bo (o.o _ A1 cap1 g3 h3) ?_;rintro e w4 ⟨rfl,g4⟩;have v:=P.gr g4;have i:=s.gr g4;have h4:=h3.gr g4;have j:=g3.trans g4;have L:=HB.o.gr j;have Z4:=Kj.o.gr j;have F:p+1<w1.heap.size:=(Kj.o.gr I).lt;have G:w1.heap.size<w2.heap.size:=((ag.new w1 36 #[.slice A1 n cap1,.int .i64 u]).gr Z).lt;have Y:w4.cell? ⟨w1.heap.size,0,none⟩=some (.slice A1 n cap1):=v.cell 0;have Eq:w4.cell? ⟨w1.heap.size,1,none⟩=some (.int .i64 u):=v.cell 1;have Il:w4.cell? ⟨w2.heap.size,0,none⟩=some (.int .i64 0):=i.cell 0;have Kb:w4.cell? ⟨w2.heap.size,1,none⟩=some (.string (bs (aj []))):=i.cell 1)|(go_at_call 148;refine Bo (Mu.o _) ?_;rintro e w5 ⟨rfl,g5⟩;have k:=i.gr g5;have Km:w5.cell? ⟨w2.heap.size,0,none⟩=some (.int .i64 0):=k.cell 0;have Kf:w5.cell? ⟨w2.heap.size,1,none⟩=some (.string (bs (aj []))):=k.cell 1;have Kn:w5.frozen? ⟨w2.heap.size,0,none⟩=false:=k.frozen 0;have Ko:w5.frozen? ⟨w2.heap.size,1,none⟩=false:=k.frozen 1;have B5:=((L.gr g5).far (p:=⟨w2.heap.size,0,none⟩) zfE (.int .i64 hz)).far (p:=⟨w2.heap.size,1,none⟩) zfE (.string (bs hr));have Z5:=((Z4.gr g5).far (p:=⟨w2.heap.size,0,none⟩) zfv (.int .i64 hz)).far (p:=⟨w2.heap.size,1,none⟩) zfv (.string (bs hr));have B:Gr w ((w5.setCell ⟨w2.heap.size,0,none⟩ (.int .i64 hz)).setCell ⟨w2.heap.size,1,none⟩ (.string (bs hr))):=((Kg.o.trans (j.trans g5)).setCell (p:=⟨w2.heap.size,0,none⟩) zfg _).setCell (p:=⟨w2.heap.size,1,none⟩) zfg _)));have hne:=rV Ly.o M I h1 q;(have Ky:=(((B4 w1).alloc (.cells #[.slice A1 n cap1,.int .i64 u] 36)).trans Z).size);have r5:aO ((w5.setCell ⟨w2.heap.size,0,none⟩ (.int .i64 hz)).setCell ⟨w2.heap.size,1,none⟩ (.string (bs hr))) A1 n gs:=gn (gn (h4.gr g5) (hne _ (.inr (.inr Ky))) 0 _) (hne _ (.inr (.inr Ky))) 1 _;(have Q5:=((v.gr g5).far (p:=⟨w2.heap.size,0,none⟩) zhn (.int .i64 hz)).far (p:=⟨w2.heap.size,1,none⟩) zhn (.string (bs hr)));(have X:=(k.set_ 0 (.int .i64 hz)).set_ 1 (.string (bs hr)));clear hne Ky;obtain⟨wv,Mk⟩:=zq ((w5.setCell ⟨w2.heap.size,0,none⟩ (.int .i64 hz)).setCell ⟨w2.heap.size,1,none⟩ (.string (bs hr)));rw[<-Mk]at r5 Q5 X B5 Z5 B;rw[<-Mk];have Kp:wv.cell? ⟨w1.heap.size,0,none⟩=some (.slice A1 n cap1):=Q5.cell 0;have Kq:wv.cell? ⟨w1.heap.size,1,none⟩=some (.int .i64 u):=Q5.cell 1;have Kr:wv.cell? ⟨w2.heap.size,0,none⟩=some (.int .i64 hz):=X.cell 0;have c:wv.cell? ⟨w2.heap.size,1,none⟩=some (.string (bs hr)):=X.cell 1;clear Mk;have B':ag wv p 38 #[.int .i64 who,.string (bs key),.slice A n cap,.int .i64 f,.int .i64 sz,.string (bs r)]:=B5;have p2:wv.cell? ⟨p,2,none⟩=some (.slice A n cap):=B'.cell 2;have p3:wv.cell? ⟨p,3,none⟩=some (.int .i64 f):=B'.cell 3;have p4:wv.cell? ⟨p,4,none⟩=some (.int .i64 sz):=B'.cell 4;have p5:wv.cell? ⟨p,5,none⟩=some (.string (bs r)):=B'.cell 5;have z2:wv.frozen? ⟨p,2,none⟩=false:=B'.frozen 2;have z3:wv.frozen? ⟨p,3,none⟩=false:=B'.frozen 3;have z4:wv.frozen? ⟨p,4,none⟩=false:=B'.frozen 4;have z5:wv.frozen? ⟨p,5,none⟩=false:=B'.frozen 5;(go_region);obtain⟨BX,ZX⟩:=vI (n':=n) (A1:=A1) (cap1:=cap1) (u:=u) (s2:=hz) (r2:=hr) B5 Z5;(have gX:Gr w ((((wv.setCell ⟨p,2,none⟩ (.slice A1 n cap1)).setCell ⟨p,3,none⟩ (.int .i64 u)).setCell ⟨p,4,none⟩ (.int .i64 hz)).setCell ⟨p,5,none⟩ (.string (bs hr))).drew:=(((((B).setCell (p:=⟨p,2,none⟩) Ln _).setCell (p:=⟨p,3,none⟩) Ln _).setCell (p:=⟨p,4,none⟩) Ln _).setCell (p:=⟨p,5,none⟩) Ln _).drew);have hne:=rV Ly.o M I h1 q;(have rX:aO ((((wv.setCell ⟨p,2,none⟩ (.slice A1 n cap1)).setCell ⟨p,3,none⟩ (.int .i64 u)).setCell ⟨p,4,none⟩ (.int .i64 hz)).setCell ⟨p,5,none⟩ (.string (bs hr))).drew A1 n gs:=aO.gr (gn (gn (gn (gn r5 (hne p (.inl rfl)) 2 _) (hne p (.inl rfl)) 3 _) (hne p (.inl rfl)) 4 _) (hne p (.inl rfl)) 5 _) (B4 _).drew);(go_wp2_with(first|(refine az rfl 38 (.tmp 2) rfl (g:=p) rfl BX db ?_)|(refine ah rfl 38 (.tmp 4) (.tmp 46) rfl (g:=p+1) (cs':=dj who key A1 n cap1 u hz hr) rfl rfl ZX db rfl (iU _ _ _ _ _ _ _ _) ?_;intro w9 h9 Q)));exact zbn);. rw[if_neg Kh]at a;rw[a.o];(have m0:(hE !=0)=true:=zfx);(have m7:(hE !=7)=true:=by simpa using h7);clear a E;(go_enter Tryz.func98,Tryz.ntmps98);(go_wp2_with(first|(rw[<-H,<-V];clear H V;go_wp2_with fail)|(go_at_call 145;refine Bo m.o ?_;rintro e w1 ⟨A1,cap1,rfl,h1,I,d⟩;have q:=d.imp And.left id;have l:=mG x.o d Ke.o)|(go_at_call 100;refine Bo (Lb.o (w1.alloc (.cells #[.slice A1 n cap1,.int .i64 u] 36)) (I.alloc _)) ?_;rintro e w2 ⟨rfl,Z⟩;have g3:Gr J (w2.alloc (.cells #[.int .i64 0,.string (bs (aj []))] 24)):=((I.alloc _).trans Z).alloc _;have P:=((ag.new w1 36 #[.slice A1 n cap1,.int .i64 u]).gr Z).alloc (.cells #[.int .i64 0,.string (bs (aj []))] 24);have R:(w2.alloc (.cells #[.int .i64 0,.string (bs (aj []))] 24)).cell? ⟨w1.heap.size,0,none⟩=some (.slice A1 n cap1):=P.cell 0;have T:(w2.alloc (.cells #[.int .i64 0,.string (bs (aj []))] 24)).cell? ⟨w1.heap.size,1,none⟩=some (.int .i64 u):=P.cell 1;have h3:=((h1.gr ((B4 w1).alloc (.cells #[.slice A1 n cap1,.int .i64 u] 36))).gr Z).gr ((B4 w2).alloc (.cells #[.int .i64 0,.string (bs (aj []))] 24));have s:=ag.new w2 24 #[.int .i64 0,.string (bs (aj []))])|(go_at_call 146;refine Bo (o.o _ A1 cap1 g3 h3) ?_;rintro e w4 ⟨rfl,g4⟩;have v:=P.gr g4;have i:=s.gr g4;have h4:=h3.gr g4;have j:=g3.trans g4;have L:=HB.o.gr j;have Z4:=Kj.o.gr j;have F:p+1<w1.heap.size:=(Kj.o.gr I).lt;have G:w1.heap.size<w2.heap.size:=((ag.new w1 36 #[.slice A1 n cap1,.int .i64 u]).gr Z).lt;have Y:w4.cell? ⟨w1.heap.size,0,none⟩=some (.slice A1 n cap1):=v.cell 0;have Eq:w4.cell? ⟨w1.heap.size,1,none⟩=some (.int .i64 u):=v.cell 1;have Il:w4.cell? ⟨w2.heap.size,0,none⟩=some (.int .i64 0):=i.cell 0;have Kb:w4.cell? ⟨w2.heap.size,1,none⟩=some (.string (bs (aj []))):=i.cell 1)|(go_at_call 148;refine Bo (Mu.o _) ?_;rintro e w5 ⟨rfl,g5⟩;have k:=i.gr g5;have Km:w5.cell? ⟨w2.heap.size,0,none⟩=some (.int .i64 0):=k.cell 0;have Kf:w5.cell? ⟨w2.heap.size,1,none⟩=some (.string (bs (aj []))):=k.cell 1;have Kn:w5.frozen? ⟨w2.heap.size,0,none⟩=false:=k.frozen 0;have Ko:w5.frozen? ⟨w2.heap.size,1,none⟩=false:=k.frozen 1;have B5:=((L.gr g5).far (p:=⟨w2.heap.size,0,none⟩) zfE (.int .i64 hz)).far (p:=⟨w2.heap.size,1,none⟩) zfE (.string (bs hr));have Z5:=((Z4.gr g5).far (p:=⟨w2.heap.size,0,none⟩) zfv (.int .i64 hz)).far (p:=⟨w2.heap.size,1,none⟩) zfv (.string (bs hr));have B:Gr w ((w5.setCell ⟨w2.heap.size,0,none⟩ (.int .i64 hz)).setCell ⟨w2.heap.size,1,none⟩ (.string (bs hr))):=((Kg.o.trans (j.trans g5)).setCell (p:=⟨w2.heap.size,0,none⟩) zfg _).setCell (p:=⟨w2.heap.size,1,none⟩) zfg _)|(refine az rfl 38 (.tmp 2) rfl (g:=p) rfl (B5) db ?_)|(refine ah rfl 38 (.tmp 4) (.tmp 40) rfl (g:=p+1) (cs':=dj who key A n cap f sz r) rfl rfl (Z5) db rfl (iU _ _ _ _ _ _ _ _) ?_;intro w9 h9 Q)));refine bodyPost_ret (ai rfl _ rfl h9 db) rfl ?_;have hgf:=Gr.only (B) Q Kd;exact zc6);. rw[if_neg hk0]at a;rw[a.o];(have m0:(ke !=0)=true:=by simpa using hk0);(have m7:(ke !=7)=true:=by simpa using E);clear a;(go_enter Tryz.func98,Tryz.ntmps98);(go_wp2_with(first|(rw[<-H,<-V];clear H V;go_wp2_with fail)|(go_at_call 145;refine Bo m.o ?_;rintro e w1 ⟨A1,cap1,rfl,h1,I,d⟩;have q:=d.imp And.left id;have l:=mG x.o d Ke.o)|(go_at_call 100;refine Bo (Lb.o (w1.alloc (.cells #[.slice A1 n cap1,.int .i64 u] 36)) (I.alloc _)) ?_;rintro e w2 ⟨rfl,Z⟩;have g3:Gr J (w2.alloc (.cells #[.int .i64 0,.string (bs (aj []))] 24)):=((I.alloc _).trans Z).alloc _;have P:=((ag.new w1 36 #[.slice A1 n cap1,.int .i64 u]).gr Z).alloc (.cells #[.int .i64 0,.string (bs (aj []))] 24);have R:(w2.alloc (.cells #[.int .i64 0,.string (bs (aj []))] 24)).cell? ⟨w1.heap.size,0,none⟩=some (.slice A1 n cap1):=P.cell 0;have T:(w2.alloc (.cells #[.int .i64 0,.string (bs (aj []))] 24)).cell? ⟨w1.heap.size,1,none⟩=some (.int .i64 u):=P.cell 1;have h3:=((h1.gr ((B4 w1).alloc (.cells #[.slice A1 n cap1,.int .i64 u] 36))).gr Z).gr ((B4 w2).alloc (.cells #[.int .i64 0,.string (bs (aj []))] 24));have s:=ag.new w2 24 #[.int .i64 0,.string (bs (aj []))])|(go_at_call 146;refine Bo (o.o _ A1 cap1 g3 h3) ?_;rintro e w4 ⟨rfl,g4⟩;have v:=P.gr g4;have i:=s.gr g4;have h4:=h3.gr g4;have j:=g3.trans g4;have L:=HB.o.gr j;have Z4:=Kj.o.gr j;have F:p+1<w1.heap.size:=(Kj.o.gr I).lt;have G:w1.heap.size<w2.heap.size:=((ag.new w1 36 #[.slice A1 n cap1,.int .i64 u]).gr Z).lt;have Y:w4.cell? ⟨w1.heap.size,0,none⟩=some (.slice A1 n cap1):=v.cell 0;have Eq:w4.cell? ⟨w1.heap.size,1,none⟩=some (.int .i64 u):=v.cell 1;have Il:w4.cell? ⟨w2.heap.size,0,none⟩=some (.int .i64 0):=i.cell 0;have Kb:w4.cell? ⟨w2.heap.size,1,none⟩=some (.string (bs (aj []))):=i.cell 1)|(refine az rfl 38 (.tmp 2) rfl (g:=p) rfl (L) db ?_)|(refine ah rfl 38 (.tmp 4) (.tmp 40) rfl (g:=p+1) (cs':=dj who key A n cap f sz r) rfl rfl (Z4) db rfl (iU _ _ _ _ _ _ _ _) ?_;intro w9 h9 Q)));refine bodyPost_ret (ai rfl _ rfl h9 db) rfl ?_;have hgf:=Gr.only (Kg.o.trans j) Q Kd;exact zc6
 . rw[if_neg he]at a;rw[a.o];clear a;unfold dj at H;unfold dj;(go_enter Tryz.func98,Tryz.ntmps98);(go_wp2_with(first|(rw[<-H,<-V];clear H V;go_wp2_with fail)|(go_at_call 145;refine Bo m.o ?_;rintro e w1 ⟨A1,cap1,rfl,h1,I,d⟩;have q:=d.imp And.left id;have l:=mG x.o d Ke.o;have B1:=(HB.o.gr I).alloc (.cells #[.slice A1 n cap1,.int .i64 u] 36);have N:=(Kj.o.gr I).alloc (.cells #[.slice A1 n cap1,.int .i64 u] 36))|(refine az rfl 38 (.tmp 2) rfl (g:=p) rfl B1 db ?_)|(refine ah rfl 38 (.tmp 4) (.tmp 19) rfl (g:=p+1) (cs':=dj who key A n cap f sz r) rfl rfl N db rfl (iU _ _ _ _ _ _ _ _) ?_;intro w9 h9 Q)));refine bodyPost_ret (ai rfl _ rfl h9 db) rfl ?_;have hgf:=Gr.only (Kg.o.trans (I.alloc (.cells #[.slice A1 n cap1,.int .i64 u] 36))) Q Kd;exact zc6
def dL (x:UInt8) (K:Y0) (n:Nat):Array Value:=((List.range 64).map λj=>if j<n then bj (K.getD j 0^^^x)else Value.int .u8 0).toArray
theorem iM (x:UInt8) (K:Y0) (n:Nat):(dL x K n).size=64:=by unfold dL;simp
theorem jw (x:UInt8) (K:Y0) (n:Nat):(dL x K n).setIfInBounds n (bj (K.getD n 0^^^x))=dL x K (n+1):=by
 unfold dL;rw[List.setIfInBounds_toArray];congr 1;apply List.ext_getElem;. simp
 . intro i h1 h2;rw[List.getElem_set];simp only[List.getElem_map,List.getElem_range];by_cases e:n=i;(. subst e;rw[if_pos rfl,if_pos om]);. rw[if_neg e];by_cases h:i<n;(. rw[if_pos h,if_pos om]);. rw[if_neg h,if_neg om]
theorem nE (x:UInt8) (K:Y0):(dL x K 64).toList=(fZ x K).map bj:=by
 unfold dL fZ;simp only[List.map_map];refine List.map_congr_left ?_;intro j hj;have:j<64:=ze2
 rw[if_pos this];rfl
def fH:Array Value:=#[.int .u8 0,.int .u8 0,.int .u8 0,.int .u8 0,.int .u8 0,.int .u8 0,.int .u8 0,.int .u8 0,.int .u8 0,.int .u8 0,.int .u8 0,.int .u8 0,.int .u8 0,.int .u8 0,.int .u8 0,.int .u8 0,.int .u8 0,.int .u8 0,.int .u8 0,.int .u8 0,.int .u8 0,.int .u8 0,.int .u8 0,.int .u8 0,.int .u8 0,.int .u8 0,.int .u8 0,.int .u8 0,.int .u8 0,.int .u8 0,.int .u8 0,.int .u8 0,.int .u8 0,.int .u8 0,.int .u8 0,.int .u8 0,.int .u8 0,.int .u8 0,.int .u8 0,.int .u8 0,.int .u8 0,.int .u8 0,.int .u8 0,.int .u8 0,.int .u8 0,.int .u8 0,.int .u8 0,.int .u8 0,.int .u8 0,.int .u8 0,.int .u8 0,.int .u8 0,.int .u8 0,.int .u8 0,.int .u8 0,.int .u8 0,.int .u8 0,.int .u8 0,.int .u8 0,.int .u8 0,.int .u8 0,.int .u8 0,.int .u8 0,.int .u8 0]
theorem nK (x:UInt8) (K:Y0):dL x K 0=fH:=by kernel_rfl
theorem vy (a c:UInt8):bits .xor .u8 (a.toNat:Int) (c.toNat:Int)=((c^^^a).toNat:Int):=by
 have h1:=a.toNat_lt;have h2:=c.toNat_lt;rw[u8_xor_nat a.toNat c.toNat om om,UInt8.toNat_xor,Nat.xor_comm]
theorem CN (a:UInt8):(0:UInt8)^^^a=a:=by
 apply UInt8.eq_of_toBitVec_eq;rw[UInt8.toBitVec_xor];exact BitVec.zero_xor
theorem ei (w:World) {g:Nat} {t:TypeId} {cs:Array Value} {l:Y0} (hB:ag w g t cs) (h:cs.toList=l.map bj) (n:Nat) (hn:l.length=n):(convert 105 9 ((g,0),n,n)).run Ao w=.ok l w:=by
 subst hn;refine rH Tryz.underlying105 Tryz.underlying5 Tryz.underlying9 w g 0 _ l (λj u hu=>?_);rw[Nat.zero_add,hB.cell,<-h]at*;simpa using hu
theorem oL (key b:Y0) (w:World) (hT:bK w) (hk:key.length<=288230376151711744) (hb:b.length<=288230376151711744):Calls Ao 126 #[key,b] w λe w'=>e=.returned (dC key b)/\Gr w w':=by
 obtain⟨K,hK⟩:=zq (mB key);have O:K.length<=64:=by rw[hK];exact Dx key
 have HF:ab (dC key b=aj (fZ 0x5c K++aj (fZ 0x36 K++b))):=aa (by rw[hK];rfl);have HK:=aa hK;clear hK;by_cases hlt:64<key.length;. have HS:ab (aj key=K):=aa (by rw[HK.o];unfold mB;rw[if_pos hlt]);have s:(64:Int)<(key.length:Int):=om;(go_enter Tryz.func126,Tryz.ntmps126);(go_wp2_with((go_at_call 44;refine(dO key _ hT om).mono ?_;rw[HS.o];rintro e w1 ⟨rfl,I⟩)));have t:ab (ag ((w1.alloc (.cells fH 251)).alloc (.cells fH 251)) w1.heap.size 251 fH):=aa ((ag.new w1 _ _).alloc _);have u:ab (ag ((w1.alloc (.cells fH 251)).alloc (.cells fH 251)) (w1.heap.size+1) 251 fH):=aa (ag.new1 w1 _ _ _);have HG:ab (Gr w ((w1.alloc (.cells fH 251)).alloc (.cells fH 251))):=aa ((I.alloc _).alloc _);obtain⟨q,hq⟩:=zq (w1.heap.size);(have Kn:w.heap.size<=q:=by rw[hq];exact I.size);exact zab
 . have s:¬(64:Int)<(key.length:Int):=om;(obtain rfl:K=key:=by rw[HK.o];unfold mB;rw[if_neg hlt]);(go_enter Tryz.func126,Tryz.ntmps126);(go_wp2_with fail);have t:ab (ag ((w.alloc (.cells fH 251)).alloc (.cells fH 251)) w.heap.size 251 fH):=aa ((ag.new w _ _).alloc _);have u:ab (ag ((w.alloc (.cells fH 251)).alloc (.cells fH 251)) (w.heap.size+1) 251 fH):=aa (ag.new1 w _ _ _);have HG:ab (Gr w ((w.alloc (.cells fH 251)).alloc (.cells fH 251))):=aa (((B4 w).alloc _).alloc _);obtain⟨q,hq⟩:=zq (w.heap.size);(have Kn:w.heap.size<=q:=by rw[hq];exact Dg _);exact zab
theorem pH {ss:List (Y0)}:∀u∈ss.map aC,u.oneCell'=true:=by
 exact zb8
theorem E.ints:cC 71 3 i0 1 8:=⟨Tryz.underlying71,by kernel_rfl,rfl,om⟩
theorem nu {l:List Int}:∀u∈l.map iV,u.oneCell'=true:=by
 exact zcb
theorem nx {l:List (Y0)}:∀u∈l.map aC,u.oneCell'=true:=by
 exact zcb
theorem ik (s:aF) (A:Yy) (c:Nat) (B:Yy) (d:Nat):(aP s A c B d).all (·.oneCell')=true:=by simp[aP,Value.oneCell']
theorem qC {w:World} {k e n cap:Nat} {A:Yy} {xs:List Value} (h:w.ownsRow k e 1 (A,n,cap) n xs):A=none->n=0/\cap=0:=by
 exact zaD
def oD (A:Yy):Prop:=∀ad,A=some ad->∃b off,ad=⟨b,off,none⟩
theorem qI {w:World} {k e n cap:Nat} {A:Yy} {xs:List Value} (h:w.ownsRow k e 1 (A,n,cap) n xs):n<=cap:=by
 exact zaA
theorem oW {w:World} {B B' e size n:Nat} {v:Value} {xs:List Value} (h:w.ownsRow B e size v n xs) (z:B'<=B):w.ownsRow B' e size v n xs:=by
 exact zaN
theorem dn {ops:Array Oper} {rest:List Oper} {o:Oper} {a:Act} {Q:Exit->Act->World->Prop} {t e:TypeId} {z:Value} {size f:Nat} (E:cC t e z size f) (G:o.guard=none) (s x:Operand)
 (ho:o.op=.call {callee:=.builtin .append,args:=#[s,x],argTypes:=#[t,t]}) {B:Nat} {w:World}
 {A0:Yy} {n0 cap0:Nat} {xs:List Value} (hs:a.eval s=.slice A0 n0 cap0) (N:w.ownsRow B e size (A0,n0,cap0) n0 xs)
 {A:Yy} {n c:Nat} {vs:List Value} (hx:a.eval x=.slice A n c) (C:ak w size A n vs) (hA:A=none->n=0/\c=0) (h1:∀u∈vs,u.oneCell'=true)
 (i:(n0+n)*f<=140737488355328) (q:n0+n<=maxLen) (hB:B<=w.heap.size)
 (h:∀U D w',w'.ownsRow B e size (U,n0+n,D) (n0+n) (xs++vs)->w.grownBy w' (Value.ownBlock (A0,n0,cap0))->wpList Ao ops Q rest (a.put o.dst (.slice U (n0+n) D)) w'):wpList Ao ops Q (o::rest) a w:=
 wpList_plain G λ_ hK=>lZ E s x ho hs N hx C hA h1 i q hB λU D w' h2 h3=>hK _ _ (h U D w' h2 h3)
abbrev IT:=Y0×Y0
def jn (old:Y0):Nat->Nat->Bool->List (Y0)->Option IT
 |m,n,wh,[]=>if m=n then(if wh then some (old,old)else none)else none
 |m,n,wh,last::r=>
  if m=n then(if wh then none else match r with|[]=>some (last,last)|_::_=>none)
  else if m<=bN n then(jn old m (bN n) wh r).map λx=>(x.1,il x.2 last)
  else(jn old (m-bN n) (n-bN n) false r).map λx=>(il last x.1,il last x.2)
theorem pR (old:Y0) (m n:Nat) (wh:Bool):jn old m n wh []=if m=n then(if wh then some (old,old)else none)else none:=by unfold jn;rfl
theorem mE (old:Y0) (m n:Nat) (wh:Bool) (u:Y0) (r:List (Y0)):jn old m n wh (u::r)=if m=n then(if wh then none else match r with|[]=>some (u,u)|_::_=>none)else if m<=bN n then(jn old m (bN n) wh r).map λx=>(x.1,il x.2 u)else(jn old (m-bN n) (n-bN n) false r).map λx=>(il u x.1,il u x.2):=by
 cases r<;>rfl
def fy (old:Y0) (m n:Nat) (wh:Bool) (r:List (Y0)) (a b:Y0) (ok:Bool):Prop:=jn old m n wh r=(if ok then some (a,b)else none)/\a.length<=1099511627776/\b.length<=1099511627776
theorem fy.eq {old:Y0} {m n:Nat} {wh:Bool} {r:List (Y0)} {a b:Y0} {ok:Bool} (h:fy old m n wh r a b ok):jn old m n wh r=(if ok then some (a,b)else none):=h.1
theorem fy.la {old:Y0} {m n:Nat} {wh:Bool} {r:List (Y0)} {a b:Y0} {ok:Bool} (h:fy old m n wh r a b ok):a.length<=1099511627776:=h.2.1
theorem fy.lb {old:Y0} {m n:Nat} {wh:Bool} {r:List (Y0)} {a b:Y0} {ok:Bool} (h:fy old m n wh r a b ok):b.length<=1099511627776:=h.2.2
theorem Ek (old:Y0) (hold:old.length<=1099511627776) (M:Nat):∀(ps:List (Y0)) (m n:Nat) (wh:Bool) (A:Yy) (cap:Nat) (w:World),ps.length=M->M<=1099511627776->0<m->m<=n->n<=1099511627776->M<=cap->aE w A M ps->iA ps->bK w→Calls Ao 200 #[old,m,n,wh,(A,M,cap)] w λe w'=>∃a b ok,e=.returned (.tuple #[.string (bs a),.string (bs b),.bool ok])/\fy old m n wh ps.reverse a b ok/\Gr w w':=by
 induction M with|zero=>(intro ps m n wh A cap w hl hM Kw j hn q C hs hT;obtain rfl:ps=[]:=List.eq_nil_of_length_eq_zero hl;clear hl C;by_cases he:m=n;(. subst he;cases wh with|true=>have HB:ab (fy old m m true [] old old true):=aa ⟨by rw[pR,if_pos rfl],hold,hold⟩;(go_enter Tryz.func200,Tryz.ntmps200);(go_wp2_with fail);refine bodyPost_ret (results_tmp3 rfl _ _ _) rfl ?_;exact⟨old,old,true,rfl,HB.o,B4 _⟩|false=>have HB:ab (fy old m m false [] [] [] false):=aa ⟨by rw[pR,if_pos rfl];rfl,by simp,by simp⟩;exact zaV);. have HB:ab (fy old m n wh [] [] [] false):=aa ⟨by rw[pR,if_neg he];rfl,by simp,by simp⟩;(have t1:((m:Int)==(n:Int))=false:=zc2);clear he;exact zaV)|succ M J=>(intro ps m n wh A cap w hl hM Kw j hn q C hs hT;obtain⟨o,u,rfl⟩:∃o u,ps=o++[u]:=⟨ps.take M,ps[M]'om,by have:=List.take_succ_eq_append_getElem (l:=ps) (i:=M) om;rw[<-this,List.take_of_length_le om]⟩;(have Lm:o.length=M:=zgn);rw[List.reverse_append,List.reverse_cons,List.reverse_nil,List.nil_append,List.singleton_append];obtain⟨b,off,rfl,hc⟩:=C.cell (i:=M) zc4;(have Kk:(o++[u])[M]' zc4=u:=by simp[<-Lm]);rw[Kk]at hc;have V:u.length<=1099511627776:=hs u (by simp);(have t2:((M:Int)+1==0)=false:=zc2);by_cases he:m=n;(. subst he;cases wh with|true=>have HB:ab (fy old m m true (u::o.reverse) old old false):=aa ⟨by rw[mE,if_pos rfl];rfl,hold,hold⟩;clear hl C J hc Kk Lm hs;(go_enter Tryz.func200,Tryz.ntmps200);(go_wp2_with fail);refine bodyPost_ret (results_tmp3 rfl _ _ _) rfl ?_;exact⟨old,old,false,by rw[<-t2];rfl,HB.o,B4 _⟩|false=>(cases M with|zero=>(obtain rfl:o=[]:=List.eq_nil_of_length_eq_zero Lm;have HB:ab (fy old m m false [u] u u true):=aa ⟨by rw[mE,if_pos rfl];rfl,V,V⟩;have U:w.cell? ⟨b,off,none⟩=some (.string (bs u)):=hc;clear hl C J Kk Lm hs hc;rw[List.reverse_nil];(go_enter Tryz.func200,Tryz.ntmps200);(go_wp2_with fail);(go_quiet (fail));(go_wp2_with fail);refine bodyPost_ret (results_tmp3 rfl _ _ _) rfl ?_;exact⟨u,u,true,rfl,HB.o,(B4 _).drewN _⟩)|succ M=>have HB:ab (fy old m m false (u::o.reverse) [] [] false):=aa ⟨by rw[mE,if_pos rfl];(have:∃y ys,o.reverse=y::ys:=by cases hq:o.reverse with|nil=>have:=congrArg List.length hq;simp at this;rw[this]at Lm;simp at Lm|cons y ys=>exact⟨y,ys,rfl⟩);obtain⟨y,ys,e⟩:=this;rw[e];rfl,by simp,by simp⟩;(have t3:(((M+1:Nat):Int)+1==1)=false:=zc2);(have t4:(((M+1:Nat):Int)+1 !=1)=true:=zc3);(have t5:((M:Int)+1+1==1)=false:=zc2);(have t6:((M:Int)+1+1 !=1)=true:=zc3);clear hl C J Kk Lm hs hc;exact zaV));. (have t1:((m:Int)==(n:Int))=false:=zc2);have hlt:1<n:=om;have c:iA o:=λs h=>hs s (by simp[h]);(have g:aE w (some ⟨b,off,none⟩) M o:=by have:=C.take M om;rw[show(o++[u]).take M=o by rw[<-Lm];exact List.take_left]at this;exact this);have S:=kF hlt;have hkp:=jC n;have HH:ab (∀w,Calls Ao 102 #[n] w λe w'=>e=.returned (bN n)/\w'=w):=aa λw=>rZ n w hn;(have v:jn old m n wh (u::o.reverse)=if m<=bN n then(jn old m (bN n) wh o.reverse).map λx=>(x.1,il x.2 u)else(jn old (m-bN n) (n-bN n) false o.reverse).map λx=>(il u x.1,il u x.2):=by rw[mE,if_neg he]);obtain⟨k,hk⟩:=zq (bN n);rw[<-hk]at S hkp HH v;by_cases Kj:m<=k;(. rw[if_pos Kj]at v;have p:=aa (J o m k wh _ cap w Lm om Kw Kj om om g c hT);have HF:ab (∀a b ok,fy old m k wh o.reverse a b ok->fy old m n wh (u::o.reverse) a (il b u) ok):=aa (λa b ok ⟨h1,h2,h3⟩=>⟨by rw[v,h1];cases ok<;>rfl,h2,by rw[qv];omega⟩);have f:(m:Int)<=(k:Int):=om;clear v C g hs c J hk he Lm Kk hl;(go_enter Tryz.func200,Tryz.ntmps200);(go_wp2_with(first|(go_at_call 102;with_reducible refine Bo (HH.o _) ?_;rintro e w1 ⟨rfl,Kp⟩;subst w1)|(go_at_call 200;with_reducible refine Bo p.o ?_;rintro e w2 ⟨a,b2,ok,rfl,hb,Z⟩;have Kl:=aa (HF.o _ _ _ hb);have Q:=hb.lb;clear hb)|(go_at_call 150;with_reducible refine Bo (pj b2 u _ (hT.gr Z) Q V) ?_;rintro e w3 ⟨rfl,g3⟩)));refine bodyPost_ret (results_tmp3 rfl _ _ _) rfl ?_;exact⟨_,_,_,rfl,Kl.o,Z.trans g3⟩);. rw[if_neg Kj]at v;have d:=J o (m-k) (n-k) false _ cap w Lm om om om om om g c hT;have e1:((n-k:Nat):Int)=(n:Int)-(k:Int):=om;have e2:((m-k:Nat):Int)=(m:Int)-(k:Int):=om;rw[e1,e2]at d;have p:=aa d;have HF:ab (∀a b ok,fy old (m-k) (n-k) false o.reverse a b ok->fy old m n wh (u::o.reverse) (il u a) (il u b) ok):=aa (λa b ok ⟨h1,h2,h3⟩=>⟨by rw[v,h1];cases ok<;>rfl,by rw[qv];omega,by rw[qv];omega⟩);have f:¬(m:Int)<=(k:Int):=om;clear v C g hs c J hk he Lm Kk hl d e1 e2;(go_enter Tryz.func200,Tryz.ntmps200);(go_wp2_with(first|(go_at_call 102;with_reducible refine Bo (HH.o _) ?_;rintro e w1 ⟨rfl,Kp⟩;subst w1)|(go_at_call 200;with_reducible refine Bo p.o ?_;rintro e w2 ⟨a,b2,ok,rfl,hb,Z⟩;have Kl:=aa (HF.o _ _ _ hb);have Kz:=hb.la;have Q:=hb.lb;clear hb)|(go_at_call 150;with_reducible refine Bo (pj u b2 _ (hT.gr (Z.trans g3)) V Q) ?_;rintro e w4 ⟨rfl,g4⟩)|(go_at_call 150;with_reducible refine Bo (pj u a _ (hT.gr Z) V Kz) ?_;rintro e w3 ⟨rfl,g3⟩)));refine bodyPost_ret (results_tmp3 rfl _ _ _) rfl ?_;exact⟨_,_,_,rfl,Kl.o,Z.trans (g3.trans g4)⟩)
def cX (l:List (Y0)) (m:Nat) (whole:Bool):List (Y0):=
 if _h:l.length<=m\/l.length<=1 then(if whole then[]else[cB l])
 else if m<=bN l.length then cB (l.drop (bN l.length))::cX (l.take (bN l.length)) m whole
 else cB (l.take (bN l.length))::cX (l.drop (bN l.length)) (m-bN l.length) false
termination_by l.length
decreasing_by
 . rw[List.length_take];have:=kF (n:=l.length) om;omega
 . rw[List.length_drop];have:=jC l.length;omega
theorem vk {l:List (Y0)} {m:Nat} {whole:Bool} (h:l.length<=m):cX l m whole=if whole then[]else[cB l]:=by rw[cX,dif_pos (.inl h)]
theorem tf {l:List (Y0)} {m:Nat} {whole:Bool} (h:m<l.length) (h1:1<l.length) (hi:m<=bN l.length):cX l m whole=cB (l.drop (bN l.length))::cX (l.take (bN l.length)) m whole:=by rw[cX,dif_neg om,if_pos hi]
theorem qX {l:List (Y0)} {m:Nat} {whole:Bool} (h:m<l.length) (h1:1<l.length) (hi:¬m<=bN l.length):cX l m whole=cB (l.take (bN l.length))::cX (l.drop (bN l.length)) (m-bN l.length) false:=by rw[cX,dif_neg om,if_neg hi]
theorem wU {w:World} {B B' e size n:Nat} {v:Value} {xs:List Value} (h:w.ownsRow B e size v n xs) (z:B'<=B):w.ownsRow B' e size v n xs:=by
 exact zaN
theorem mN {ops:Array Oper} {o:Oper} {a:Act} {K:Act->World->Prop} {Q:Exit->Act->World->Prop} {X:Prop} {w:World} {t e:TypeId} {z:Value} {f:Nat}
 (E:cC t e z 1 f) (G:o.guard=none) (s x:Operand) (ho:o.op=.call {callee:=.builtin .append,args:=#[s,x],argTypes:=#[t,t]})
 {A:Yy} {B n cap:Nat} {xs:List Value} (hs:a.eval s=.slice A n cap) (N:w.ownsRow B e 1 (A,n,cap) n xs)
 {u:Value} {c:Nat} (hx:a.eval x=.slice (some (w.heap.size,0)) 1 c) (h1:u.oneCell'=true)
 (i:(n+1)*f<=140737488355328) (q:n+1<=maxLen) (hB:B<=w.heap.size)
 (h:∀g D w',w'.ownsRow B e 1 (.slice (some ⟨g,0,none⟩) (n+1) D) (n+1) (xs++[u])->w.grownBy w' (Value.ownBlock (A,n,cap))->K (a.put o.dst (.slice (some ⟨g,0,none⟩) (n+1) D)) w'):
 if Region.wanted o (yielded ops a.tmps)=true then Oper.wp Ao o a (w.alloc (.cells #[u] e)) K Q else X:=by
 exact zaz
def eM (S:List (Y0)):Y0->Option Bool:=λy=>if y∈S then some true else none
theorem ui:eM []=λ_=>none:=by funext y;simp[eM]
theorem sS (S:List (Y0)) (x:Y0):(eM S x).isSome=decide (x∈S):=by
 exact zbB
theorem nQ (S:List (Y0)) (x:Y0):(eM S x).getD false=decide (x∈S):=by
 exact zbB
theorem vj (S:List (Y0)) (x:Y0):iO (eM S) x true=eM (S++[x]):=by
 funext y;unfold iO eM;by_cases h:y=x;. subst h;rw[if_pos rfl,if_pos (by simp)]
 . rw[if_neg h];by_cases h2:y∈S;(. rw[if_pos h2,if_pos (List.mem_append_left _ h2)]);. rw[if_neg h2,if_neg (λk=>by rcases List.mem_append.1 k with k|k;exact h2 k;simp at k;exact h k)]
theorem uo {S:List (Y0)} {x:Y0} (h:x∉S):lC (eM S) x S.length=(S++[x]).length:=by
 unfold lC;rw[sS,decide_eq_false h,List.length_append];rfl
theorem pX:∀a b:Y0,aR a b=decide (a<b)
 |[],[]=>by rw[eY];exact(decide_eq_false (List.lt_irrefl _)).symm
 |[],b::y=>by rw[qE (by simp)];exact(decide_eq_true (by simp)).symm
 |a::x,[]=>by
  have:aR (a::x) []=false:=rfl
  rw[this];exact(decide_eq_false (by simp)).symm
 |a::x,b::y=>by
  rw[oS,pX x y,Bool.eq_iff_iff]
  simp only[Bool.or_eq_true,Bool.and_eq_true,decide_eq_true_eq,beq_iff_eq,List.cons_lt_cons_iff]
theorem um {a b:Y0} (h:a<=b) (hne:a≠b):aR a b=true:=by
 cases h1:aR a b with|true=>rfl|false=>(cases h2:aR b a with|false=>exact absurd (qO _ _ h1 h2) hne|true=>rw[pX,decide_eq_true_eq]at h2;exact absurd h2 h)
theorem pN {a b:Y0} (h:aR b a=false):a<=b:=by
 intro h2;rw[pX]at h;exact absurd h2 (of_decide_eq_false h)
theorem nX {L:List (Y0)} (h:L.Nodup):oo (L.mergeSort λx y=>decide (x<=y))/\(∀x,x∈(L.mergeSort λx y=>decide (x<=y))↔x∈L)/\(L.mergeSort λx y=>decide (x<=y)).length=L.length:=by
 have V:(L.mergeSort λx y=>decide (x<=y)).Perm L:=List.mergeSort_perm _ _
 have hs:(L.mergeSort λx y=>decide (x<=y)).Pairwise (λa b=>decide (a<=b)=true):=List.pairwise_mergeSort (λa b c h1 h2=>by rw[decide_eq_true_eq]at h1 h2⊢;refine pN ?_;cases hc:aR c a with|false=>rfl|true=>by_cases e:a=b;(. subst e;rw[pX,decide_eq_true_eq]at hc;exact absurd hc h2);. have:=gA _ _ _ hc (um h1 e);rw[pX,decide_eq_true_eq]at this;exact absurd this h2) (λa b=>by cases h1:aR b a with|false=>rw[decide_eq_true (pN h1)];rfl|true=>rw[decide_eq_true (p:=b<=a) (pN (ER h1)),Bool.or_true]) L
 have hn:(L.mergeSort λx y=>decide (x<=y)).Nodup:=V.nodup_iff.2 h
 refine⟨?_,λx=>V.mem_iff,V.length_eq⟩;refine List.Pairwise.imp (λ{a b} k=>?_) (List.Pairwise.and hs hn);exact um (of_decide_eq_true k.1) k.2
structure lA (S L:List (Y0)) (left:Y0->Bool):Prop where
 nd:L.Nodup
 all:∀y,y∈S↔(y∈L\/(y.length<=maxLen/\left y=true))
 no:∀y∈L,left y=false
theorem lA.start {S:List (Y0)} (hS:∀x∈S,x.length<=maxLen):lA S [] (λl=>(eM S l).isSome):=
 ⟨.nil,λy=>by rw[sS,decide_eq_true_eq];exact⟨λh=>.inr ⟨hS y h,h⟩,λh=>by rcases h with h|h;simp at h;exact h.2⟩,by simp⟩
theorem lA.fresh {S L:List (Y0)} {left:Y0->Bool} (h:lA S L left) {x:Y0} (hl:left x=true):x∉L:=λk=>by rw[h.no x k]at hl;cases hl
theorem lA.put {S L d:List (Y0)} {left:Y0->Bool} (h:lA S L left) {x:Y0} (hx:x.length<=maxLen) (hl:left x=true) (hn:d.Nodup) (hm:∀y,y∈d↔(y∈L\/y=x)):lA S d (λy=>left y&&!(decide (y=x))):=by
 refine⟨hn,λy=>?_,λy hy=>?_⟩;. rw[h.all y,hm y,Bool.and_eq_true,Bool.not_eq_true',decide_eq_false_iff_not];constructor;(. rintro(h1|h1);(. exact .inl (.inl h1));. by_cases e:y=x;(. exact .inl (.inr e));. exact .inr ⟨h1.1,h1.2,e⟩);. rintro((h1|h1)|h1);(. exact .inl h1);(. subst h1;exact .inr ⟨hx,hl⟩);. exact .inr ⟨h1.1,h1.2.1⟩
 . (rcases(hm y).1 hy with h1|h1);(. rw[h.no y h1];rfl);. subst h1;simp
theorem lA.done {S L:List (Y0)} {left:Y0->Bool} (h:lA S L left) (hd:∀l,l.length<=maxLen->left l=false):∀y,y∈L↔y∈S:=λy=>by
 rw[h.all y]
 exact⟨.inl,λk=>by rcases k with k|k;exact k;rw[hd y k.1]at k;cases k.2⟩
theorem lA.le {S L:List (Y0)} {left:Y0->Bool} (h:lA S L left):L.length<=S.length:=lQ L S h.nd (λx hx=>(h.all x).2 (.inl hx))
theorem BM {L:List (Y0)} {x:Y0} (h:L.Nodup) (hx:x∉L):(L++[x]).Nodup/\∀y,y∈L++[x]↔(y∈L\/y=x):=by
 refine⟨?_,λy=>by simp⟩;rw[List.nodup_append];refine⟨h,by simp,λa ha b hb=>?_⟩;simp only[List.mem_singleton]at hb;subst hb;rintro rfl;exact hx ha
section
structure Om (w0:World) (q K:Nat) (cs:Array Value) (X Y:Value) (N M:Nat) (F:List eI) (G:List (Y0)) (w:World):Prop where
 blk:ag w q 97 cs
 own1:w.ownsRow K 100 3 X N (F.flatMap jZ)
 own2:w.ownsRow K 9 1 Y M (G.map aC)
 gr:Gr w0 w
 lt:q<K
 le:w0.heap.size<=q
section
variable{w0:World} {q K:Nat} {cs:Array Value} {X Y:Value} {N M:Nat} {F:List eI} {G:List (Y0)} {w w':World}
theorem Om.gr' (h:Om w0 q K cs X Y N M F G w) (g:Gr w w'):Om w0 q K cs X Y N M F G w':=⟨h.blk.gr g,av h.own1 g,av h.own2 g,h.gr.trans g,h.lt,h.le⟩
theorem Om.al (h:Om w0 q K cs X Y N M F G w) (o:Obj):Om w0 q K cs X Y N M F G (w.alloc o):=h.gr' ((B4 _).alloc _)
theorem Om.only {g:Nat} {T:TypeId} {cs':Array Value} (h:Om w0 q K cs X Y N M F G w) (hb:ag w g T cs') (h1:100≠T) (h2:9≠T) (hq:q≠g) (hg:w0.heap.size<=g) (k:w.grownBy w' (some g)):Om w0 q K cs X Y N M F G w':=
 ⟨h.blk.only k hq,aB h.own1 hb h1 k,aB h.own2 hb h2 k,h.gr.only k hg,h.lt,h.le⟩
theorem Om.app1 {a:Value} {N':Nat} {F':List eI} (h:Om w0 q K cs X Y N M F G w) (ho:w'.ownsRow K 100 3 a N' (F'.flatMap jZ)) (k:w.grownBy w' X.ownBlock):Om w0 q K cs a Y N' M F' G w':=
 ⟨eH h.blk h.own1 dc0 k,ho,iL h.own2 h.own1 dc0 k,h.gr.grown k (λi hi=>by have:=(h.own1.lt i hi).1;have:=h.lt;have:=h.le;omega),h.lt,h.le⟩
theorem Om.app2 {a:Value} {M':Nat} {b:List (Y0)} (h:Om w0 q K cs X Y N M F G w) (ho:w'.ownsRow K 9 1 a M' (b.map aC)) (k:w.grownBy w' Y.ownBlock):Om w0 q K cs X a N M' F b w':=
 ⟨eH h.blk h.own2 dc0 k,iL h.own1 h.own2 dc0 k,ho,h.gr.grown k (λi hi=>by have:=(h.own2.lt i hi).1;have:=h.lt;have:=h.le;omega),h.lt,h.le⟩
theorem Om.st (h:Om w0 q K cs X Y N M F G w) (i:Nat) (u:Value):Om w0 q K (cs.setIfInBounds i u) X Y N M F G (w.setCell (q,i) u):=
 ⟨h.blk.set_ i u,ownsRow_setCell_other h.own1 (a:=(q,i)) (λe=>by have:=(h.own1.lt q e).1;have:=h.lt;omega) u,ownsRow_setCell_other h.own2 (a:=(q,i)) (λe=>by have:=(h.own2.lt q e).1;have:=h.lt;omega) u,h.gr.setCell (p:=(q,i)) h.le u,h.lt,h.le⟩
theorem Om.size (h:Om w0 q K cs X Y N M F G w) (hK:K<=q+1):K<=w.heap.size:=by have:=h.blk.lt;omega
theorem Om.keep1 {g:Nat} {T:TypeId} {cs':Array Value} (h:Om w0 q K cs X Y N M F G w) (hb:ag w g T cs') (h1:100≠T) (k:w.grownBy w' X.ownBlock):ag w' g T cs':=eH hb h.own1 h1 k
theorem Om.keep2 {g:Nat} {T:TypeId} {cs':Array Value} (h:Om w0 q K cs X Y N M F G w) (hb:ag w g T cs') (h1:9≠T) (k:w.grownBy w' Y.ownBlock):ag w' g T cs':=eH hb h.own2 h1 k
theorem Om.rd {T:TypeId} {g:Nat} {st:St} {W:World} (h:Om w0 q K cs X Y N M F G w) (gx:Gr w W) (hd:an T w g st) (h1:100≠T) (h2:9≠T) (hq:q≠g) (hg:w0.heap.size<=g) (k:W.grownBy w' (some g)):Om w0 q K cs X Y N M F G w':=
 (h.gr' gx).only (hd.gr gx).blk h1 h2 hq hg k
theorem Om.rdApp1 {T:TypeId} {g:Nat} {st:St} (h:Om w0 q K cs X Y N M F G w) (hd:an T w g st) (h1:100≠T) (k:w.grownBy w' X.ownBlock):an T w' g st:=⟨h.keep1 hd.blk h1 k,hd.len,hd.err⟩
theorem Om.rdApp2 {T:TypeId} {g:Nat} {st:St} (h:Om w0 q K cs X Y N M F G w) (hd:an T w g st) (h1:9≠T) (k:w.grownBy w' Y.ownBlock):an T w' g st:=⟨h.keep2 hd.blk h1 k,hd.len,hd.err⟩
theorem an.farO {T:TypeId} {g:Nat} {st:St} (hd:an T w g st) {a:Addr} (hne:g≠a.block) (u:Value):an T (w.setCell a u) g st:=⟨hd.blk.far hne u,hd.len,hd.err⟩
theorem Om.new (h:ag w q 97 cs) (g:Gr w0 w) (lt:q<K) (le:w0.heap.size<=q):Om w0 q K cs n_ n_ 0 0 [] [] w:=
 ⟨h,World.ownsRow_nil _ _ _ _,World.ownsRow_nil _ _ _ _,g,lt,le⟩
end
theorem Om.farx {w0:World} {q K:Nat} {cs:Array Value} {X Y:Value} {N M:Nat} {F:List eI} {G:List (Y0)} {w:World} (h:Om w0 q K cs X Y N M F G w) {x:Nat} (hx:X.ownBlock≠some x) (hy:Y.ownBlock≠some x) (hq:q≠x) (z:w0.heap.size<=x) (i:Nat) (u:Value):Om w0 q K cs X Y N M F G (w.setCell (x,i) u):=
 ⟨h.blk.far hq u,ownsRow_setCell_other h.own1 (a:=(x,i)) hx u,ownsRow_setCell_other h.own2 (a:=(x,i)) hy u,h.gr.setCell (p:=(x,i)) z u,h.lt,h.le⟩
theorem Om.notX {w0:World} {q K:Nat} {cs:Array Value} {X Y:Value} {N M:Nat} {F:List eI} {G:List (Y0)} {w:World} (h:Om w0 q K cs X Y N M F G w) {x:Nat} (hx:w.heap.size<=x):X.ownBlock≠some x/\Y.ownBlock≠some x/\q≠x/\w0.heap.size<=x:=
 ⟨λe=>by have:=(h.own1.lt x e).2;omega,λe=>by have:=(h.own2.lt x e).2;omega,by have:=h.blk.lt;omega,by have:=h.gr.size;omega⟩
theorem tQ {W:World} {g:Nat} {T:TypeId} {cs:Array Value} {k:Nat} (h:ag W g T cs) (hk:cs.size=k):ak W k (some (g,0)) 1 cs.toList:=by
 exact zbt
theorem pT {w:World} {g:Nat} {t:TypeId} {cs:Array Value} (h:g=w.heap.size):ag (w.alloc (.cells cs t)) g t cs:=by subst h;exact ag.new w t cs
theorem yk {w:World} {k e n cap size:Nat} {A:Yy} {xs:List Value} (h:w.ownsRow k e size (A,n,cap) n xs):A=none->n=0/\cap=0:=by
 exact zaD
theorem yl {w:World} {k e n cap size:Nat} {A:Yy} {xs:List Value} (h:w.ownsRow k e size (A,n,cap) n xs):n<=cap:=by
 exact zaA
def jx (kd:Int) (dt:Y0) (A:Yy) (c N:Nat) (tr:Y0) (B:Yy) (d M:Nat) (wh no:Y0) (ti:Int) (ta:Y0):Array Value:=
 #[kd,dt,(A,N,c),tr,(B,M,d),wh,no,ti,ta]
theorem Cq (F:List eI):(F.flatMap jZ).length=F.length*3:=cW jZ 3 wk F
theorem cf {w:World} {K K' N M:Nat} {kd:Int} {dt tr wh no ta:Y0} {ti:Int} {F:List eI} {G:List (Y0)} {A B:Yy} {c d:Nat} (h:w.ownsRow K 100 3 (A,N,c) N (F.flatMap jZ)) (h':w.ownsRow K' 9 1 (B,M,d) M (G.map aC)):eC w ⟨kd,dt,F,tr,G,wh,no,ti,ta⟩ A c B d/\jx kd dt A c N tr B d M wh no ti ta=bh ⟨kd,dt,F,tr,G,wh,no,ti,ta⟩ A c B d:=by
 have h1:F.length=N:=by have:=h.1;rw[Cq]at this;omega
 have h2:G.length=M:=zgK
 subst h1;subst h2;exact⟨⟨ak.own h,ak.own h',yk h,yk h',yl h,yl h'⟩,rfl⟩
theorem vT (F:List eI) (x:eI):F.flatMap jZ++jZ x=(F++[x]).flatMap jZ:=by rw[List.flatMap_append];simp
theorem Gm (G:List (Y0)) (x:Y0):G.map aC++[Value.string (bs x)]=(G++[x]).map aC:=by simp[aC]
end
theorem jD (b:Y0) (w:World) (hT:bK w) (hb:b.length<=576460752303423488):Calls Ao 40 #[b] w λe w'=>e=.returned (aj b)/\Gr w w':=by
 have HS:=aa (dO b w hT hb);clear hT;go_enter Tryz.func40,Tryz.ntmps40
 go_wp2_with(go_at_call 44;(with_reducible refine Bo HS.o ?_);rintro e w1 ⟨rfl,I⟩)
 go_ret;exact⟨rfl,I⟩
theorem rQ {w:World} {k e size n cap:Nat} {A:Yy} {xs:List Value} (h:w.ownsRow k e size (A,n,cap) n xs):A=none->n=0/\cap=0:=by
 intro e;rcases h.2 with⟨h,h0⟩|⟨g,_,_,h,_⟩
 . injection h with _ h2 h3;exact⟨h0,h3⟩
 . subst e;injection h with h;cases h
theorem rR {w:World} {k e size n cap:Nat} {A:Yy} {xs:List Value} (h:w.ownsRow k e size (A,n,cap) n xs):n<=cap:=by
 exact zaA
theorem qH {w:World} {B e size n cap:Nat} {A:Yy} {xs:List Value} (h:w.ownsRow B e size (A,n,cap) n xs) {m:Nat} (hm:m<B):some m≠(Value.slice A n cap).ownBlock:=by
 intro he;have:=(h.lt m he.symm).1
 omega
theorem zH {w:World} {B e size n cap:Nat} {A:Yy} {xs:List Value} (h:w.ownsRow B e size (A,n,cap) n xs) {m:Nat} (hm:m<B):∀b off,A=some ⟨b,off,none⟩->b≠m:=by
 intro b off hA hb;have Kr:(Value.slice A n cap).ownBlock=some b:=by rw[hA];rfl
 have:=(h.lt b Kr).1
 omega
theorem tb {ops:Array Oper} {o:Oper} {a:Act} {K:Act->World->Prop} {Q:Exit->Act->World->Prop} {X:Prop} {w:World} {t e:TypeId} {z:Value} {size f:Nat}
 (E:cC t e z size f) (G:o.guard=none) (s x:Operand) (ho:o.op=.call {callee:=.builtin .append,args:=#[s,x],argTypes:=#[t,t]})
 {A:Yy} {B n cap:Nat} {xs:List Value} (hs:a.eval s=.slice A n cap) (N:w.ownsRow B e size (A,n,cap) n xs)
 {cs:Array Value} {m c:Nat} (hx:a.eval x=.slice (some (w.heap.size,0)) m c) (hl:cs.size=m*size) (h1:∀u∈cs.toList,u.oneCell'=true) (hm:0<m)
 (i:(n+m)*f<=140737488355328) (q:n+m<=maxLen) (hB:B<=w.heap.size)
 (h:∀g D w',w'.ownsRow B e size (.slice (some ⟨g,0,none⟩) (n+m) D) (n+m) (xs++cs.toList)->w.grownBy w' (Value.ownBlock (A,n,cap))->(Value.ownBlock (A,n,cap)=some g\/w.heap.size<=g)→
  K (a.put o.dst ((g,0),n+m,D)) w'):
 if Region.wanted o (yielded ops a.tmps)=true then Oper.wp Ao o a (w.alloc (.cells cs e)) K Q else X:=by
 obtain⟨Y,L,O,M,T⟩:=info_parts E.info
 refine step_append_lies _ G s x t ho B e Y z size f E.under L O M T E.zcells E.pos _ n xs hs (N.alloc _) (w.heap.size,0) m c cs.toList hx zgn ?_ h1 hm q i zc4 _ rfl ?_
 . intro j u hu
   have hc:(w.alloc (.cells cs e)).cell? (w.heap.size,j)=cs[j]?:=World.cell?_alloc_mark w cs e (0,0) j
   rw[fA,hc]
   simpa using hu
 . intro g D w' p hg hat _
   refine h g D w' p ⟨hg.os,hg.tape,hg.output,by have:=hg.size;simp at this;omega,λk hk hne=>(hg.block k zc4 hne).trans (Below.heap_alloc w _ k hk)⟩ ?_
   rcases hat with h|h
   . exact .inl h
   . right;simp at h;omega
theorem xV (n:Nat) (h:n<16) (k:Int) (hk:k=(n:Int)) (w:World):(Instr.index 9 (.string (bs [48,49,50,51,52,53,54,55,56,57,97,98,99,100,101,102])) (.int .u8 k)).run Ao w=.ok (bj (pF n)) w:=by
 subst hk;rw[run_index_string w 9 _ _ _ Tryz.underlying9];have f:(n:Int)<16:=om;simp only[co,List.length_cons,List.length_nil];rw[dif_pos ⟨om,om⟩];simp[jz,pF,Ib,bj,List.getD,h]
theorem Jc (c:UInt8):bits .and .u8 (c.toNat:Int) 15=((c.toNat%16:Nat):Int):=by
 have:=c.toNat_lt;exact(u8_and_nat c.toNat 15 om om).trans (congrArg _ (Nat.and_two_pow_sub_one_eq_mod c.toNat 4))
theorem Hy (b:Y0) (w:World) (hb:b.length<=17592186044416):Calls Ao 115 #[b] w λe w'=>e=.returned (km b)/\Gr w w':=by
 obtain⟨Y,L,O,M,T⟩:=info_parts E.u8.info;obtain⟨w1,Lm,N,F⟩:=run_make_own (P:=Ao) w w.heap.size 105 5 Y (.int .u8 0) 1 Tryz.underlying105 L O M .i64 .i64 (2*b.length) zfR zc1 (Dg _)
 have H:Gr w w1:=(B4 w).grown F zeI
 have e2:((2*b.length:Nat):Int)=2*(b.length:Int):=by simp
 rw[e2]at Lm;obtain⟨w2,cap,Km,y,hB⟩:=vd Tryz.underlying9 Tryz.underlying105 Tryz.underlying5 w1 b zc1;have Q:=av N y;have g:=(N.lt w.heap.size rfl).2
 have J:=H.trans y;have Ka:w.heap.size<=w1.heap.size:=H.size;clear F H y N e2 L O M T;go_enter Tryz.func115,Tryz.ntmps115
 go_wp2_with fail
 obtain⟨I,H⟩:=zq (w1.heap.size);rw[<-H]at hB;rw[<-H];have hne:w.heap.size≠I:=by(have:=(Q.lt w.heap.size rfl).2);have:I=w1.heap.size:=H;have h1:=g;omega
 have i:ko w2 w.heap.size I cap b:=⟨om,hB.lt,hB.le,hB.max,hB.there,hB.at_⟩;clear hB H Ka g Lm Km;rw[show({data:=#[]}:ByteArray)=bs []from rfl];go_loopw [3,13,5] (λv iv _ wr=>∃(j n:Nat) (ad:Yy) (r:Nat),iv=.int .i64 j/\j<=b.length/\v=.slice ad n r/\n=2*j/\wr.ownsRow w.heap.size 5 1 (ad,n,r) n ((km (b.take j)).map bj)/\Value.ownBlock (ad,n,r)≠some I/\ko wr w.heap.size I cap b/\Gr w wr) (λ_ iv _ _=>b.length-(intOf iv).toNat)
 case atStart=>exact⟨0,0,_,_,rfl,om,rfl,rfl,Q,by simp[Value.ownBlock];exact hne,i,J⟩
 case round=>clear Q i J hne;obtain⟨j,n,ad,r,rfl,hj,rfl,hn,N,hne,hB,hg⟩:=hrel;by_cases hlt:j<b.length;(. have f:(j:Int)<(b.length:Int):=om;have l:wr.cell? ⟨I,j,none⟩=some (.int .u8 (b[j].toNat:Int)):=hB.at_ j _ (by simp[hlt,bj]);obtain⟨c,hc⟩:=zq (b[j]);rw[<-hc]at l;have HC:=aa hc;have hn2:n+2<=140737488355328:=om;(have Nf:n+2<=maxLen:=zc1);have HH:ab ((km (b.take (j+1)))=km (b.take j)++[pF (c.toNat/16),pF (c.toNat%16)]):=aa (by rw[hc,List.take_succ_eq_append_getElem hlt,BN]);have i1:=xV (c.toNat/16) (by have:=c.toNat_lt;omega) ((c.toNat:Int)/16) (by simp);have i2:=xV (c.toNat%16) om ((c.toNat:Int)%16) (by simp);have m:=Jc c;rw[show((c.toNat%16:Nat):Int)=(c.toNat:Int)%16 by simp]at m;have HN:=aa hn;clear hc hn;unfold bj at i1 i2;(go_wp2_with fail);(go_region_law ((refine tb E.u8 rfl (.tmp 17) (.tmp 24) rfl rfl (w:=wr.drew) N.drew rfl rfl zez om om Nf hg.size ?_;intro g' D w' p d hat)));all_goals(go_wp2_with fail);(go_roundw);(case rel=>refine⟨j+1,n+2,some (g',0),D,by go_num,om,rfl,by have:=HN.o;omega,?_,?_,?_,?_⟩;(. rw[HH.o,List.map_append];exact p);(. intro e;(have e':g'=I:=by simpa[Value.ownBlock]using e);subst e';rcases hat with h|h;(. exact hne h);. have:=hB.lt;simp at h;omega);(. have Kv:w'.heap[I]?=wr.drew.heap[I]?:=d.block I hB.lt (λe=>hne e.symm);exact⟨hB.base,Nat.lt_of_lt_of_le hB.lt d.size,hB.le,hB.max,λj hj=>by rw[World.cell?_of_block (a:=⟨I,j,none⟩) Kv,World.frozen?_of_block (a:=⟨I,j,none⟩) Kv];exact hB.there j hj,λj u hu=>by rw[World.cell?_of_block (a:=⟨I,j,none⟩) Kv];exact hB.at_ j u hu⟩);. exact hg.drew.grown d (λk hk=>(N.lt k hk).1));case measure=>simp[intOf];omega);. obtain rfl:j=b.length:=om;(have Km:(convert 105 9 (ad,n,r)).run Ao wr=.ok (km b) wr:=by have:=gF Tryz.underlying105 Tryz.underlying5 Tryz.underlying9 N;rwa [List.take_length]at this);clear hn;(go_wp2_with fail);go_ret;exact⟨rfl,hg⟩
structure Dd where
 k:Int
 b:Int
 w:Int
 ref:Y0
 data:Y0
 sg:Int
 old:Bool
 size:Int
def dM (i:Nat):Y0:=[115,105,103,110,101,114,UInt8.ofNat (48+i)]
def ar (i:Nat):Y0:=[119,105,116,110,101,115,115,UInt8.ofNat (48+i)]
def aT:List (Y0):=[aj (dM 0),aj (dM 1),aj (dM 2)]
def eQ:List (Y0):=[aj (ar 0),aj (ar 1),aj (ar 2),aj (ar 3)]
theorem FA {W:World} {g:Nat} {T:TypeId} {u:Value} (h:ag W g T #[u]):ak W 1 (some (g,0)) 1 [u]:=by
 exact za5
theorem vY {w:World} {B B' e size n:Nat} {v:Value} {xs:List Value} (h:w.ownsRow B e size v n xs) (z:B'<=B):w.ownsRow B' e size v n xs:=by
 refine⟨h.1,?_⟩;rcases h.2 with h0|⟨g,cap,d,e1,hB,r⟩
 . exact .inl h0
 . exact .inr ⟨g,cap,d,e1,Nat.le_trans z hB,r⟩
def FT (w:World) (A0 A':Yy):Prop:=∀k,(Value.slice A' 0 0).ownBlock=some k->(Value.slice A0 0 0).ownBlock=some k\/w.heap.size<=k
theorem tv {t e ty:TypeId} {z:Value} {size f:Nat} (E:cC t e z size f) {B:Nat} {w:World} {A0:Yy} {n0 cap0:Nat} {xs:List Value} (N:w.ownsRow B e size (A0,n0,cap0) n0 xs) {A:Yy} {n c:Nat} {vs:List Value} (C:ak w size A n vs) (hA:A=none->n=0/\c=0) (h1:∀u∈vs,u.oneCell'=true) (i:(n0+n)*f<=140737488355328) (q:n0+n<=maxLen) (hB:B<=w.heap.size):∃U D w',(Builtin.append_ #[t,t] ty #[(A0,n0,cap0),(A,n,c)]).run Ao w=.ok (U,n0+n,D) w'/\w'.ownsRow B e size (.slice U (n0+n) D) (n0+n) (xs++vs)/\w.grownBy w' (Value.ownBlock (A0,n0,cap0))/\FT w A0 U:=by
 obtain⟨U,D,w',hr,ho,hg⟩:=iH (ty:=ty) E N C hA h1 i q hB;refine⟨U,D,w',hr,ho,hg,?_⟩;obtain⟨Y,L,O,M,T⟩:=info_parts E.info;cases A with|none=>(obtain⟨rfl,rfl⟩:=hA rfl;have hv:vs=[]:=List.eq_nil_of_length_eq_zero (by have:=C.len;omega);subst hv;have K:=run_append_owned_none w B t ty e Y size E.under L _ n0 xs N;exact zcV)|some ad=>((have l:∀j u,vs[j]?=some u->w.cell? (ad.add j)=some u:=zaK);have Lb:=C.len;obtain⟨Kk,Q⟩:=N;rcases Q with⟨F,h0⟩|⟨g,cap,d,hv,Ks,y,Lg,Kq,I,m⟩;(. injection F with e1 e2 e3;subst e1 e3 h0;obtain⟨A2,r,w2,K,v,_⟩:=iH (ty:=ty) E (B:=w.heap.size) (w:=w) (A0:=none) (n0:=0) (cap0:=0) (xs:=[]) (World.ownsRow_nil _ _ _ _) C hA h1 i q (Dg _);rw[K]at hr;injection hr with hr _;injection hr with hr _ s;subst hr;intro k hk;exact .inr (v.lt k (by cases A2<;>exact hk)).1);. injection hv with e1 e2 e3;subst e1 e3;by_cases a:n0+n<=cap0;(. (have Ke:n0*Y.size+vs.length<=d.size:=by rw[M,Lb,I,<-Nat.add_mul];exact Nat.mul_le_mul_right _ a);have K:=run_append_room (P:=Ao) w t ty e Y E.under L g n0 cap0 d y ad n c vs (by rw[M];exact Lb) l h1 a Ke;exact zcV);. have p:w.ownsRow B e size ((g,0),n0,cap0) n0 xs:=⟨Kk,.inr ⟨g,cap0,d,rfl,Ks,y,Lg,Kq,I,m⟩⟩;have o:∀j u,xs[j]?=some u->w.cell? (((g,0):Addr).add j)=some u:=p.cells (g:=g) rfl;have K:=run_append_grow (P:=Ao) w t ty e Y z E.under L O (g,0) n0 cap0 xs (by rw[M];exact Kk) o ad n c vs (by rw[M];exact Lb) l om (by simp only[maxLen]at q;omega) (by rw[T];exact growslice_fits om i);rw[K]at hr;injection hr with hr _;injection hr with hr _ _;subst hr;intro k hk;(refine .inr ?_);simp[Value.ownBlock]at hk;omega)
theorem tP {o:Oper} {a:Act} {K:Act->World->Prop} {Q:Exit->Act->World->Prop} {t e:TypeId} {z:Value} {size f:Nat} (E:cC t e z size f) (s x:Operand)
 (ho:o.op=.call {callee:=.builtin .append,args:=#[s,x],argTypes:=#[t,t]}) {B:Nat} {w:World}
 {A0:Yy} {n0 cap0:Nat} {xs:List Value} (hs:a.eval s=.slice A0 n0 cap0) (N:w.ownsRow B e size (A0,n0,cap0) n0 xs)
 {A:Yy} {n c:Nat} {vs:List Value} (hx:a.eval x=.slice A n c) (C:ak w size A n vs) (hA:A=none->n=0/\c=0) (h1:∀u∈vs,u.oneCell'=true)
 (i:(n0+n)*f<=140737488355328) (q:n0+n<=maxLen) (hB:B<=w.heap.size)
 (h:∀U D w',w'.ownsRow B e size (U,n0+n,D) (n0+n) (xs++vs)->w.grownBy w' (Value.ownBlock (A0,n0,cap0))->FT w A0 U->K (a.put o.dst (.slice U (n0+n) D)) w'):o.wp Ao a w K Q:=by
 obtain⟨U,D,w',hr,h2,h3,h4⟩:=tv (ty:=o.type) E N C hA h1 i q hB
 unfold Oper.wp execOp
 simp only[ho,resolve,invoke,builtin,Sem.run_bind,Sem.run_pure,Result.andThen_ok,List.map_toArray,List.map_cons,List.map_nil,hs,hx,hr]
 exact h U D w' h2 h3 h4
theorem lH {ops:Array Oper} {rest:List Oper} {o:Oper} {a:Act} {Q:Exit->Act->World->Prop} {t e:TypeId} {z:Value} {size f:Nat} (E:cC t e z size f) (G:o.guard=none) (s x:Operand)
 (ho:o.op=.call {callee:=.builtin .append,args:=#[s,x],argTypes:=#[t,t]}) {B:Nat} {w:World}
 {A0:Yy} {n0 cap0:Nat} {xs:List Value} (hs:a.eval s=.slice A0 n0 cap0) (N:w.ownsRow B e size (A0,n0,cap0) n0 xs)
 {A:Yy} {n c:Nat} {vs:List Value} (hx:a.eval x=.slice A n c) (C:ak w size A n vs) (hA:A=none->n=0/\c=0) (h1:∀u∈vs,u.oneCell'=true)
 (i:(n0+n)*f<=140737488355328) (q:n0+n<=maxLen) (hB:B<=w.heap.size)
 (h:∀U D w',w'.ownsRow B e size (U,n0+n,D) (n0+n) (xs++vs)->w.grownBy w' (Value.ownBlock (A0,n0,cap0))->FT w A0 U->wpList Ao ops Q rest (a.put o.dst (.slice U (n0+n) D)) w'):wpList Ao ops Q (o::rest) a w:=
 wpList_plain G λ_ hK=>tP E s x ho hs N hx C hA h1 i q hB λU D w' h2 h3 h4=>hK _ _ (h U D w' h2 h3 h4)
def lw (who:Int) (key:Y0) (f n:Int) (r:Y0):Array Value:=#[who,key,n_,f,n,r]
def vV (f n:Int) (r:Y0):Array Value:=#[n_,f,n,r,n_,n_]
theorem rK (who:Int) (key:Y0) (f n:Int) (r:Y0):(lw who key f n r).all (·.oneCell')=true:=by simp[lw,Value.oneCell']
theorem Eo (f n:Int) (r:Y0):(vV f n r).all (·.oneCell')=true:=by simp[vV,Value.oneCell']
def pG (who:Int) (key:Y0):Value:=if 0<=who/\who<4 then .tuple #[.agg (lw who key (-1) 0 (aj [])),i0]else .tuple #[.agg (lw 0 [] 0 0 []),.int .i64 3]
theorem Bf (who:Int) (key:Y0) (w:World) (hT:bK w):Calls Ao 55 #[who,key] w λe w'=>e=.returned (pG who key)/\Gr w w':=by
 by_cases h0:0<=who;. by_cases h1:who<4;(. have HN:ab (pG who key=.tuple #[.agg (lw who key (-1) 0 (aj [])),i0]):=aa (by unfold pG;rw[if_pos ⟨h0,h1⟩]);rw[HN.o];have h3:who<=3:=om;(go_enter Tryz.func55,Tryz.ntmps55);(go_wp2_with(first|(refine ah rfl 38 (.tmp 4) (.tmp 17) rfl (g:=w.heap.size) (cs':=lw who key (-1) 0 (aj [])) rfl rfl hB A.wit rfl (rK _ _ _ _ _) ?_;intro w2 h2 y)|(go_at_call 100;refine(nD _ (hT.gr ((B4 w).alloc _))).mono ?_;rintro e w1 ⟨rfl,I⟩;have hB:=(ag.new w 38 (lw 0 [] 0 0 [])).gr I;have l:Gr w w1:=Gr.trans ((B4 w).alloc _) I)));refine bodyPost_ret (ai rfl _ rfl h2 A.wit) rfl ?_;exact⟨rfl,Gr.only l y (Dg _)⟩);. have HN:ab (pG who key=.tuple #[.agg (lw 0 [] 0 0 []),.int .i64 3]):=aa (by unfold pG;rw[if_neg (λh=>h1 h.2)]);rw[HN.o];have h3:¬who<=3:=om;exact zaS
 . have HN:ab (pG who key=.tuple #[.agg (lw 0 [] 0 0 []),.int .i64 3]):=aa (by unfold pG;rw[if_neg (λh=>h0 h.1)]);rw[HN.o];exact zaS
theorem BS (w:World) (hT:bK w):Calls Ao 56 #[] w λe w'=>e=.returned (.agg (vV (-1) 0 (aj [])))/\Gr w w':=by
 go_enter Tryz.func56,Tryz.ntmps56
 go_wp2_with(first|(refine ah rfl 60 (.tmp 0) (.tmp 3) rfl (g:=w.heap.size) (cs':=vV (-1) 0 (aj [])) rfl rfl hB A.cli rfl (Eo _ _ _) ?_;intro w2 h2 y)|(go_at_call 100;refine(nD _ (hT.gr ((B4 w).alloc _))).mono ?_;rintro e w1 ⟨rfl,I⟩;have hB:=(ag.new w 60 (vV 0 0 [])).gr I;have l:Gr w w1:=Gr.trans ((B4 w).alloc _) I))
 refine bodyPost_ret (aA rfl _ rfl h2 A.cli) rfl ?_;exact⟨rfl,Gr.only l y (Dg _)⟩
theorem su:dZ 53 3:=⟨⟨_,Tryz.underlying53,rfl⟩,by kernel_rfl⟩
theorem C1 (A:Yy) (n c:Nat) (B:Yy) (m d:Nat) (k:Int):(#[(A,n,c),(B,m,d),k]:Array Value).all (·.oneCell')=true:=by simp[Value.oneCell']
section
open Go
section
variable{P:Program} {ops:Array Oper} {Q:Exit→Act→World→Prop} {md:Region.Mode} {S1 S2:World→Prop} {T:List Nat}
def i9 (T:List Nat) (listed:Array Bool):Prop:=∀t∈T,listed.getD t true=false
def lq (P:Program) (md:Region.Mode) (ops:Array Oper) (Q:Exit->Act->World->Prop) (S1 S2:World->Prop) (T:List Nat):Nat->Array Bool->Act->World->Prop
 |0,listed,a,w=>Region.ready md ops listed=[]/\Q .normal a w
 |fuel+1,listed,a,w=>
  (Region.ready md ops listed=[]->Q .normal a w)∧
  ∀i∈Region.ready md ops listed,wpOp P ops Q i (λa' w'=>(S1 w'/\(i9 T (listed.setIfInBounds i true)->S2 w'))/\lq P md ops Q S1 S2 T fuel (listed.setIfInBounds i true) a' w') a w
theorem xT:∀(fuel:Nat) (d:Array Bool) (a:Act) (w:World),lq P md ops Q S1 S2 T fuel d a w->wpAny P md ops Q fuel d a w
 |0,_,_,_,h=>h
 |fuel+1,_,_,_,h=>⟨h.1,λi hi=>wpOp_mono (λa' w' h'=>xT fuel _ a' w' h'.2) (h.2 i hi)⟩
theorem my {d:Array Bool} {i:Nat} (hi:i∉T):i9 T (d.setIfInBounds i true)↔i9 T d:=by
 have e:∀t∈T,(d.setIfInBounds i true).getD t true=d.getD t true:=λt ht=>getD_set_ne true (λe=>hi (e▸ht))
 exact⟨λh t ht=>(e t ht).symm.trans (h t ht),λh t ht=>(e t ht).trans (h t ht)⟩
theorem tD {S:World->Prop} {i:Nat} {g:Oper} {v:Value} (hi:ops[i]?=some g) (s:∀(j:Nat) (o:Oper) cs b,ops[j]?=some o->o.op≠.select cs b) (hQ:∀c a w,Q (.panic c) (a.put g.dst v) w->Q (.panic c) a w) (l:i∉T) (hS:∀w,S1 w->S2 w->S w) (hT:(∀w,S1 w->S w)\/∀t∈T,∀z,ops[t]?=some z->∃e∈z.after,Region.binds md e=true/\e.on=i):∀(fuel:Nat) (d:Array Bool) (a:Act) (w:World),(∀j u,ops[j]?=some u->j≠i->d.getD j true=false->(∀e∈u.after,Region.binds md e=true->e.on≠i)->g.apart ops u=true)→i∈Region.ready md ops d->YieldsIf P ops S g v a->(S1 w/\(i9 T d->S2 w))->((∀w,S1 w->S w)\/i9 T d)→lq P md ops Q S1 S2 T fuel (d.setIfInBounds i true) (a.put g.dst v) w->lq P md ops Q S1 S2 T (fuel+1) d a w:=by
 have A:∀(d:Array Bool) w,((∀w,S1 w->S w)\/i9 T d)->(S1 w/\(i9 T d->S2 w))->S w:=λd w hn h=>by rcases hn with hn|hn;(. exact hn w h.1);. exact hS w h.1 (h.2 hn)
 intro fuel
 induction fuel with
 |zero=>
  intro d a w _ hr hy m hn H
  refine⟨λh=>(by rw[h]at hr;cases hr),λj hj=>?_⟩
  by_cases f:j=i
  . exact zbU
  . have:=ready_mono hj f
    rw[H.1]at this
    cases this
 |succ fuel J=>
  intro d a w n hr hy m hn H
  refine⟨λh=>(by rw[h]at hr;cases hr),λj hj=>?_⟩
  by_cases f:j=i
  . exact zbU
  . have h1:=H.2 j (ready_mono hj f)
    obtain⟨x,u,q,Kq⟩:=mem_ready.1 hj
    have y:∀e∈u.after,Region.binds md e=true->e.on≠i:=λe he hb heq=>by
     have h1:=Kq e he hb
     have h0:=(mem_ready.1 hr).1
     rw[heq]at h1
     rcases Nat.lt_or_ge i d.size with h'|h'
     . simp[h']at h0 h1;rw[h0]at h1;cases h1
     . simp[Array.getElem?_eq_none h']at h1
    have p:(∀w,S1 w->S w)\/i9 T (d.setIfInBounds j true):=by
     rcases hn with hn|hn
     . exact .inl hn
     . rcases hT with hT|hT
       . exact .inl hT
       . refine .inr ((my (λhjT=>?_)).2 hn)
         obtain⟨e,he,hb,heq⟩:=hT j hjT u q
         exact y e he hb heq
    have h2:=wpOp_putIf q (n j u q f x y) (λcs b=>s i g cs b hi) (λcs b=>s j u cs b q) hQ hy h1
    have r:∀k ok,ops[k]?=some ok->k≠i->(d.setIfInBounds j true).getD k true=false→
     (∀e∈ok.after,Region.binds md e=true->e.on≠i)->g.apart ops ok=true:=λk ok hk hki hun hno=>by
     refine n k ok hk hki ?_ hno
     by_cases hjk:j=k
     . subst hjk;exact x
     . rw[getD_set_ne true hjk]at hun;exact hun
    refine wpOp_mono (λa' w' h3=>?_) h2
    have B:S1 w'/\(i9 T (d.setIfInBounds j true)->S2 w'):=⟨h3.2.1.1,λh=>h3.2.1.2 (by
     rw[Array.setIfInBounds_comm _ _ (Ne.symm f)]
     exact(my l).2 h)⟩
    refine⟨B,J (d.setIfInBounds j true) a' w' r (ready_mono hr (Ne.symm f)) h3.1 B p ?_⟩
    rw[Array.setIfInBounds_comm _ _ f]
    exact h3.2.2
def mI (T:List Nat) (listed:Array Bool):Bool:=T.all λt=>!(listed.getD t true)
theorem lE {d:Array Bool}:mI T d=true↔i9 T d:=by
 unfold mI i9;rw[List.all_eq_true];exact⟨λh t ht=>by simpa using h t ht,λh t ht=>by simpa using h t ht⟩
def vL (md:Region.Mode) (ops:Array Oper) (i t:Nat):Bool:=match ops[t]? with
 |some o=>o.after.any λe=>Region.binds md e&&e.on==i
 |none=>true
theorem yN {i t:Nat} (h:vL md ops i t=true):∀z,ops[t]?=some z->∃e∈z.after,Region.binds md e=true/\e.on=i:=by
 intro z I;unfold vL at h;rw[I]at h;simp only[Array.any_eq_true']at h;obtain⟨e,he,hb⟩:=h;rw[Bool.and_eq_true,beq_iff_eq]at hb;exact⟨e,he,hb.1,hb.2⟩
theorem dH {i:Nat} {g:Oper} {v:Value} {fuel:Nat} {d:Array Bool} {a:Act} {w:World} (hi:ops[i]?=some g)
 (hs:Region.noSelect ops=true) (hf:Region.free md ops d i=true) (hr:(Region.ready md ops d).contains i=true) (l:T.contains i=false)
 (hQ:∀c a w,Q (.panic c) (a.put g.dst v) w->Q (.panic c) a w) (hy:YieldsIf P ops S1 g v a) (m:S1 w/\(mI T d=true->S2 w))
 (h:lq P md ops Q S1 S2 T fuel (d.setIfInBounds i true) (a.put g.dst v) w):lq P md ops Q S1 S2 T (fuel+1) d a w:=
 tD hi (Region.noSelect_spec hs) hQ (by simpa using l) (λ_ h _=>h) (.inl λ_ h=>h) fuel d a w (Region.free_spec hi hf) (by simpa using hr) hy ⟨m.1,λh=>m.2 (lE.2 h)⟩ (.inl λ_ h=>h) h
theorem BU {i:Nat} {g:Oper} {v:Value} {fuel:Nat} {d:Array Bool} {a:Act} {w:World} (hi:ops[i]?=some g)
 (hs:Region.noSelect ops=true) (hf:Region.free md ops d i=true) (hr:(Region.ready md ops d).contains i=true) (l:T.contains i=false) (hW:T.all (vL md ops i)=true) (hN:mI T d=true)
 (hQ:∀c a w,Q (.panic c) (a.put g.dst v) w->Q (.panic c) a w) (hy:YieldsIf P ops (λw=>S1 w/\S2 w) g v a) (m:S1 w/\(mI T d=true->S2 w))
 (h:lq P md ops Q S1 S2 T fuel (d.setIfInBounds i true) (a.put g.dst v) w):lq P md ops Q S1 S2 T (fuel+1) d a w:=
 tD hi (Region.noSelect_spec hs) hQ (by simpa using l) (λ_ h1 h2=>⟨h1,h2⟩) (.inr λt ht=>yN (List.all_eq_true.1 hW t ht)) fuel d a w (Region.free_spec hi hf) (by simpa using hr) hy ⟨m.1,λh=>m.2 (lE.2 h)⟩ (.inr (lE.1 hN)) h
def fT (P:Program) (md:Region.Mode) (ops:Array Oper) (Q:Exit->Act->World->Prop) (S1 S2:World->Prop) (T:List Nat) (fuel:Nat) (listed:Array Bool) (a:Act) (w:World) (rs:List Nat):Prop:=
 ∀i∈rs,wpOp P ops Q i (λa' w'=>(S1 w'/\(i9 T (listed.setIfInBounds i true)->S2 w'))/\lq P md ops Q S1 S2 T fuel (listed.setIfInBounds i true) a' w') a w
theorem fT.nil {fuel:Nat} {d:Array Bool} {a:Act} {w:World}:fT P md ops Q S1 S2 T fuel d a w []:=λ_ h=>by cases h
theorem fT.cons {fuel:Nat} {d:Array Bool} {a:Act} {w:World} {i:Nat} {o:Oper} {rs:List Nat} (ho:ops[i]?=some o)
 (h:∀K':Act->World->Prop,Shut (∀a w,S1 w->(mI T (d.setIfInBounds i true)=true->S2 w)->lq P md ops Q S1 S2 T fuel (d.setIfInBounds i true) a w->K' a w)->if Region.wanted o (yielded ops a.tmps)=true then Oper.wp P o a w K' Q else K' (a.put o.dst undef) w)
 (hs:fT P md ops Q S1 S2 T fuel d a w rs):fT P md ops Q S1 S2 T fuel d a w (i::rs):=λj hj=>by
 rcases List.mem_cons.1 hj with rfl|hj
 . exact wpOp_step ho (λK' hK=>h K' (λa w h1 h2 hW=>hK a w ⟨⟨h1,λh=>h2 (lE.2 h)⟩,hW⟩))
 . exact hs j hj
theorem gf {rs:List Nat} {fuel:Nat} {d:Array Bool} {a:Act} {w:World} (hr:Region.ready md ops d=rs) (hne:rs≠[])
 (h:fT P md ops Q S1 S2 T fuel d a w rs):lq P md ops Q S1 S2 T (fuel+1) d a w:=⟨λh0=>absurd (hr▸h0) hne,hr▸h⟩
theorem vg {d:Array Bool} {a:Act} {w:World} (hr:Region.ready md ops d=[]) (h:Q .normal a w):∀fuel,lq P md ops Q S1 S2 T fuel d a w
 |0=>⟨hr,h⟩
 |_+1=>⟨λ_=>h,by rw[hr];simp⟩
theorem yz {id:Nat} {a:Act} {w:World} (T:List Nat) (S1 S2:World->Prop) (hm:P.follows .mixedOrders=true)
 (h:lq P .any ops Q S1 S2 T ops.size (Array.replicate ops.size false) a w.drew):(Code.region id ops true).wp P Q a w:=
 wp_region_any hm (xT _ _ _ _ h)
theorem kN {b:Bool} (h:b=true) (h':b=false):False:=by rw[h]at h';cases h'
end
end
end Go.Proofs.YtdpombnelangjaaGreatDoor
