/- Lemmas, each with its conditions. -/
import Derived.Test.YtdpombnelangjaaGreatDoorP14
namespace Go.Proofs.YtdpombnelangjaaGreatDoor
open Go.RowKit
set_option maxRecDepth 100000
set_option maxHeartbeats 64000000
set_option linter.unusedVariables false
open Go.Proofs.Tryz renaming prog → Ao
open Calls renaming mono → Bo
open Gr renaming refl → B4
open Nat renaming le_refl → Dg
theorem FC {n:Nat} (h:n<256):(UInt8.ofNat n).toNat=n:=by simp[UInt8.toNat_ofNat'];omega
theorem DE (r:Y0):∀(n i m:Nat),n*128^i<4611686018427387904->(0<i->0<n)->eO i m (eB n++r)=some (m+n*128^i,i+(eB n).length):=by
 intro n;induction n using Nat.strongRecOn with|ind n J=>intro i m hb h0;have e8:(128:Nat)^8=72057594037927936:=dc0;have j:(128:Nat)^9=9223372036854775808:=dc0;(have h9:¬9<=i:=by intro h;have h1:=h0 om;have h2:128^9<=128^i:=Nat.pow_le_pow_right om h;have h3:1*128^i<=n*128^i:=Nat.mul_le_mul_right _ h1;omega);by_cases hs:n<128;(. rw[ic hs];(have hc:(UInt8.ofNat n).toNat=n:=FC om);rw[List.singleton_append,eO,hc,if_neg h9,if_neg (by rintro⟨rfl,h⟩;have:64*128^8<=n*128^8:=Nat.mul_le_mul_right _ h;omega),if_pos hs,if_neg (by rintro⟨h1,h2⟩;have:=h0 h1;omega),Nat.mod_eq_of_lt hs];rfl);. rw[qK hs];(have hc:(UInt8.ofNat (n%128+128)).toNat=n%128+128:=FC om);(have hd:n/128*128^(i+1)<=n*128^i:=by rw[Nat.pow_succ,Nat.mul_comm (128^i) 128,<-Nat.mul_assoc];exact Nat.mul_le_mul_right _ (Nat.div_mul_le_self n 128));have hq:0<n/128:=om;rw[List.cons_append,eO,hc,if_neg h9,if_neg (by rintro⟨rfl,h⟩;have:128*128^8<=n*128^8:=Nat.mul_le_mul_right _ om;omega),if_neg om,J (n/128) om (i+1) _ om (λ_=>hq)];have e1:(n%128+128)%128=n%128:=om;(have e2:n%128*128^i+n/128*128^(i+1)=n*128^i:=by rw[Nat.pow_succ,Nat.mul_comm (128^i) 128,<-Nat.mul_assoc,<-Nat.add_mul];congr 1;omega);rw[e1,Nat.add_assoc,e2,List.length_cons];congr 2;omega
theorem tI (n:Nat) (r:Y0) (h:n<4611686018427387904):lo (eB n++r)=some (n,(eB n).length):=by
 unfold lo;rw[DE r n 0 0 zfc (λh=>absurd h om)];simp
theorem vZ {n:Nat} (r:Y0) (h:n<4611686018427387904):aD (eB n++r,0)=n/\ao (eB n++r,0)=(r,0):=by
 obtain⟨h1,h2,h3⟩:=mK (tI n r h);refine⟨by unfold aD;rw[if_pos rfl,h1],?_⟩;unfold ao;rw[if_pos rfl];simp only;rw[h2,h3,List.drop_left'];rfl
theorem IG (b r:Y0):cu (b.length:Int) (b++r,0)=b/\aN (b.length:Int) (b++r,0)=(r,0):=by
 have h:(0:Int)<=(b.length:Int)/\(b.length:Int)<=((b++r).length:Int):=ziJ
 refine⟨?_,?_⟩;. unfold cu;rw[if_pos ⟨rfl,h⟩,Int.toNat_natCast];exact List.take_left' rfl
 . unfold aN;rw[if_pos rfl,if_pos h,Int.toNat_natCast];simp only;rw[List.drop_left' rfl]
theorem yi {b:Y0} (r:Y0) (h:b.length=32):cu 32 (b++r,0)=b/\aN 32 (b++r,0)=(r,0):=by
 have:=IG b r;rw[h]at this;exact this
theorem tF (t r:Y0) (h:t.length<=4096):cx (txt t++r,0)=t/\aS (txt t++r,0)=(r,0):=by
 have e:txt t++r=eB t.length++(t++r):=by unfold txt;rw[List.append_assoc]
 rw[e];obtain⟨h1,h2,h3⟩:=mK (tI t.length (t++r) om);have z:sU (eB t.length++(t++r)):=by refine⟨h3,om,?_⟩;rw[h1,h2,List.length_append,List.length_append];omega
 obtain⟨k1,k2,k3⟩:=AG z;have hd:(eB t.length++(t++r)).drop (eB t.length).length=t++r:=List.drop_left' rfl
 refine⟨?_,?_⟩;. unfold cx;rw[if_pos rfl];simp only;rw[k1,h1,h2];unfold dm;rw[hd,Nat.add_sub_cancel_left];exact List.take_left' rfl
 . unfold aS;rw[if_pos rfl];simp only;rw[k2,k3,h1,h2,<-List.drop_drop,hd,List.drop_left' rfl]
theorem EI {n:Int} {r:Y0} (h:(aG n r).2=0):gQ (aG n r).1=(n,r,0):=by
 have hE:ij n r=0:=zce
 obtain⟨h0,h1,h2⟩:=nc hE;have e:(aG n r).1=eB n.toNat++r:=by unfold aG;rw[if_pos hE,iD h0 om]
 obtain⟨I,Z,g3⟩:=mK (tI n.toNat r om);rw[e];have hl:(eB n.toNat++r).length-(eB n.toNat).length=32:=by rw[List.length_append,h2];omega
 have hd:(eB n.toNat++r).drop (eB n.toNat).length=r:=List.drop_left' rfl
 have hn:((n.toNat:Nat):Int)=n:=om;unfold gQ;rw[I,Z,g3,if_pos ⟨rfl,hl⟩,hd,hn,if_pos hE]
theorem zy:∀(K:List Int) (ss:List (Y0)) (r:Y0),K.length=ss.length->(∀x∈ss,x.length=32)->(∀w∈K,0<=w/\w<=7)->j7 K.length (fK K ss++r,0)=(K,ss,(r,0))
 |[],[],r,_,_,_=>rfl
 |[],_::_,r,h,_,_=>by simp at h
 |_::_,[],r,h,_,_=>by simp at h
 |w::K,s::ss,r,h,hs,hw=>by
  have h1:=hs s (List.mem_cons_self ..)
  have h2:=hw w (List.mem_cons_self ..)
  have J:=zy K ss r zfc (λx hx=>hs x (List.mem_cons_of_mem _ hx)) (λx hx=>hw x (List.mem_cons_of_mem _ hx))
  have e:fK (w::K) (s::ss)++r=eB w.toNat++(s++(fK K ss++r)):=by
   show aZ w++s++fK K ss++r=_
   rw[iD h2.1 om]
   simp only[List.append_assoc]
  obtain⟨a1,a2⟩:=vZ (n:=w.toNat) (s++(fK K ss++r)) om
  obtain⟨b1,b2⟩:=yi (fK K ss++r) h1
  have e2:j7 ((w::K).length) (fK (w::K) (s::ss)++r,0)=j7 (K.length+1) (eB w.toNat++(s++(fK K ss++r)),0):=zfq
  rw[e2,j7,if_pos rfl,a1,a2,b1,b2,J]
  have e3:((w.toNat:Nat):Int)=w:=om
  rw[e3]
theorem vm {s:aF} (h:(bF s).2=0):eR s=0:=by
 unfold bF at h;split at h;. assumption
 . exact h
theorem Gd {s:aF} (h:(bF s).2=0):jT (bF s).1=(s,0):=by
 have hE:=vm h;obtain⟨_,h1,h2,h3,h4,h5,h6,h7,_⟩:=gJ hE;have e:(bF s).1=txt s.r++(txt s.o++(txt s.n++(eB s.who.length++(fK s.who s.seals++[])))):=by unfold bF;rw[if_pos hE,m9 om,List.append_nil];simp only[List.append_assoc]
 obtain⟨a1,a2⟩:=tF s.r (txt s.o++(txt s.n++(eB s.who.length++(fK s.who s.seals++[])))) om;obtain⟨b1,b2⟩:=tF s.o (txt s.n++(eB s.who.length++(fK s.who s.seals++[]))) om;obtain⟨c1,c2⟩:=tF s.n (eB s.who.length++(fK s.who s.seals++[])) om;obtain⟨d1,d2⟩:=vZ (n:=s.who.length) (fK s.who s.seals++[]) om;have k3:wM (bF s).1=(eB s.who.length++(fK s.who s.seals++[]),0):=by unfold wM;rw[e,a2,b2,c2]
 have a:si (bF s).1=(s.who,s.seals,([],0)):=by unfold si;rw[k3,d1,d2];exact zy s.who s.seals [] h5.symm h6 (λw hw=>by have:=h7 w hw;omega)
 have b:zD (bF s).1=s:=by unfold zD;rw[a,e,a1,a2,b1,b2,c1]
 unfold jT;rw[a,b,if_pos ⟨rfl,rfl⟩,if_pos hE]
theorem tZ {l:List aF} (h:dN l=0):∀s∈l,(bF s).2=0:=by
 induction l with|nil=>(intro s hs;cases hs)|cons a r J=>intro s hs;have h':(if(bF a).2=0 then dN r else(bF a).2)=0:=h;split at h';(. rename_i ha;(rcases List.mem_cons.1 hs with rfl|hs);(. exact ha);. exact J h' s hs);. rename_i ha;exact absurd h' ha
def cI (l:List aF):Y0:=l.flatMap λs=>txt (bF s).1
theorem zF:∀(l:List aF) (q:Y0),(∀s∈l,(bF s).2=0)->oI l (q,0)=((q++cI l,0),0)
 |[],q,_=>by simp[oI,cI]
 |s::r,q,h=>by
  have h0:=h s (List.mem_cons_self ..)
  have hl:(bF s).1.length<=4096:=ziz
  have e:bX (bF s).1 (q,0)=(q++txt (bF s).1,0):=zh3
  rw[oI,if_pos h0,e,zF r _ (λx hx=>h x (List.mem_cons_of_mem _ hx))]
  simp[cI,List.append_assoc]
theorem xP:∀(l:List aF) (k:Nat) (a:List aF),(∀s∈l,(bF s).2=0)->l.length<=k->qz k (cI l,0) a=some (a++l,([],0))
 |[],k,a,_,_=>by rw[vO (.inl rfl),List.append_nil];rfl
 |s::r,k,a,h,hk=>by
  obtain⟨k,rfl⟩:∃j,k=j+1:=⟨k-1,by simp at hk;omega⟩
  have h0:=h s (List.mem_cons_self ..)
  have hl:(bF s).1.length<=4096:=ziz
  have e:cI (s::r)=txt (bF s).1++cI r:=by simp[cI]
  obtain⟨a1,a2⟩:=tF (bF s).1 (cI r) hl
  have hne:¬((txt (bF s).1++cI r).length=0\/(0:Nat)≠0):=by
   rintro(h|h)
   . have:=tV (bF s).1.length
     unfold txt at h
     simp only[List.length_append]at h
     omega
   . exact h rfl
  have hd:=Gd h0
  rw[e,yu hne (by rw[a1,hd]),a1,a2,hd,xP r k _ (λx hx=>h x (List.mem_cons_of_mem _ hx)) (by simp at hk;omega)]
  simp
theorem Fb (l:List aF):l.length<=(cI l).length:=by
 induction l with|nil=>simp[cI]|cons s r J=>(have e:cI (s::r)=txt (bF s).1++cI r:=by simp[cI]);(have:=tV (bF s).1.length);rw[e,List.length_append,List.length_cons];unfold txt;rw[List.length_append];omega
theorem GV (l:List aF):(cI l).length<=l.length*1033:=by
 induction l with|nil=>simp[cI]|cons s r J=>(have e:cI (s::r)=txt (bF s).1++cI r:=by simp[cI]);have h1:=ls s;(have:=gV (bF s).1 om);rw[e,List.length_append,List.length_cons];omega
theorem xw:∀(l:List aF) (q:Y0),(oI l (q,0)).2=dN l
 |[],q=>rfl
 |s::r,q=>by
  show _=if(bF s).2=0 then dN r else(bF s).2
  have hl:(bF s).1.length<=4096:=ziz
  have e:bX (bF s).1 (q,0)=(q++txt (bF s).1,0):=zh3
  rw[oI,e]
  by_cases h:(bF s).2=0
  . rw[if_pos h,if_pos h];exact xw r _
  . rw[if_neg h,if_neg h]
theorem rM (n:Int) (r:Y0) (l:List aF):ji n r l=if(aG n r).2≠0 then([],(aG n r).2)else if dN l≠0 then([],dN l)else((aG n r).1++cI l++aj ((aG n r).1++cI l),0):=by
 have e1:df (aG n r).1 ([],0)=((aG n r).1,0):=by unfold df;rw[if_pos rfl];rfl
 unfold ji;rw[e1,xw];by_cases h:(aG n r).2=0
 . by_cases hl:dN l=0;(. (have h1:¬(aG n r).2≠0:=by rw[h];simp);(have h2:¬dN l≠0:=by rw[hl];simp);simp only[if_neg h1,if_neg h2];rw[zF l _ (tZ hl)];rfl);. (have h1:¬(aG n r).2≠0:=by rw[h];simp);simp only[if_neg h1,if_pos (show dN l≠0 from hl)]
 . simp only[if_pos (show(aG n r).2≠0 from h)]
theorem CR {n:Int} {r:Y0} {l:List aF} (gs:List Fl) (u:Int) (ss:List (Y0)) (z:Int) (h:(aG n r).2=0) (hl:∀s∈l,(bF s).2=0) (ho:aw l=(n,r,0)) (hr:(dg ss z l).2.2=0):mt gs u ss z ((aG n r).1++cI l)=.full gs u n r l (dg ss z l).1:=by
 have hE:ij n r=0:=zce
 obtain⟨h0,h1,h2⟩:=nc hE;have e:(aG n r).1++cI l=eB n.toNat++(r++cI l):=by unfold aG;rw[if_pos hE,iD h0 om,List.append_assoc]
 obtain⟨a1,a2⟩:=vZ (n:=n.toNat) (r++cI l) om;obtain⟨b1,b2⟩:=yi (cI l) h2;have hn:((n.toNat:Nat):Int)=n:=om;unfold mt;rw[e,a1,a2,b1,b2,xP l _ [] hl (by have:=Fb l;simp only;omega),List.nil_append,hn];unfold vC;simp only[ho,hr,and_self,if_true]
def pI (c:eU) (hn:Int) (hr:Y0) (L:List aF) (rs:List Rf) (rb:Y0) (q:List Fl×Int×Int):eU×Int:=
 if q.2.2≠0 then({c with fs:=q.1,f:=q.2.1},q.2.2)
 else if(aY q.1 q.2.1 bo rb).2.2≠0 then({c with fs:=(aY q.1 q.2.1 bo rb).1,f:=(aY q.1 q.2.1 bo rb).2.1},(aY q.1 q.2.1 bo rb).2.2)
 else(⟨(aY q.1 q.2.1 bo rb).1,(aY q.1 q.2.1 bo rb).2.1,hn,hr,L,rs⟩,0)
theorem uc (ρ:fX) (c:eU) (ss K:List (Y0)) (z hn:Int) (hr:Y0) (ms:List (Int×Y0)) (frm:Int) (f:List (Y0)) (steps:List aF) (g:Y0) {e1 e3:Int} {o:Int×Y0×Int} {p:List Rf×Int×Int} {mo:List (Y0)×Int} {we:Int} {b:Y0×Int} (h1:e1=rl K hn hr ms) (h3:e3=kC c.sz c.rt hn hr f) (ho:o=aw (c.l++steps)) (V:p=dg ss z (c.l++steps)) (hm:mo=mj g (gI c.fs)) (hw:we=rU ρ c.fs mo.1 p.1 steps) (hb:b=ji hn hr (c.l++steps)):gT ρ c ss K z hn hr ms frm f steps g=if e1≠0 then(c,e1)else if frm≠c.sz\/frm≠(c.l.length:Int)then(c,9)else if e3≠0 then(c,e3)else if o.2.2≠0 then(c,o.2.2)else if¬(o.1=hn/\o.2.1=hr)then(c,16)else if p.2.2≠0 then(c,p.2.2)else if mo.2≠0 then(c,mo.2)else if we≠0 then(c,we)else if b.2≠0 then(c,b.2)else pI c hn hr (c.l++steps) p.1 b.1 (jl mo.1 c.fs c.f):=by
 subst h1 h3 ho V hm hw hb;rfl
theorem BB {l:List (Y0)} {i:Nat} (h:i<l.length) (fs:List Fl) (f:Int):jl (l.drop i) fs f=if(gh fs f l[i]).2.2.2=0 then jl (l.drop (i+1)) (gh fs f l[i]).1 (gh fs f l[i]).2.1 else((gh fs f l[i]).1,(gh fs f l[i]).2.1,(gh fs f l[i]).2.2.2):=by
 rw[List.drop_eq_getElem_cons h];rfl
theorem DH (fs:List Fl) (f:Int):jl [] fs f=(fs,f,0):=rfl
theorem I4 {b:Y0} {out:List (Y0)}:(mj b out).1.length<=400/\∀x∈(mj b out).1,x.length<=8192:=by
 have hz:∀(F:Y0->Option (Y0)) (n:Nat) (L:List (Y0×Nat)) (q:St),ue L->∀x∈(jf F n L q).1,x.length<=8192:=by intro F n;induction n with|zero=>(intro L q hL x hx;rw[jf]at hx;split at hx;(. (obtain⟨y,hy,rfl⟩:=List.mem_map.1 hx);exact hL.len y hy);. cases hx)|succ n J=>intro L q hL x hx;rw[jf]at hx;split at hx;(. cases hx);. split at hx;(. cases hx);. rename_i h2;split at hx;(. cases hx);. refine J _ _ ⟨λy hy=>?_,λy hy=>?_⟩ x hx;(. (rcases List.mem_append.1 hy with hy|hy);(. exact hL.len y hy);. simp only[List.mem_singleton]at hy;subst hy;exact qG (Classical.not_not.1 h2));. (rcases List.mem_append.1 hy with hy|hy);(. exact hL.deep y hy);. simp only[List.mem_singleton]at hy;subst hy;exact(CD (k:=max q.1.length 8192) (Nat.le_max_left _ _) (Nat.le_max_right _ _)).deep
 unfold mj;split;. simp
 . split;(. simp);. split;(. simp);. split;(. simp);. rename_i h;refine⟨?_,hz _ _ _ _ ⟨λx hx=>(by cases hx),λx hx=>(by cases hx)⟩⟩;have:=zv (dl out) (aD (dm b 1 (b.length-32),0)) [] (ao (dm b 1 (b.length-32),0));simp only[List.length_nil]at this;omega
theorem DN {ss:List (Y0)} {z at_:Int} {s:aF} (h:jg ss z at_ s=0):eR s=0:=by
 unfold jg at h;split at h;. assumption
 . exact h
theorem ua (ss:List (Y0)) (z:Int):∀(l:List aF) (i:Nat) (fs:List Rf),oQ 60 fs->oQ 60 (jW ss z i l fs).1
 |[],i,fs,h=>h
 |s::r,i,fs,h=>by
  rw[jW]
  split
  . rename_i h1
    obtain⟨_,a,b,c,_⟩:=gJ (DN h1)
    split
    . exact ua ss z r (i+1) _ (zJ h a om).1
    . exact⟨by simp⟩
  . exact⟨by simp⟩
theorem vU (ss:List (Y0)) (z:Int) (l:List aF):(dg ss z l).1.length<=200/\∀r∈(dg ss z l).1,r.2.length<=60:=by
 unfold dg;split;. simp
 . have h1:=xY ss z l 0 [];have h2:=ua ss z l 0 [] ⟨by simp⟩;refine⟨by simp only[List.length_nil]at h1;omega,λr hr=>(h2.each r hr).2⟩
theorem Ei (n:Int) (r:Y0) (l:List aF):(ji n r l).1.length<=100+l.length*1033:=by
 rw[rM];have h1:=lI n r;have h2:=GV l;have h3:=br ((aG n r).1++cI l);split;. simp
 . split;(. simp);. simp only[List.length_append,h3];omega
def jU (w w':World):Prop:=∀b o s,w.cell? ⟨b,o,none⟩=some (.string s)->w'.cell? ⟨b,o,none⟩=some (.string s)
theorem jU.refl (w:World):jU w w:=λ_ _ _ h=>h
theorem jU.trans {a b c:World} (h:jU a b) (k:jU b c):jU a c:=λx o s hs=>k x o s (h x o s hs)
theorem jU.gr {a b:World} (g:Gr a b):jU a b:=λx o s hs=>(g.below.cell (p:=⟨x,o,none⟩) (World.block_lt_of_cell? a _ hs)).trans hs
theorem jU.set {w:World} {g i:Nat} {T:TypeId} {cs:Array Value} {v:Value} (hb:ag w g T cs) (h:∀s,cs[i]?≠some (.string s)):jU w (w.setCell (g,i) v):=by
 intro b o s hs;by_cases Ks:b=g;. subst Ks;have h1:=hb.cell o;rw[hs]at h1;have hne:o≠i:=λe=>h s (by rw[<-e];exact h1.symm);rw[(hb.set_ i v).cell o,Array.getElem?_setIfInBounds_ne om,<-h1]
 . (have h1:(w.setCell (g,i) v).heap[b]?=w.heap[b]?:=Below.heap_setCell _ _ _ _ Ks);rw[World.cell?_of_block (a:=⟨b,o,none⟩) h1];exact hs
theorem aE.keepS {w w':World} {A:Yy} {n:Nat} {ss:List (Y0)} (h:aE w A n ss) (k:jU w w'):aE w' A n ss:=
 ⟨ak.len h,λhn=>by
  obtain⟨b,off,e,hc⟩:=ak.at_ h hn
  refine⟨b,off,e,λi v hv=>?_⟩
  have h1:=hc i v hv
  rw[List.getElem?_map]at hv
  obtain⟨s,_,rfl⟩:=Option.map_eq_some_iff.1 hv
  exact k b _ _ h1⟩
theorem iQ {fs:List Fl} {f:Int} {name s:Y0} (h:-9223372036854775808<=f/\f<=9223372036854775807):-9223372036854775808<=(aY fs f name s).2.1/\(aY fs f name s).2.1<=9223372036854775807:=by
 have h0:-9223372036854775808<=(gj fs f name).2.1/\(gj fs f name).2.1<=9223372036854775807:=by unfold gj;split;(. exact eT h);. exact h
 have h1:-9223372036854775808<=(fR fs f name s).2.1/\(fR fs f name s).2.1<=9223372036854775807:=by unfold fR;split;(. exact eT h0);. exact h0
 have h2:-9223372036854775808<=(fp fs f name s).2.1/\(fp fs f name s).2.1<=9223372036854775807:=by unfold fp;split;(. exact eT h1);. exact h1
 have h3:-9223372036854775808<=(ie fs f name s).2.1/\(ie fs f name s).2.1<=9223372036854775807:=by unfold ie;split;(. exact eT h2);. exact h2
 unfold aY;split;. split;(. exact h3);. exact h
 . exact h
theorem pK {fs:List Fl} {f:Int} {s:Y0} (h:-9223372036854775808<=f/\f<=9223372036854775807):-9223372036854775808<=(gh fs f s).2.1/\(gh fs f s).2.1<=9223372036854775807:=by
 unfold gh;split;. split;(. exact h);. split;(. exact iQ h);. exact iQ h
 . exact h
structure nG (w12:World) (p:Nat) (A:Yy) (n c:Nat) (fs:List Fl) (sz:Int) (rt:Y0) (B:Yy) (N0 d:Nat) (C:Yy) (k e:Nat) (A1:Yy) (n1 c1:Nat) (gs:List Fl) (u:Int) (wr:World):Prop where
 blk:ag wr p 60 #[(A1,n1,c1),u,sz,rt,(B,N0,d),(C,k,e)]
 dsk:(A1=A/\n1=n/\c1=c/\gs=fs)\/wr.ownsRow (p+1) 70 3 (A1,n1,c1) n1 (gs.flatMap ap)
 nil:A1=none->n1=0/\c1=0
 cap:n1<=c1
 sz:Sz gs
 fu:-9223372036854775808<=u/\u<=9223372036854775807
 mod:aH (λj=>j=p) w12 wr
 str:jU w12 wr
theorem nG.put {w12 wr w':World} {p n c N0 d k e n1 c1 n2 c2:Nat} {A B C A1 A2:Yy} {fs gs m:List Fl} {sz u u2:Int} {rt:Y0} (h:nG w12 p A n c fs sz rt B N0 d C k e A1 n1 c1 gs u wr) (g:Gr wr w') (Kr:A2=none->n2=0/\c2=0) (hr:(A2=A1/\n2=n1/\c2=c1/\m=gs)\/w'.ownsRow wr.heap.size 70 3 (A2,n2,c2) n2 (m.flatMap ap)) (hz:Sz m) (hu:-9223372036854775808<=u2/\u2<=9223372036854775807):nG w12 p A n c fs sz rt B N0 d C k e A2 n2 c2 m u2 ((w'.setCell (p,0) (A2,n2,c2)).setCell (p,1) u2):=by
 have Kz:=h.blk.lt;have hb:=h.blk.gr g;have N:∀B1,p+1<=B1->w'.ownsRow B1 70 3 (A2,n2,c2) n2 (m.flatMap ap)->((w'.setCell (p,0) (A2,n2,c2)).setCell (p,1) u2).ownsRow (p+1) 70 3 (A2,n2,c2) n2 (m.flatMap ap):=λB1 hB ho=>by(have hne:(Value.slice A2 n2 c2).ownBlock≠some p:=λe=>by have:=(ho.lt _ e).1;omega);exact zcX
 refine⟨(hb.set_ 0 _).set_ 1 _,?_,Kr,?_,hz,hu,h.mod.trans ((g.mod.trans (aH.setCell (M:=λj=>j=p) ⟨p,0,none⟩ _ rfl)).trans (aH.setCell (M:=λj=>j=p) ⟨p,1,none⟩ _ rfl)),h.str.trans ((jU.gr g).trans ((jU.set hb (λs=>by simp)).trans (jU.set (hb.set_ 0 _) (λs=>by simp))))⟩;. rcases hr with⟨rfl,rfl,rfl,rfl⟩|hr;(. rcases h.dsk with h1|h1;(. exact .inl h1);. exact .inr (N _ (Dg _) (av h1 g)));. exact .inr (N _ Kz hr)
 . rcases hr with⟨rfl,rfl,rfl,rfl⟩|hr;(. exact h.cap);. exact jI hr
theorem nG.row {w w12 wr:World} {p n c N0 d k e n1 c1:Nat} {A B C A1:Yy} {fs gs:List Fl} {sz u:Int} {rt:Y0} (h:nG w12 p A n c fs sz rt B N0 d C k e A1 n1 c1 gs u wr) (hx:aO w A n fs) (g:Gr w wr):aO wr A1 n1 gs:=by
 rcases h.dsk with⟨rfl,rfl,_,rfl⟩|h1;. exact hx.gr g
 . exact ak.own h1
theorem DL {w:World} {g n:Nat} {C:Yy} {rs:List Rf} (hb:ag w g 60 #[n_,i0,i0,s_,n_,n_]) (h:cQ w C n rs):0<n->∀b off,C=some ⟨b,off,none⟩->b≠g:=yc hb h
def qD (w:World) (fs:List Fl) (es ems:List SA) (rs:List Rf) (A:Yy) (n c:Nat) (B:Yy) (d:Nat) (C:Yy) (k e:Nat) (r:eU×Int) (en:Ending) (w':World):Prop:=
 ∃A' n' c' B' d' C' k' e' es',en=.returned (.tuple #[.agg (jj A' n' c' r.1.f r.1.sz r.1.rt B' es'.length d' C' k' e'),r.2])/\r.1.l=es'.map (·.s)∧
  ((A'=A/\n'=n/\c'=c/\r.1.fs=fs)\/w'.ownsRow w.heap.size 70 3 (A',n',c') n' (r.1.fs.flatMap ap))∧
  ((B'=B/\d'=d/\es'=es)\/(w'.ownsRow w.heap.size 73 5 (B',es'.length,d') es'.length (es'.flatMap bO)/\es'=es++ems))∧
  ((C'=C/\k'=k/\e'=e/\r.1.rs=rs)\/(cQ w' C' k' r.1.rs/\(C'=none->k'=0/\e'=0)/\k'<=e'/\fq w.heap.size C' k'))/\Gr w w'
theorem An (n:Int) (r:Y0) (es:List SA) (l:List aF) (A:Yy) (c:Nat) (w:World) (hr:r.length<=1099511627776) (hx:dX w A es.length es) (hl:l=es.map (·.s)) (hn:es.length<=1048576) (hz:∀e∈es,dJ 1099511627776 e.s) (hT:bK w):Calls Ao 143 #[.agg (a7 n r),(A,es.length,c)] w λe w'=>e=.returned (.tuple #[(ji n r l).1,.int .i64 (ji n r l).2])/\Gr w w':=by
 have O:=aa hx;have HC:ab (∀i (h:i<es.length) W,Gr w W->Calls Ao 61 #[.agg (aP es[i].s es[i].A es[i].c es[i].B es[i].d)] W λe w'=>e=.returned (.tuple #[(bF es[i].s).1,.int .i64 (bF es[i].s).2])/\Gr W w'):=aa (λi h W g=>pM es[i].s es[i].A es[i].c es[i].B es[i].d W ((hx.each _ (List.getElem_mem h)).gr g) (hz _ (List.getElem_mem h)));have HL:ab (∀i (h:i<es.length) (h':i<l.length),l[i]=es[i].s):=aa (λi h h'=>by subst hl;simp);have F:=rM n r l;have Kc:=lI n r;obtain⟨Kb,hV⟩:=zq (ji n r l);rw[<-hV]at F;rw[<-hV];have Ka:=aa (λw=>nU n r w hr);obtain⟨hd,Lg⟩:=zq ((aG n r).1);obtain⟨he,k⟩:=zq ((aG n r).2);rw[<-Lg,<-k]at F;rw[<-Lg,<-k]at Ka;rw[<-Lg]at Kc;obtain⟨N,hN⟩:=zq (es.length);have Ld:l.length=N:=zfV
 have HN:=aa hN;have Kx:=aa Ld;have HV:=aa F;have HT:=aa hT;obtain⟨J,H⟩:=zq (w.alloc (.cells (a7 n r) 24));obtain⟨p,V⟩:=zq (w.heap.size);have t:Gr w J:=zc5
 have hb:ag J p 24 (a7 n r):=ze3
 have c0:J.cell? (p,0)=n:=hb.cell 0;have c1:J.cell? (p,1)=r:=hb.cell 1;have Kg:=aa t;rw[<-hN]at hn O;rw[<-hN];unfold a7 at Ka H;unfold a7;clear hx hz hN hl Ld hV F Lg k hT hb t;by_cases h1:he=0;case neg=>have Kq:ab (Kb=([],he)):=aa (by rw[HV.o,if_pos h1]);(have qe:(he !=0)=true:=zf2);rw[Kq.o];clear h1 HV;(go_enter Tryz.func143,Tryz.ntmps143);(go_wp2_with(first|(rw[<-H,<-V];clear H V;go_wp2_with fail)|(go_at_call 131;refine Bo (Ka.o _) ?_;rintro e w1 ⟨rfl,I⟩)));go_ret2;exact⟨rfl,Kg.o.trans I⟩
 subst h1;have Ke:ab (Kb=if dN l≠0 then([],dN l)else(hd++cI l++aj (hd++cI l),0)):=aa zgF;clear HV;have Kp:ab (∀w1:World,bf (w1.alloc (.cells #[n_,i0] 125)) w1.heap.size w1.heap.size ([],0)):=aa (λw1=>⟨⟨none,0,ag.new w1 _ _,World.ownsRow_nil _ _ _ _⟩,Dg _,by simp⟩);have Ko:ab (∀B g w,bf w B g ([],0)->Calls Ao 65 #[.pointer (some ⟨g,0,none⟩),hd] w λe w'=>e=.returned (.tuple #[])/\bf w' B g (hd,0)/\Below B w w'/\bY g w w'):=aa (λB g w h=>by have:=mJ B g ([],0) hd w h (by simp only[List.length_nil];omega);(have e:df hd ([],0)=(hd,0):=by unfold df;rw[if_pos rfl];rfl);rwa [e]at this);have C:ab (∀(i:Nat) B g w x,i<=l.length->x.length<=4096->bf w B g (hd++cI (l.take i),0)->Calls Ao 64 #[.pointer (some ⟨g,0,none⟩),.string (bs x)] w λe w'=>e=.returned (.tuple #[])/\bf w' B g (hd++cI (l.take i)++txt x,0)/\Below B w w'/\bY g w w'):=aa (λi B g w x hi Kk h=>by have h1:=GV (l.take i);(have h2:(l.take i).length<=1048576:=by rw[List.length_take];have:=Kx.o;omega);(have h3:(l.take i).length*1033<=1048576*1033:=Nat.mul_le_mul_right _ h2);have:=qp B g (hd++cI (l.take i),0) x w h (by simp only[List.length_append];omega);(have e:bX x (hd++cI (l.take i),0)=(hd++cI (l.take i)++txt x,0):=by unfold bX;rw[if_pos rfl,if_pos Kk]);rwa [e]at this);have M:ab (∀B g w q,bf w B g (q,0)->Calls Ao 66 #[.pointer (some ⟨g,0,none⟩)] w λe w'=>e=.returned (.tuple #[.string (bs q),i0])/\Gr w w'):=aa (λB g w q h=>mO B g (q,0) w h);have Kl:ab (∀i (h:i<l.length),cI (l.take (i+1))=cI (l.take i)++txt (bF l[i]).1):=aa (λi h=>by rw[List.take_succ_eq_append_getElem h];unfold cI;rw[List.flatMap_append];simp);go_enter Tryz.func143,Tryz.ntmps143
 go_wp2_with(first|(rw[<-H,<-V];clear H V;go_wp2_with fail)|(go_at_call 131;refine Bo (Ka.o _) ?_;rintro e w1 ⟨rfl,I⟩)|(go_at_call 65;refine Bo (Ko.o w1.heap.size w1.heap.size _ (Kp.o w1)) ?_;rintro e w2 ⟨rfl,d2,k2,_⟩;have b2:Gr w1 w2:=Below.trans ((B4 w1).alloc _) k2))
 have v:=aa (Kg.o.trans (I.trans b2));have Eq:=aa d2;obtain⟨g,hg⟩:=zq (w1.heap.size);have Lh:ab (w.heap.size<=g):=aa (by have:=(Kg.o.trans I).size;omega);rw[<-hg]at Eq;rw[<-hg];clear hg I b2 d2 k2 c0 c1;go_loopg [29,10,11,12] N (λfuel iv _ _ _ wr=>∃(i:Nat),iv=.int .i64 (i:Int)/\N<=i+fuel/\i<=N∧ab (bf wr g g (hd++cI (l.take i),0))/\ab (dN l=dN (l.drop i))/\ab (Gr w wr))
 case atStart=>exact⟨0,rfl,om,om,aa (by simpa[cI]using Eq.o),aa rfl,v⟩
 case round=>clear Eq v;obtain⟨i,rfl,Kj,hi,HO,HE,HG⟩:=hrel;by_cases hlt:i<N;(. have Ki:(i:Int)<(N:Int):=om;(have D:i<es.length:=ze9);(have a:i<l.length:=zf0);(obtain⟨b,off,rfl,e0,e1,e2,e3,e4⟩:=(O.o.gr HG.o).cell D);have Kd:=aa (HC.o i D);have Mk:=aa (vN l i a);have d:=aa (Kl.o i a);have L:=HL.o i D a;rw[L]at Mk d;obtain⟨E0,Kh⟩:=zq (es[i]);rw[<-Kh]at Kd Mk d e0 e1 e2 e3 e4;clear Kh D L;obtain⟨K,A1,c1,B1,d1⟩:=E0;simp only at e0 e1 e2 e3 e4 Mk d Kd;(have Kk:(bF K).1.length<=4096:=by have:=ls K;omega);obtain⟨x,hx⟩:=zq ((bF K).1);obtain⟨y,hy⟩:=zq ((bF K).2);rw[<-hx]at Kd d Kk;rw[<-hy]at Kd Mk;have u:=aa (λB g w=>C.o i B g w x (Nat.le_of_lt a) Kk);obtain⟨r,o,n,who,seals⟩:=K;simp only[aP]at Kd;simp only at e0 e1 e2 e3 e4;have Il:=aa hlt;clear hlt hx hy a Kk;by_cases Kr:y=0;(. subst Kr;have j:ab (dN l=dN (l.drop (i+1))):=aa (by rw[HE.o,Mk.o,if_pos rfl]);(go_wp2_with(first|(go_at_call 61;(with_reducible refine Bo (Kd.o _ (HG.o.alloc _)) ?_);rintro e w1 ⟨rfl,I⟩;have f:=((B4 wr).alloc (.cells #[r,o,n,(A1,who.length,c1),(B1,seals.length,d1)] 73)).trans I;have G1:=HG.o.trans f;have Km:=HO.o.gr f)|(go_at_call 64;(with_reducible refine Bo (u.o _ _ _ Km) ?_);rintro e w2 ⟨rfl,d2,k2,_⟩)));(go_roundg (gk-1));(case rel=>refine⟨i+1,by go_num,om,Il.o,aa ?_,j,aa (Below.trans G1 (k2.mono Lh.o))⟩;rw[d.o,<-List.append_assoc];exact d2);case measure=>have:=Il.o;omega);. (have Mb:(y !=0)=true:=zfi);have Kq:ab (Kb=([],y)):=aa (by(have h:dN l=y:=by rw[HE.o,Mk.o,if_neg Kr]);rw[Ke.o,h,if_pos Kr]);clear Kr;(go_wp2_with(first|(go_at_call 61;(with_reducible refine Bo (Kd.o _ (HG.o.alloc _)) ?_);rintro e w1 ⟨rfl,I⟩;have G1:=(HG.o.alloc (.cells #[r,o,n,(A1,who.length,c1),(B1,seals.length,d1)] 73)).trans I)));go_ret2;rw[Kq.o];exact⟨rfl,G1⟩);. have q1:decide (i<N)=false:=decide_eq_false hlt;obtain rfl:i=N:=om;(have h0:dN l=0:=ziP);(have m:Kb=(hd++cI l++aj (hd++cI l),0):=by rw[Ke.o,if_neg (by rw[h0];simp)]);have ho:=HO.o;rw[List.take_of_length_le zfd]at ho;(have hq:(hd++cI l).length<=35184372088832:=ho.len);obtain⟨Q,hQ⟩:=zq (hd++cI l);rw[<-hQ]at m ho hq;have E:=aa ho;have z:=aa m;have Kv:=br Q;obtain⟨G,s⟩:=zq (aj Q);have La:ab (∀W,Gr wr W->Calls Ao 44 #[Q] W λe w'=>e=.returned G/\Gr W w'):=aa (λW g=>by rw[s];exact dO Q W (HT.o.gr (HG.o.trans g)) om);rw[<-s]at z Kv;have Kt:¬9223372036854775807<Q.length+G.length:=om;clear hlt Kj hi h0 m ho hQ s;(go_wp2_with(first|(go_at_call 66;(with_reducible refine Bo (M.o _ _ _ _ E.o) ?_);rintro e w2 ⟨rfl,Z⟩)|(go_at_call 44;(with_reducible refine Bo (La.o _ Z) ?_);rintro e w3 ⟨rfl,g3⟩)));go_ret2;rw[z.o];exact⟨rfl,HG.o.trans (Z.trans g3)⟩
theorem wj {fs:List Fl} (h:aQ fs=true) (n:Y0):du fs n=match lk fs n with|some f=>(f.2.1++f.2.2,0)|none=>([],7):=by
 unfold du;rw[if_pos h];obtain⟨_,h2,_⟩:=eu.1 h
 split;. rename_i hh;rw[xa h2 hh]
 . rename_i hh;have:=vE fs n;cases hk:lk fs n with|none=>rfl|some y=>rw[hk]at this;exact absurd this hh
theorem xj {fs:List Fl} (k:Nat) (h:aQ fs=true):aQ (fs.map (ed k))=true/\∀n,lk (fs.map (ed k)) n=(lk fs n).map (ed k):=by
 obtain⟨h1,h2,h3⟩:=eu.1 h
 refine⟨eu.2 ⟨by rw[List.length_map];exact h1,List.pairwise_map.2 (h2.imp (λh=>h)),λf hf=>?_⟩,λn=>?_⟩;. (obtain⟨g,hg,rfl⟩:=List.mem_map.1 hf);have:=h3 g hg;unfold ea at this⊢;simp only[ed,Bool.and_eq_true,decide_eq_true_eq,List.length_append,List.length_take,List.length_nil]at this⊢;exact⟨this.1,om,om⟩
 . unfold lk;rw[List.find?_map];rfl
theorem zl {fs:List Fl} {name b:Y0} (h:aQ fs=true) (hl:lk fs name=some (name,b++aj b,[])):ff fs name=(b,0):=by
 unfold ff;rw[wj h,hl];simp only[List.append_nil,if_true];have e:(b++aj b).length-32=b.length:=zf7
 rw[e,List.take_left,List.drop_left,if_pos ⟨by rw[List.length_append,br];omega,rfl⟩]
theorem vM {fs:List Fl} {name:Y0} (h:aQ fs=true) (hl:lk fs name=none):ff fs name=([],7):=by
 unfold ff;rw[wj h,hl];simp
structure js (x:lh):Prop where
 good:aQ x.fs=true
 seen:(x.sz=0/\x.rt=aj []/\lk x.fs cH=none)\/((aG x.sz x.rt).2=0/\lk x.fs cH=some (cH,(aG x.sz x.rt).1++aj (aG x.sz x.rt).1,[]))
theorem js.wake {x:lh} (h:js x) {keep:Int} (hk:0<=keep):∃fs,cG x.fs x.f keep x.sz x.rt=(fs,-1,x.sz,x.rt,0)/\∀u,js ⟨fs,u,x.sz,x.rt⟩:=by
 obtain⟨I,Z⟩:=xj keep.toNat h.good;have hc:bn x.fs x.f keep=(x.fs.map (ed keep.toNat),-1,0):=zhP
 refine⟨x.fs.map (ed keep.toNat),?_,λu=>?_⟩;. unfold cG;rw[hc];simp only[if_true];rcases h.seen with⟨h1,h2,h3⟩|⟨h1,h2⟩;(. rw[vM I (by rw[Z,h3];rfl)];simp[h1,h2]);. have e:=zl (name:=cH) (b:=(aG x.sz x.rt).1) I (by rw[Z,h2];simp[ed]);rw[e];simp only[EI h1,if_true];rfl
 . refine⟨I,?_⟩;rcases h.seen with⟨h1,h2,h3⟩|⟨h1,h2⟩;(. exact .inl ⟨h1,h2,by simp only;rw[Z,h3];rfl⟩);. (refine .inr ⟨h1,?_⟩);simp only;rw[Z,h2];simp[ed]
theorem js.mark {x:lh} (h:js x) (who:Int) (key:Y0) (n:Int) (r:Y0) (ps:List (Y0)):js ⟨(dY x.fs x.f who key x.sz x.rt n r ps).fs,(dY x.fs x.f who key x.sz x.rt n r ps).u,(dY x.fs x.f who key x.sz x.rt n r ps).so,(dY x.fs x.f who key x.sz x.rt n r ps).ro⟩∧(((dY x.fs x.f who key x.sz x.rt n r ps).e=0/\(dY x.fs x.f who key x.sz x.rt n r ps).so=n/\(dY x.fs x.f who key x.sz x.rt n r ps).ro=r/\kC x.sz x.rt n r ps=0/\(aG n r).2=0/\(dY x.fs x.f who key x.sz x.rt n r ps).mw=who)∨((dY x.fs x.f who key x.sz x.rt n r ps).e≠0/\(dY x.fs x.f who key x.sz x.rt n r ps).so=x.sz/\(dY x.fs x.f who key x.sz x.rt n r ps).ro=x.rt)):=by
 have hk:∀u,js ⟨x.fs,u,x.sz,x.rt⟩:=λu=>⟨h.good,h.seen⟩;unfold dY;split;. rename_i h1;split;(. rename_i h2;split;(. rename_i h3;obtain⟨a,b,c,d⟩:=sk x.f cH ((aG n r).1++aj (aG n r).1) h.good;split;(. rename_i h4;refine⟨⟨a,.inr ⟨h1,d h4⟩⟩,.inl ⟨rfl,rfl,rfl,h2,h1,?_⟩⟩;(show(fi who key n r).1=who);unfold fi at h3⊢;rw[if_pos h1]at h3⊢;split;(. rename_i h5;rw[if_pos h5]at h3;cases h3);. rfl);. rename_i h4;refine⟨⟨a,?_⟩,.inr ⟨h4,rfl,rfl⟩⟩;simp only;rw[c h4];exact h.seen);. rename_i h3;exact⟨hk _,.inr ⟨h3,rfl,rfl⟩⟩);. rename_i h2;exact⟨hk _,.inr ⟨h2,rfl,rfl⟩⟩
 . rename_i h1;exact⟨hk _,.inr ⟨h1,rfl,rfl⟩⟩
structure iB (x:eU):Prop where
 good:aQ x.fs=true
 told:(x.sz=0/\x.rt=aj []/\x.l=[]/\x.rs=[]/\lk x.fs bo=none)∨
  (aw x.l=(x.sz,x.rt,0)/\(dg aT 2 x.l).2.2=0/\x.rs=(dg aT 2 x.l).1/\(ji x.sz x.rt x.l).2=0/\lk x.fs bo=some (bo,(ji x.sz x.rt x.l).1,[]))
theorem sj {l:List aF} (h:(aw l).2.2=0):l.length<=200/\dN l=0/\aw l=((l.length:Int),cB (fh l),0):=by
 unfold aw at h⊢;split;. rename_i h1;rw[if_pos h1]at h;cases h
 . rename_i h1;rw[if_neg h1]at h;split;(. rename_i h2;exact⟨om,h2,rfl⟩);. rename_i h2;rw[if_neg h2]at h;exact absurd h h2
theorem uN {n:Int} {r:Y0} {l:List aF} (h:(ji n r l).2=0):(aG n r).2=0/\dN l=0/\(ji n r l).1=(aG n r).1++cI l++aj ((aG n r).1++cI l):=by
 rw[rM]at h⊢;split;. rename_i h1;rw[if_pos h1]at h;exact absurd h h1
 . rename_i h1;rw[if_neg h1]at h;split;(. rename_i h2;rw[if_pos h2]at h;exact absurd h h2);. rename_i h2;exact⟨Classical.not_not.1 h1,Classical.not_not.1 h2,rfl⟩
theorem iB.rise {x:eU} (h:iB x) {keep:Int} (hk:0<=keep):∃fs,fG (gm x.fs x.f keep aT 2) x=(⟨fs,-1,x.sz,x.rt,x.l,x.rs⟩,0)/\(∀u,iB ⟨fs,u,x.sz,x.rt,x.l,x.rs⟩)/\fs=x.fs.map (ed keep.toNat):=by
 obtain⟨I,Z⟩:=xj keep.toNat h.good;have hc:bn x.fs x.f keep=(x.fs.map (ed keep.toNat),-1,0):=zhP
 refine⟨x.fs.map (ed keep.toNat),?_,λu=>?_,rfl⟩;. unfold gm;rw[hc];simp only[if_true];rcases h.told with⟨h1,h2,h3,h4,h5⟩|⟨h1,h2,h3,h4,h5⟩;(. rw[vM I (by rw[Z,h5];rfl)];simp[fG,h1,h2,h3,h4]);. obtain⟨r1,r2,r3⟩:=uN h4;have e:=zl (name:=bo) (b:=(aG x.sz x.rt).1++cI x.l) I (by rw[Z,h5,r3];simp[ed]);rw[e];simp only[if_true];rw[if_neg dc0,CR _ _ _ _ r1 (tZ r2) h1 h2,<-h3];rfl
 . refine⟨I,?_⟩;rcases h.told with⟨h1,h2,h3,h4,h5⟩|⟨h1,h2,h3,h4,h5⟩;(. exact .inl ⟨h1,h2,h3,h4,by simp only;rw[Z,h5];rfl⟩);. (refine .inr ⟨h1,h2,h3,h4,?_⟩);simp only;rw[Z,h5];simp[ed]
theorem og (id:Y0):bo≠ca id/\bo≠ca id++cK:=by
 constructor;. intro e;unfold bo ca at e;injection e with e _;cases e
 . intro e;unfold bo ca at e;rw[List.cons_append]at e;injection e with e _;cases e
theorem Gz {fs:List Fl} (f:Int) (s:Y0) (h:aQ fs=true):aQ (gh fs f s).1=true/\∀n,n≠ca (aj s)->n≠ca (aj s)++cK->lk (gh fs f s).1 n=lk fs n:=by
 unfold gh;split;. split;(. exact⟨h,λ_ _ _=>rfl⟩);. obtain⟨a,b,c,d⟩:=sk f (ca (aj s)) s h;split;(. exact⟨a,b⟩);. exact⟨a,b⟩
 . exact⟨h,λ_ _ _=>rfl⟩
theorem wR:∀(l:List (Y0)) (fs:List Fl) (f:Int),aQ fs=true->aQ (jl l fs f).1=true/\lk (jl l fs f).1 bo=lk fs bo
 |[],fs,f,h=>⟨h,rfl⟩
 |s::r,fs,f,h=>by
  obtain⟨a,b⟩:=Gz f s h
  have b':=b bo (og _).1 (og _).2
  rw[jl]
  split
  . obtain⟨c,d⟩:=wR r _ (gh fs f s).2.1 a
    exact⟨c,d.trans b'⟩
  . exact⟨a,b'⟩
theorem iB.disk {x:eU} (h:iB x) {fs:List Fl} (f:Int) (hg:aQ fs=true) (hl:lk fs bo=lk x.fs bo):iB {x with fs:=fs,f:=f}:=by
 refine⟨hg,?_⟩;simp only;rw[hl];exact h.told
structure Jg (c:eU) (ws:List (Y0)) (hn:Int) (hr:Y0) (ms:List (Int×Y0)) (frm:Int) (proof:List (Y0)) (steps:List aF) (A:eU×Int):Prop where
 ok:iB A.1
 alt:(A.2≠0/\A.1.sz=c.sz/\A.1.rt=c.rt/\A.1.l=c.l/\A.1.rs=c.rs)∨
  (A.2=0/\rl ws hn hr ms=0/\kC c.sz c.rt hn hr proof=0/\frm=(c.l.length:Int)/\frm=c.sz/\aw (c.l++steps)=(hn,hr,0)/\A.1.sz=hn/\A.1.rt=hr/\A.1.l=c.l++steps)
theorem iB.acc {ρ:fX} {c:eU} (h:iB c) (K:List (Y0)) (hn:Int) (hr:Y0) (ms:List (Int×Y0)) (frm:Int) (f:List (Y0)) (steps:List aF) (g:Y0):Jg c K hn hr ms frm f steps (gT ρ c aT K 2 hn hr ms frm f steps g):=by
 obtain⟨A,hA⟩:=zq (gT ρ c aT K 2 hn hr ms frm f steps g);rw[<-hA];rw[uc ρ c aT K 2 hn hr ms frm f steps g rfl rfl rfl rfl rfl rfl rfl]at hA;split at hA;. exact zaR
 rename_i e1;split at hA;. exact zdj
 rename_i e2;split at hA;. exact zaR
 rename_i e3;split at hA;. exact zaR
 rename_i e4;split at hA;. exact zdj
 rename_i e5;split at hA;. exact zaR
 rename_i e6;split at hA;. exact zaR
 rename_i e7;split at hA;. exact zaR
 rename_i e8;split at hA;. exact zaR
 rename_i j;obtain⟨p1,p2⟩:=wR (mj g (gI c.fs)).1 c.fs c.f h.good
 obtain⟨q,hq⟩:=zq (jl (mj g (gI c.fs)).1 c.fs c.f);rw[<-hq]at p1 p2 hA;unfold pI at hA;split at hA;. rename_i e;subst hA;exact⟨h.disk _ p1 p2,.inl ⟨e,rfl,rfl,rfl,rfl⟩⟩
 obtain⟨a,b,c',d⟩:=sk q.2.1 bo (ji hn hr (c.l++steps)).1 p1
 split at hA;. rename_i e;subst hA;exact⟨h.disk _ a ((c' e).trans p2),.inl ⟨e,rfl,rfl,rfl,rfl⟩⟩
 . rename_i e;(have h4:=Classical.not_not.1 e4);(obtain⟨h5,h6⟩:=Classical.not_not.1 e5);obtain⟨_,_,h7⟩:=sj h4;(have h8:aw (c.l++steps)=(hn,hr,0):=by rw[<-h5,<-h6];rw[h7]);subst hA;refine⟨⟨a,.inr ⟨h8,Classical.not_not.1 e6,rfl,Classical.not_not.1 j,d (Classical.not_not.1 e)⟩⟩,.inr ⟨rfl,Classical.not_not.1 e1,Classical.not_not.1 e3,?_,?_,h8,rfl,rfl,rfl⟩⟩;(. exact Classical.not_not.1 (λh'=>e2 (.inr h')));. exact Classical.not_not.1 (λh'=>e2 (.inl h'))
structure mq (s:ba):Prop where
 wit:∀i,i<4->js (s.wit i)
 cli:∀i,i<3->iB (s.cli i)
theorem js.zero:js ⟨[],-1,0,aj []⟩:=⟨rfl,.inl ⟨rfl,rfl,rfl⟩⟩
theorem iB.zero:iB ⟨[],-1,0,aj [],[],[]⟩:=⟨rfl,.inl ⟨rfl,rfl,rfl,rfl,rfl⟩⟩
theorem JE:mq dU:=⟨λ_ _=>js.zero,λ_ _=>iB.zero⟩
theorem wG (s:ba) (b:Nat) (d:Dd) {r:List Rf×Int×Int} {C:List (Y0)×Y0×Int} {st:aF} {e:Int} {q:List Rf×Int} (hr:r=dg aT 0 (s.logs b)) (hC:C=if d.data≠[]\/eD r.1 d.ref=[]then fS (eD r.1 d.ref) s.first d else([],[],0)) (hs:st=io ⟨d.ref,eD r.1 d.ref,C.2.1,[],[]⟩ ((s.logs b).length:Int) d.sg 3) (he:e=jg aT 2 ((s.logs b).length:Int) st) (hq:q=fj r.1 st.r st.o st.n):d9 s b d=if r.2.2≠0 then(s,r.2.2,0,[])else if fo d.ref=false then(s,2,0,[])else if 200<=(s.logs b).length then(s,6,0,[])else if C.2.2≠0 then(s,C.2.2,0,[])else if C.2.1=eD r.1 d.ref then(s,9,0,[])else if e≠0/\d.b=0 then(s,e,0,[])else if q.2≠0 then(s,q.2,0,[])else({s with objs:=s.objs++C.1,first:=if s.first=[]then st.n else s.first,logs:=am s.logs b (s.logs b++[st]),marks:=am s.marks b []},0,((s.logs b).length:Int)+1,st.n):=by
 subst hq he hs hC hr;rfl
inductive Js (s:ba) (b:Nat) (d:Dd):Prop
 |no (e:Int) (he:e≠0) (h:d9 s b d=(s,e,0,[]))
 |yes (C:List (Y0)×Y0×Int) (st:aF) (hC:C=if d.data≠[]\/eD (dg aT 0 (s.logs b)).1 d.ref=[]then fS (eD (dg aT 0 (s.logs b)).1 d.ref) s.first d else([],[],0))
  (hs:st=io ⟨d.ref,eD (dg aT 0 (s.logs b)).1 d.ref,C.2.1,[],[]⟩ ((s.logs b).length:Int) d.sg 3)
  (h1:(dg aT 0 (s.logs b)).2.2=0) (h2:fo d.ref=true) (h3:(s.logs b).length<200) (h4:C.2.2=0) (h5:C.2.1≠eD (dg aT 0 (s.logs b)).1 d.ref) (h6:jg aT 2 ((s.logs b).length:Int) st=0\/d.b≠0) (h7:(fj (dg aT 0 (s.logs b)).1 st.r st.o st.n).2=0)
  (h:d9 s b d=({s with objs:=s.objs++C.1,first:=if s.first=[]then st.n else s.first,logs:=am s.logs b (s.logs b++[st]),marks:=am s.marks b []},0,((s.logs b).length:Int)+1,st.n))
theorem qU (s:ba) (b:Nat) (d:Dd):Js s b d:=by
 have h:=wG s b d rfl rfl rfl rfl rfl;obtain⟨C,hC⟩:∃x,x=(if d.data≠[]\/eD (dg aT 0 (s.logs b)).1 d.ref=[]then fS (eD (dg aT 0 (s.logs b)).1 d.ref) s.first d else([],[],0)):=⟨_,rfl⟩;rw[<-hC]at h;split at h;. rename_i e;exact .no _ e h
 rename_i e1;split at h;. exact .no _ dc0 h
 rename_i e2;split at h;. exact .no _ dc0 h
 rename_i e3;split at h;. rename_i e;exact .no _ e h
 rename_i e4;split at h;. exact .no _ dc0 h
 rename_i e5;split at h;. rename_i e;exact .no _ e.1 h
 rename_i e6;split at h;. rename_i e;exact .no _ e h
 rename_i e7;refine .yes C _ hC rfl (Classical.not_not.1 e1) (by simpa using e2) om (Classical.not_not.1 e4) e5 ?_ (Classical.not_not.1 e7) h
 by_cases h0:jg aT 2 ((s.logs b).length:Int) (io ⟨d.ref,eD (dg aT 0 (s.logs b)).1 d.ref,C.2.1,[],[]⟩ ((s.logs b).length:Int) d.sg 3)=0;. exact .inl h0
 . exact .inr (λhb=>e6 ⟨h0,hb⟩)
theorem oJ (s:ba) (b:Nat) (d:Dd):(d9 s b d).1.wit=s.wit/\(d9 s b d).1.cli=s.cli/\(d9 s b d).1.down=s.down/\(d9 s b d).1.deeds=s.deeds:=by
 rcases qU s b d with⟨e,_,h⟩|⟨C,st,_,_,_,_,_,_,_,_,_,h⟩<;>(rw[h];exact⟨rfl,rfl,rfl,rfl⟩)
theorem bi {α:Type} (f:Nat->α) (i:Nat) (x:α):am f i x i=x:=by simp[am]
theorem dG {α:Type} (f:Nat->α) {i j:Nat} (x:α) (h:j≠i):am f i x j=f j:=by simp[am,h]
theorem vK {s:ba} (h:mq s) (b i:Nat) (hi:i<4):mq (dA s b i).1/\(dA s b i).1.logs=s.logs/\(dA s b i).1.cli=s.cli/\(dA s b i).1.deeds=s.deeds/\(dA s b i).1.objs=s.objs/\(dA s b i).1.first=s.first∧(∀j,j≠i->(dA s b i).1.wit j=s.wit j)/\(i=3->(dA s b i).1.wit=s.wit)∧(((dA s b i).2.1≠0/\((dA s b i).1.wit i).sz=(s.wit i).sz/\((dA s b i).1.wit i).rt=(s.wit i).rt/\(dA s b i).1.marks=s.marks)∨((dA s b i).2.1=0/\(aw (s.logs b)).2.2=0/\(dA s b i).2.2.1=(aw (s.logs b)).1/\(∃m:Int×Y0,m.1=(i:Int)/\(dA s b i).1.marks=am s.marks b ((s.marks b).filter (λo=>decide (o.1<(i:Int)))++[m]++(s.marks b).filter (λo=>decide ((i:Int)<o.1))))∧(i≠3->((dA s b i).1.wit i).sz=(aw (s.logs b)).1/\((dA s b i).1.wit i).rt=(aw (s.logs b)).2.1/\kC (s.wit i).sz (s.wit i).rt (aw (s.logs b)).1 (aw (s.logs b)).2.1 (bH (cD (s.logs b)).1 (s.wit i).sz)=0))):=by
 unfold dA;simp only;split;. exact zbD
 rename_i e1;have e1:=Classical.not_not.1 e1
 split;. rename_i e2;subst e2;split;(. exact zbD);. rename_i e3;(have e3:=Classical.not_not.1 e3);(have hm:(fi 3 (aj (ar 3)) (aw (s.logs b)).1 (aw (s.logs b)).2.1).1=3:=by unfold fi at e3⊢;split;(. rename_i h1;rw[if_pos h1]at e3;rw[if_neg om]);. rename_i h1;rw[if_neg h1]at e3;exact absurd e3 h1);exact⟨⟨h.wit,h.cli⟩,rfl,rfl,rfl,rfl,rfl,λ_ _=>rfl,λ_=>rfl,.inr ⟨rfl,e1,rfl,⟨_,hm,rfl⟩,λh'=>absurd rfl h'⟩⟩
 rename_i e2;split;. exact⟨h,rfl,rfl,rfl,rfl,rfl,λ_ _=>rfl,λ_=>rfl,.inl ⟨by simp,rfl,rfl,rfl⟩⟩
 obtain⟨k1,k2⟩:=(h.wit i hi).mark (i:Int) (aj (ar i)) (aw (s.logs b)).1 (aw (s.logs b)).2.1 (bH (cD (s.logs b)).1 (s.wit i).sz)
 obtain⟨R,hR⟩:∃x,x=dY (s.wit i).fs (s.wit i).f (i:Int) (aj (ar i)) (s.wit i).sz (s.wit i).rt (aw (s.logs b)).1 (aw (s.logs b)).2.1 (bH (cD (s.logs b)).1 (s.wit i).sz):=⟨_,rfl⟩
 rw[<-hR]at k1 k2⊢;have hw:∀j,j<4->js (am s.wit i ⟨R.fs,R.u,R.so,R.ro⟩ j):=λj hj=>by by_cases e:j=i;(. subst e;rw[bi];exact k1);. rw[dG _ _ e];exact h.wit j hj
 split;. rename_i e3;rcases k2 with k2|k2;(. exact absurd k2.1 e3);. exact⟨⟨hw,h.cli⟩,rfl,rfl,rfl,rfl,rfl,λj hj=>dG _ _ hj,λh'=>absurd h' e2,.inl ⟨e3,by simp only[bi];exact k2.2.1,by simp only[bi];exact k2.2.2,rfl⟩⟩
 . rename_i e3;(have e3:=Classical.not_not.1 e3);rcases k2 with k2|k2;(. refine⟨⟨hw,h.cli⟩,rfl,rfl,rfl,rfl,rfl,λj hj=>dG _ _ hj,λh'=>absurd h' e2,.inr ⟨rfl,e1,rfl,⟨(R.mw,R.ms),k2.2.2.2.2.2,rfl⟩,λ_=>?_⟩⟩;simp only[bi];exact⟨k2.2.1,k2.2.2.1,k2.2.2.2.1⟩);. exact absurd e3 k2.1
theorem uL {ρ:fX} {s:ba} (h:mq s) (b i:Nat) (hi:i<3):mq (cR ρ s b i).1/\(cR ρ s b i).1.logs=s.logs/\(cR ρ s b i).1.wit=s.wit/\(cR ρ s b i).1.marks=s.marks/\(cR ρ s b i).1.deeds=s.deeds/\(cR ρ s b i).1.objs=s.objs/\(cR ρ s b i).1.first=s.first∧(∀j,j≠i->(cR ρ s b i).1.cli j=s.cli j)∧(((cR ρ s b i).2.1≠0/\((cR ρ s b i).1.cli i).sz=(s.cli i).sz/\((cR ρ s b i).1.cli i).rt=(s.cli i).rt/\((cR ρ s b i).1.cli i).l=(s.cli i).l/\((cR ρ s b i).1.cli i).rs=(s.cli i).rs)∨((cR ρ s b i).2.1=0/\(aw (s.logs b)).2.2=0/\rl eQ (aw (s.logs b)).1 (aw (s.logs b)).2.1 (s.marks b)=0/\(s.cli i).l.length<=(s.logs b).length∧((cR ρ s b i).1.cli i).l=(s.cli i).l++(s.logs b).drop (s.cli i).l.length/\aw ((s.cli i).l++(s.logs b).drop (s.cli i).l.length)=aw (s.logs b))):=by
 unfold cR;simp only;split;. exact zc8
 split;. exact zbG
 rename_i e1;have e1:=Classical.not_not.1 e1
 split;. exact zc8
 rename_i e2;split;. exact zbG
 obtain⟨k1,k2⟩:=(h.cli i hi).acc (ρ:=ρ) eQ (aw (s.logs b)).1 (aw (s.logs b)).2.1 (s.marks b) (s.cli i).sz (cy ρ (s.logs b) s.objs (s.cli i).sz (aw (s.logs b)).1).1 ((s.logs b).drop (s.cli i).sz.toNat) (cy ρ (s.logs b) s.objs (s.cli i).sz (aw (s.logs b)).1).2.1
 obtain⟨A,hA⟩:=zq (gT ρ (s.cli i) aT eQ 2 (aw (s.logs b)).1 (aw (s.logs b)).2.1 (s.marks b) (s.cli i).sz (cy ρ (s.logs b) s.objs (s.cli i).sz (aw (s.logs b)).1).1 ((s.logs b).drop (s.cli i).sz.toNat) (cy ρ (s.logs b) s.objs (s.cli i).sz (aw (s.logs b)).1).2.1);rw[<-hA]at k1 k2⊢;have hc:∀j,j<3->iB (am s.cli i A.1 j):=λj hj=>by by_cases e:j=i;(. subst e;rw[bi];exact k1);. rw[dG _ _ e];exact h.cli j hj
 split;. rename_i e3;rcases k2 with k2|k2;(. refine⟨⟨h.wit,hc⟩,rfl,rfl,rfl,rfl,rfl,rfl,λj hj=>dG _ _ hj,.inl ⟨e3,?_⟩⟩;simp only[bi];exact k2.2);. exact absurd k2.1 e3
 . rename_i e3;(have e3:=Classical.not_not.1 e3);rcases k2 with k2|⟨_,c1,c2,c3,c4,c5,c6,c7,c8⟩;(. exact absurd e3 k2.1);. (have hl:(s.cli i).sz.toNat=(s.cli i).l.length:=by rw[<-c4,c3];rfl);(have Lv:=(sj e1).2.2);rw[hl]at c5 c8;refine⟨⟨h.wit,hc⟩,rfl,rfl,rfl,rfl,rfl,rfl,λj hj=>dG _ _ hj,.inr ⟨rfl,e1,c1,?_,?_,?_⟩⟩;(. (have:(aw (s.logs b)).1=((s.logs b).length:Int):=by rw[Lv]);omega);(. simp only[bi];exact c8);. rw[c5];rw[Lv]
theorem yn {s:ba} (h:mq s) (i:Nat) (hi:i<7) {keep:Int} (hk:0<=keep):mq (dh s i keep).1/\(dh s i keep).1.logs=s.logs/\(dh s i keep).1.marks=s.marks/\(dh s i keep).1.deeds=s.deeds/\(dh s i keep).1.objs=s.objs/\(dh s i keep).1.first=s.first/\(dh s i keep).2=(0,0,[])∧(∀j,((dh s i keep).1.cli j).sz=(s.cli j).sz/\((dh s i keep).1.cli j).rt=(s.cli j).rt/\((dh s i keep).1.cli j).l=(s.cli j).l/\((dh s i keep).1.cli j).rs=(s.cli j).rs)∧(∀j,((dh s i keep).1.wit j).sz=(s.wit j).sz/\((dh s i keep).1.wit j).rt=(s.wit j).rt)/\(i<3->((dh s i keep).1.cli i).f=-1)∧(∀j,(dh s i keep).1.cli j=s.cli j\/(j=i/\((dh s i keep).1.cli j).fs=(s.cli j).fs.map (ed keep.toNat))):=by
 unfold dh;by_cases h3:i<3;. rw[if_pos h3];(obtain⟨fs,k1,k2,k3⟩:=(h.cli i h3).rise hk);(have hw:(if(fG (gm (s.cli i).fs (s.cli i).f keep aT 2) (s.cli i)).2≠0 then(({s with cli:=am s.cli i (fG (gm (s.cli i).fs (s.cli i).f keep aT 2) (s.cli i)).1}:ba),((fG (gm (s.cli i).fs (s.cli i).f keep aT 2) (s.cli i)).2,(0:Int),([]:Y0)))else({s with cli:=am s.cli i (fG (gm (s.cli i).fs (s.cli i).f keep aT 2) (s.cli i)).1,down:=am s.down i false},(0,0,[])))=(({s with cli:=am s.cli i ⟨fs,-1,(s.cli i).sz,(s.cli i).rt,(s.cli i).l,(s.cli i).rs⟩,down:=am s.down i false}:ba),(0,0,[])):=by rw[k1,if_neg (by simp)]);simp only;rw[hw];refine⟨⟨h.wit,λj hj=>?_⟩,rfl,rfl,rfl,rfl,rfl,rfl,λj=>?_,λj=>⟨rfl,rfl⟩,λ_=>by simp[bi],λj=>?_⟩;(. by_cases e:j=i;(. subst e;simp only[bi];exact k2 _);. simp only[dG _ _ e];exact h.cli j hj);(. exact zdf);. by_cases e:j=i;(. subst e;exact .inr ⟨rfl,by simp only[bi];exact k3⟩);. exact .inl (by simp[dG _ _ e])
 . rw[if_neg h3];(obtain⟨fs,k1,k2⟩:=(h.wit (i-3) om).wake hk);(have hw:(if(cG (s.wit (i-3)).fs (s.wit (i-3)).f keep (s.wit (i-3)).sz (s.wit (i-3)).rt).2.2.2.2≠0 then(({s with wit:=am s.wit (i-3) ⟨(cG (s.wit (i-3)).fs (s.wit (i-3)).f keep (s.wit (i-3)).sz (s.wit (i-3)).rt).1,(cG (s.wit (i-3)).fs (s.wit (i-3)).f keep (s.wit (i-3)).sz (s.wit (i-3)).rt).2.1,(cG (s.wit (i-3)).fs (s.wit (i-3)).f keep (s.wit (i-3)).sz (s.wit (i-3)).rt).2.2.1,(cG (s.wit (i-3)).fs (s.wit (i-3)).f keep (s.wit (i-3)).sz (s.wit (i-3)).rt).2.2.2.1⟩}:ba),((cG (s.wit (i-3)).fs (s.wit (i-3)).f keep (s.wit (i-3)).sz (s.wit (i-3)).rt).2.2.2.2,(0:Int),([]:Y0)))else({s with wit:=am s.wit (i-3) ⟨(cG (s.wit (i-3)).fs (s.wit (i-3)).f keep (s.wit (i-3)).sz (s.wit (i-3)).rt).1,(cG (s.wit (i-3)).fs (s.wit (i-3)).f keep (s.wit (i-3)).sz (s.wit (i-3)).rt).2.1,(cG (s.wit (i-3)).fs (s.wit (i-3)).f keep (s.wit (i-3)).sz (s.wit (i-3)).rt).2.2.1,(cG (s.wit (i-3)).fs (s.wit (i-3)).f keep (s.wit (i-3)).sz (s.wit (i-3)).rt).2.2.2.1⟩,down:=am s.down i false},(0,0,[])))=(({s with wit:=am s.wit (i-3) ⟨fs,-1,(s.wit (i-3)).sz,(s.wit (i-3)).rt⟩,down:=am s.down i false}:ba),(0,0,[])):=by rw[k1,if_neg (by simp)]);simp only;rw[hw];refine⟨⟨λj hj=>?_,h.cli⟩,rfl,rfl,rfl,rfl,rfl,rfl,λj=>⟨rfl,rfl,rfl,rfl⟩,λj=>?_,λh'=>absurd h' h3,λj=>.inl rfl⟩;(. by_cases e:j=i-3;(. subst e;simp only[bi];exact k2 _);. simp only[dG _ _ e];exact h.wit j hj);. exact zbV
theorem xk {s:ba} (h:mq s) (i:Nat) (hi:i<7) (n:Int):mq (eN s i n).1/\(eN s i n).1.logs=s.logs/\(eN s i n).1.marks=s.marks/\(eN s i n).1.deeds=s.deeds/\(eN s i n).1.objs=s.objs/\(eN s i n).1.first=s.first∧(∀j,((eN s i n).1.cli j).sz=(s.cli j).sz/\((eN s i n).1.cli j).rt=(s.cli j).rt/\((eN s i n).1.cli j).l=(s.cli j).l/\((eN s i n).1.cli j).rs=(s.cli j).rs/\((eN s i n).1.cli j).fs=(s.cli j).fs)∧(∀j,((eN s i n).1.wit j).sz=(s.wit j).sz/\((eN s i n).1.wit j).rt=(s.wit j).rt):=by
 unfold eN;by_cases h3:i<3;. rw[if_pos h3];refine⟨⟨h.wit,λj hj=>?_⟩,rfl,rfl,rfl,rfl,rfl,λj=>?_,λj=>⟨rfl,rfl⟩⟩;(. by_cases e:j=i;(. subst e;simp only[bi];exact⟨(h.cli j hj).good,(h.cli j hj).told⟩);. simp only[dG _ _ e];exact h.cli j hj);. exact zdf
 . rw[if_neg h3];refine⟨⟨λj hj=>?_,h.cli⟩,rfl,rfl,rfl,rfl,rfl,λj=>⟨rfl,rfl,rfl,rfl,rfl⟩,λj=>?_⟩;(. by_cases e:j=i-3;(. subst e;simp only[bi];exact⟨(h.wit _ hj).good,(h.wit _ hj).seen⟩);. simp only[dG _ _ e];exact h.wit j hj);. exact zbV
theorem mq.deeds {s:ba} (h:mq s) (n:Nat):mq {s with deeds:=n}:=⟨h.wit,h.cli⟩
inductive JP (ρ:fX) (s0:ba) (d:Dd):Prop
 |full (h:eK ρ s0 d=(s0,6,0,[]))
 |bad (c:Int) (hc:c≠0) (h:eK ρ s0 d=({s0 with deeds:=s0.deeds+1},c,0,[]))
 |push (b:Nat) (hb:b<2) (hd:d.b=(b:Int)) (hk:d.k=1) (h:eK ρ s0 d=d9 {s0 with deeds:=s0.deeds+1} b d)
 |fork (b:Nat) (hb:b<2) (hk:d.k=2) (h:eK ρ s0 d=jK {s0 with deeds:=s0.deeds+1} b)
 |mark (b i:Nat) (hb:b<2) (hi:i<4) (hw:d.w=(i:Int)) (hk:d.k=3) (h:eK ρ s0 d=dA {s0 with deeds:=s0.deeds+1} b i)
 |fetch (b i:Nat) (hb:b<2) (hi:i<3) (hw:d.w=(i:Int)) (hk:d.k=4) (h:eK ρ s0 d=cR ρ {s0 with deeds:=s0.deeds+1} b i)
 |fuse (i:Nat) (hi:i<7) (hw:d.w=(i:Int)) (hs:0<=d.size) (hk:d.k=5) (h:eK ρ s0 d=eN {s0 with deeds:=s0.deeds+1} i d.size)
 |wake (i:Nat) (hi:i<7) (hw:d.w=(i:Int)) (hs:0<=d.size) (hk:d.k=6) (h:eK ρ s0 d=dh {s0 with deeds:=s0.deeds+1} i d.size)
theorem qw (ρ:fX) (K:ba) (d:Dd):JP ρ K d:=by
 by_cases h0:120<=K.deeds;. exact .full (by unfold eK;rw[if_pos h0])
 by_cases h1:d.b<0\/1<d.b;. exact .bad 3 dc0 (by unfold eK;rw[if_neg h0];simp only;rw[if_pos h1])
 obtain⟨b,hb⟩:∃b:Nat,d.b=(b:Int):=⟨d.b.toNat,om⟩;have N:d.b.toNat=b:=by rw[hb];rfl
 have Kc:b<2:=om
 have f:eK ρ K d=(if d.k=1 then d9 {K with deeds:=K.deeds+1} b d
  else if d.k=2 then jK {K with deeds:=K.deeds+1} b
  else if d.k=3 then(if d.w<0\/4<=d.w then({K with deeds:=K.deeds+1},3,0,[])else dA {K with deeds:=K.deeds+1} b d.w.toNat)
  else if d.k=4 then(if d.w<0\/3<=d.w then({K with deeds:=K.deeds+1},3,0,[])else cR ρ {K with deeds:=K.deeds+1} b d.w.toNat)
  else if d.k=5\/d.k=6 then(if d.w<0\/7<=d.w\/d.size<0 then({K with deeds:=K.deeds+1},3,0,[])else if d.k=5 then eN {K with deeds:=K.deeds+1} d.w.toNat d.size else dh {K with deeds:=K.deeds+1} d.w.toNat d.size)
  else({K with deeds:=K.deeds+1},4,0,[])):=by
  unfold eK
  rw[if_neg h0]
  simp only
  rw[if_neg h1,N]
 by_cases k1:d.k=1;. exact .push b Kc hb k1 (by rw[f,if_pos k1])
 rw[if_neg k1]at f;by_cases k2:d.k=2;. exact .fork b Kc k2 (by rw[f,if_pos k2])
 rw[if_neg k2]at f;by_cases k3:d.k=3;. rw[if_pos k3]at f;by_cases hw:d.w<0\/4<=d.w;(. exact .bad 3 dc0 zh0);. exact .mark b d.w.toNat Kc om om k3 (by rw[f,if_neg hw])
 rw[if_neg k3]at f;by_cases k4:d.k=4;. rw[if_pos k4]at f;by_cases hw:d.w<0\/3<=d.w;(. exact .bad 3 dc0 zh0);. exact .fetch b d.w.toNat Kc om om k4 (by rw[f,if_neg hw])
 rw[if_neg k4]at f;by_cases a:d.k=5\/d.k=6;. rw[if_pos a]at f;by_cases hw:d.w<0\/7<=d.w\/d.size<0;(. exact .bad 3 dc0 zh0);. rw[if_neg hw]at f;by_cases k5:d.k=5;(. exact .fuse d.w.toNat om om om k5 (by rw[f,if_pos k5]));. exact .wake d.w.toNat om om om (a.resolve_left k5) (by rw[f,if_neg k5])
 . rw[if_neg a]at f;exact .bad 4 dc0 f
theorem mq.do_ {s:ba} (h:mq s) (ρ:fX) (d:Dd):mq (eK ρ s d).1:=by
 have h':=h.deeds (s.deeds+1);rcases qw ρ s d with e|⟨c,_,e⟩|⟨b,hb,_,_,e⟩|⟨b,hb,_,e⟩|⟨b,i,hb,hi,_,_,e⟩|⟨b,i,hb,hi,_,_,e⟩|⟨i,hi,_,_,_,e⟩|⟨i,hi,_,hs,_,e⟩;. rw[e];exact h
 . rw[e];exact h'
 . rw[e];obtain⟨k1,k2,_⟩:=oJ {s with deeds:=s.deeds+1} b d;exact⟨λi hi=>by rw[k1];exact h.wit i hi,λi hi=>by rw[k2];exact h.cli i hi⟩
 . rw[e];exact⟨h.wit,h.cli⟩
 . rw[e];exact(vK h' b i hi).1
 . rw[e];exact(uL h' b i hi).1
 . rw[e];exact(xk h' i hi _).1
 . rw[e];exact(yn h' i hi hs).1
theorem Dc (ρ:fX) (s:ba) (d:Dd):(eK ρ s d).1.deeds<=s.deeds+1/\s.deeds<=(eK ρ s d).1.deeds:=by
 rcases qw ρ s d with e|⟨c,_,e⟩|⟨b,hb,_,_,e⟩|⟨b,hb,_,e⟩|⟨b,i,hb,hi,_,_,e⟩|⟨b,i,hb,hi,_,_,e⟩|⟨i,hi,_,_,_,e⟩|⟨i,hi,_,hs,_,e⟩;. rw[e];simp only;omega
 . rw[e];simp only;omega
 . rw[e,(oJ _ b d).2.2.2];simp only;omega
 . rw[e];unfold jK;simp only;omega
 . rw[e];unfold dA;simp only;split;(. simp only;omega);split;(. split<;>(simp only;omega));exact zb6
 . rw[e];unfold cR;simp only;split;(. simp only;omega);split;(. simp only;omega);split;(. simp only;omega);exact zb6
 . rw[e];unfold eN;split<;>(simp only;omega)
 . rw[e];unfold dh;simp only;split;(. split<;>(simp only;omega));. split<;>(simp only;omega)
def fY (n:Int):Prop:=-9223372036854775808<=n/\n<=9223372036854775807
structure FB (x:lh):Prop where
 fs:Sz x.fs
 f:fY x.f
 rt:x.rt.length<=1048576
structure FP (x:eU):Prop where
 fs:Sz x.fs
 f:fY x.f
 rt:x.rt.length<=1048576
 l:x.l.length<=200
 each:∀s∈x.l,dJ 1048576 s
 rs:x.rs.length<=200
structure px (s:ba):Prop where
 deeds:s.deeds<=120
 logs:∀b,b<2->(s.logs b).length<=s.deeds/\∀x∈s.logs b,dJ 1048576 x
 marks:∀b,b<2->(s.marks b).length<=s.deeds
 objs:s.objs.length<=3*s.deeds/\∀x∈s.objs,x.length<=8192
 first:s.first.length<=1048576
 wit:∀i,i<4->FB (s.wit i)
 cli:∀i,i<3->FP (s.cli i)
theorem pv (name:Y0):∀{fs:List Rf},dP fs->∃a b,(∀x∈a,aR x.1 name=true)/\(∀x∈b,aR name x.1=true)/\fd name fs=a.length∧
 ((fE name fs=true/\∃g:Rf,g.1=name/\fs=a++g::b)\/(fE name fs=false/\fs=a++b))
 |[],_=>⟨[],[],by simp,by simp,by simp[fd],.inr ⟨by simp[fE],rfl⟩⟩
 |x::r,h=>by
  have hr:dP r:=(List.pairwise_cons.1 h).2
  have hx:=(List.pairwise_cons.1 h).1
  by_cases h1:aR x.1 name=true
  . obtain⟨a,b,ha,hb,hl,hc⟩:=pv name hr
    refine⟨x::a,b,λy hy=>?_,hb,?_,?_⟩
    . rcases List.mem_cons.1 hy with rfl|hy
      . exact h1
      . exact ha y hy
    . unfold fd at hl⊢
      rw[List.takeWhile_cons_of_pos ziM,List.length_cons,List.length_cons,hl]
    . have e:fE name (x::r)=fE name r:=by
       unfold fE
       rw[List.any_cons,Dn h1,Bool.false_or]
      rw[e]
      rcases hc with⟨hh,g,hg,hf⟩|⟨hh,hf⟩
      . exact .inl ⟨hh,g,hg,by rw[hf];rfl⟩
      . exact .inr ⟨hh,by rw[hf];rfl⟩
  . have i:aR x.1 name=false:=by simpa using h1
    have hl:fd name (x::r)=0:=by
     unfold fd
     rw[List.takeWhile_cons_of_neg ziM]
     rfl
    by_cases h2:x.1=name
    . subst h2
      exact⟨[],r,by simp,hx,hl,.inl ⟨by simp[fE],x,rfl,rfl⟩⟩
    . have h3:aR name x.1=true:=by
       cases h4:aR name x.1 with
       |true=>rfl
       |false=>exact absurd (qO _ _ i h4) h2
      have Kq:∀y∈x::r,aR name y.1=true:=λy hy=>by
       rcases List.mem_cons.1 hy with rfl|hy
       . exact h3
       . exact gA _ _ _ h3 (hx y hy)
      refine⟨[],x::r,by simp,Kq,hl,.inr ⟨?_,rfl⟩⟩
      unfold fE
      rw[List.any_eq_false]
      intro y hy
      rw[z8 (Kq y hy)]
      simp
theorem yx {fs:List Rf} (h:dP fs) (name old id:Y0):dP (fj fs name old id).1:=by
 unfold fj;split;. split;(. split;(. obtain⟨a,b,ha,hb,hl,hc⟩:=pv name h;split;(. rename_i hh;split;(. exact h.sublist (List.eraseIdx_sublist fs _));. rcases hc with⟨_,g,hg,hf⟩|⟨c,_⟩;(. rw[hl];(have e:fs.set a.length (name,id)=a++(name,id)::b:=by rw[hf];simp);simp only;rw[e];rw[hf]at h;(have h':=List.pairwise_append.1 h);(have h2:=List.pairwise_cons.1 h'.2.1);(refine List.pairwise_append.2 ⟨h'.1,List.pairwise_cons.2 ⟨λy hy=>hb y hy,h2.2⟩,λx hx y hy=>?_⟩);(rcases List.mem_cons.1 hy with rfl|hy);(. exact ha x hx);. exact h'.2.2 x hx y (List.mem_cons_of_mem _ hy));. rw[hh]at c;cases c);. rename_i hh;split;(. exact h);. split;(. exact .nil);. rcases hc with⟨c,_⟩|⟨_,hf⟩;(. exact absurd c hh);. rw[hl];(have e:ku a.length (name,id) fs=a++(name,id)::b:=by unfold ku;rw[hf];simp);simp only;rw[e];rw[hf]at h;exact za2);. exact .nil);. exact .nil
 . exact .nil
theorem rm (ss:List (Y0)) (z:Int):∀(l:List aF) (i:Nat) (fs:List Rf),dP fs->dP (jW ss z i l fs).1
 |[],i,fs,h=>h
 |s::r,i,fs,h=>by
  rw[jW]
  split
  . split
    . exact rm ss z r (i+1) _ (yx h _ _ _)
    . exact .nil
  . exact .nil
theorem AM (ss:List (Y0)) (z:Int) (l:List aF):dP (dg ss z l).1:=by
 unfold dg;split;. exact .nil
 . exact rm ss z l 0 [] .nil
theorem DM (ss:List (Y0)) (z:Int) (l:List aF):oQ 60 (dg ss z l).1:=by
 unfold dg;split;. exact⟨by simp⟩
 . exact ua ss z l 0 [] ⟨by simp⟩
theorem wB {fs:List Rf} (h:oQ 60 fs) (name:Y0):(eD fs name).length<=60:=by
 unfold eD;cases hf:fs.find? (λf=>f.1==name)with|none=>simp|some f=>exact(h.each f (List.mem_of_find?_eq_some hf)).2
theorem EH (o:Ob):(bT o).1.length<=8192:=by
 exact zb3
theorem zu (old first:Y0) (d:Dd):(fS old first d).1.length<=3/\(∀x∈(fS old first d).1,x.length<=8192)/\(fS old first d).2.1.length<=32:=by
 unfold fS;simp only;obtain⟨o,ho⟩:∃x,x=if d.old=true then first else old:=⟨_,rfl⟩
 rw[<-ho];obtain⟨ps,f⟩:∃x:List (Y0),x=if o=[]then[]else[o]:=⟨_,rfl⟩
 rw[<-f];split;. simp
 split;. simp
 split;. simp
 . refine⟨by simp,λx hx=>?_,by simp only[br];omega⟩;simp only[List.mem_cons,List.not_mem_nil,or_false]at hx;rcases hx with rfl|rfl|rfl<;>exact EH _
structure nw (k:Nat) (s:aF):Prop where
 r:s.r.length<=1048576
 o:s.o.length<=60
 n:s.n.length<=32
 who:s.who.length<=k
 seals:s.seals.length<=k
 each:∀x∈s.seals,x.length<=32
theorem nw.up {k m:Nat} {s:aF} (h:nw k s) (hk:k<=m):nw m s:=⟨h.r,h.o,h.n,by have:=h.who;omega,by have:=h.seals;omega,h.each⟩
theorem nw.st {k:Nat} {s:aF} (h:nw k s) (hk:k<=1048576):dJ 1048576 s:=⟨h.r,by have:=h.o;omega,by have:=h.n;omega,by have:=h.who;omega,by have:=h.seals;omega,λx hx=>by have:=h.each x hx;omega⟩
theorem nw.sign {k:Nat} {s:aF} (h:nw k s) (at_ x:Int) (key:Y0):nw (k+1) (jk s at_ x key).1:=by
 have hz:nw (k+1) cv:=⟨by simp[cv],by simp[cv],by simp[cv],by simp[cv],by simp[cv],by simp[cv]⟩;unfold jk;split;. split;(. split;(. exact hz);split;(. exact hz);. refine⟨h.r,h.o,h.n,?_,?_,λy hy=>?_⟩;(. simp only[oP];have:=h.who;omega);(. simp only[oP];have:=h.seals;omega);. simp only[eW,List.mem_append,List.mem_singleton]at hy;rcases hy with(hy|hy)|hy;(. exact h.each y (List.mem_of_mem_take hy));(. subst hy;simp only[dC,br];omega);. exact h.each y (List.mem_of_mem_drop hy));. exact hz
 . exact hz
theorem of {s:aF} (h:nw 0 s) (at_ n:Int):∀i,nw i (io s at_ n i)
 |0=>h
 |i+1=>by
  unfold io
  split
  . exact(of h at_ n i).sign _ _ _
  . exact(of h at_ n i).up om
theorem xB (key b:Y0):(dC key b).length=32:=br _
def ii:Dd:=⟨1,0,0,[97],[98],3,false,0⟩
theorem Gv:(bT ⟨1,[98],[],[],[],[],[],0,[]⟩).2=0:=by
 have h:eZ ⟨1,[98],[],[],[],[],[],0,[]⟩=0:=dc0;unfold bT;rw[if_pos h,if_neg];simp only[pC,qW,txt,List.length_append];rw[show aZ (1:Int)=eB 1 from m9 (n:=1) om,ic om];simp[ic]
theorem Gy (x:Y0) (hx:x.length=32):(bT ⟨2,[],[⟨iX,false,x⟩],[],[],[],[],0,[]⟩).2=0:=by
 have h:eZ ⟨2,[],[⟨iX,false,x⟩],[],[],[],[],0,[]⟩=0:=by(have h1:mh [] [⟨iX,false,x⟩]=true:=by rw[r9];simp only[hx];decide);unfold eZ;rw[if_neg (by simp),if_pos (by simp[cN])];unfold qZ;rw[if_neg (by simp),if_neg (by simp),if_pos h1];unfold ra mm;simp[mT,sM,kj]
 unfold bT;rw[if_pos h,if_neg];simp only[pC,qW,jh,C5,txt,List.length_append,List.flatMap_cons,List.flatMap_nil];rw[show aZ (2:Int)=eB 2 from m9 (n:=2) om];simp[ic,iX,aZ];omega
theorem I2 (x:Y0) (hx:x.length=32):(bT ⟨3,[],[],x,[],[],[97],0,[]⟩).2=0:=by
 have h:eZ ⟨3,[],[],x,[],[],[97],0,[]⟩=0:=by unfold eZ;rw[if_neg (by simp),if_pos (by simp[cN])];unfold qZ;rw[if_neg (by simp),if_neg (by simp),if_pos (by rfl)];unfold ra mm;simp[mT,sM,kj,hx]
 unfold bT;rw[if_pos h,if_neg];simp[pC,qW,txt,hx,ic,aZ]
theorem IW:∃os id,fS [] [] ii=(os,id,0)/\id.length=32/\os.length=3:=by
 unfold fS ii;simp only;rw[if_neg (by rw[Gv];simp),if_neg (by rw[Gy _ (br _)];simp)];simp only[Bool.false_eq_true,if_false,if_true];rw[if_neg (by rw[I2 _ (br _)];simp)];exact⟨_,_,rfl,br _,rfl⟩
theorem Gk (s:aF) (h1:s.r.length<=60) (h2:s.o.length<=60) (h3:s.n.length<=60):(cL 0 s).2=0:=by
 unfold cL;rw[if_neg om,if_neg om]
theorem xQ (id:Y0) (hi:id.length=32) (who:List Int) (seals:List (Y0)):CH ⟨[97],[],id,who,seals⟩=true:=by
 unfold CH;have h1:fo [97]=true:=dc0;have h2:([]==id)=false:=by cases id with|nil=>(cases hi)|cons _ _=>rfl
 simp[h1,ip,hi,h2]
theorem Ik (id:Y0) (hi:id.length=32):∃K l,io ⟨[97],[],id,[],[]⟩ 0 3 3=⟨[97],[],id,[0,1],[K,l]⟩/\jg aT 2 0 ⟨[97],[],id,[0,1],[K,l]⟩=0:=by
 have hb:∀who seals,(cL 0 ⟨[97],[],id,who,seals⟩).2=0:=λwho seals=>Gk _ (by simp) (by simp) zeD
 have Ku:∀who seals,(cL 0 ⟨[97],[],id,who,seals⟩).1=(cL 0 ⟨[97],[],id,[],[]⟩).1:=λ_ _=>rfl
 obtain⟨B,hB⟩:=zq ((cL 0 ⟨[97],[],id,[],[]⟩).1);have e0:eR ⟨[97],[],id,[],[]⟩=0:=by unfold eR;rw[if_pos (xQ id hi _ _),if_neg (by simp)];rfl
 have e1:∀x:Y0,x.length=32->eR ⟨[97],[],id,[0],[x]⟩=0:=λx hx=>by unfold eR;rw[if_pos (xQ id hi _ _),if_neg (by simp)];simp[po,hx];rfl
 have e2:∀x y:Y0,x.length=32->y.length=32->eR ⟨[97],[],id,[0,1],[x,y]⟩=0:=λx y hx hy=>by unfold eR;rw[if_pos (xQ id hi _ _),if_neg (by simp)];simp[po,hx,hy];rfl
 have l:(jk ⟨[97],[],id,[],[]⟩ 0 0 (aj (dM 0))).1=⟨[97],[],id,[0],[dC (aj (dM 0)) B]⟩:=by unfold jk;rw[if_pos e0,if_pos (hb _ _),if_neg om,if_neg (by simp[kx]),hB];rfl
 have s2:(jk ⟨[97],[],id,[0],[dC (aj (dM 0)) B]⟩ 0 1 (aj (dM 1))).1=⟨[97],[],id,[0,1],[dC (aj (dM 0)) B,dC (aj (dM 1)) B]⟩:=by unfold jk;rw[if_pos (e1 _ (xB _ _)),if_pos (hb _ _),if_neg om,if_neg (by simp[kx]),Ku,<-hB];rfl
 refine⟨dC (aj (dM 0)) B,dC (aj (dM 1)) B,?_,?_⟩;. have b0:ki 3 0=true:=dc0;have b1:ki 3 1=true:=dc0;have b2:ki 3 2=false:=dc0;simp only[io,b0,b1,b2,if_true,Bool.false_eq_true,if_false];rw[show(((0:Nat):Int))=0 from rfl,l,show(((1:Nat):Int))=1 from rfl,s2]
 . unfold jg;rw[if_pos (e2 _ _ (xB _ _) (xB _ _)),if_pos (hb _ _),Ku,<-hB,if_pos];refine⟨?_,by simp⟩;simp[nH,xz,aT]
theorem Hd (s:ba) (hl:s.logs 0=[]) (hf:s.first=[]):∃s' id,d9 s 0 ii=(s',0,1,id)/\(s'.logs 0).length=1:=by
 obtain⟨os,id,hc,hi,_⟩:=IW;obtain⟨K,l,hs,hk⟩:=Ik id hi;have hne:¬id=[]:=by intro e;subst e;cases hi
 have h1:dg aT 0 (s.logs 0)=([],0,0):=by rw[hl];rfl
 have h2:fo ii.ref=true:=dc0;have h3:eD [] ii.ref=[]:=rfl;have h4:fj [] [97] [] id=([([97],id)],0):=by unfold fj;have a:mz []=true:=dc0;have b:fo [97]=true:=dc0;have c:eD [] [97]=[]:=rfl;have d:¬fE [97] []=true:=dc0;rw[if_pos a,if_pos ⟨b,rfl,by simp[ip,hi]⟩,if_pos c,if_neg d,if_neg hne,if_neg (by simp)];rfl
 have V:d9 s 0 ii=({s with objs:=s.objs++os,first:=id,logs:=am s.logs 0 [⟨[97],[],id,[0,1],[K,l]⟩],marks:=am s.marks 0 []},0,1,id):=by have f:io ⟨ii.ref,[],id,[],[]⟩ ((0:Nat):Int) ii.sg 3=⟨[97],[],id,[0,1],[K,l]⟩:=hs;have hk':jg aT 2 ((0:Nat):Int) ⟨[97],[],id,[0,1],[K,l]⟩=0:=hk;have e:=wG s 0 ii (r:=([],0,0)) (C:=(os,id,0)) (st:=⟨[97],[],id,[0,1],[K,l]⟩) (e:=0) (q:=([([97],id)],0)) h1.symm (by rw[if_pos (.inr rfl),hf];exact hc.symm) (by rw[hl];exact f.symm) (by rw[hl];exact hk'.symm) h4.symm;rw[e,if_neg (by simp),if_neg (by rw[h2];simp),if_neg (by rw[hl];simp),if_neg (by simp),if_neg (by exact hne),if_neg (by simp),if_neg (by simp),hl,hf];rfl
 exact⟨_,id,V,by simp[am]⟩
theorem Jn (ρ:fX):∃s' id,eK ρ dU ii=(s',0,1,id)/\(s'.logs 0).length=1:=by
 obtain⟨s',id,h1,h2⟩:=Hd {dU with deeds:=1} rfl rfl;exact⟨s',id,by unfold eK;rw[if_neg (by simp[dU])];simp only;rw[if_neg (by simp[ii]),if_pos (by rfl)];exact h1,h2⟩
theorem uO (t:Y0) (q:dS):(bX t q).1.length<=q.1.length+4105:=by
 unfold bX;split;. split;(. exact zb1);. simp only;omega
 . omega
theorem GK (l out:List (Y0)) (i:Nat) (st:rz) (h:(l.getD i []).length<=8192):(mL l out i st).2.1.length<=st.2.1.length+9000:=by
 unfold mL;split;. have h1:=jJ (l.getD i []) (aL ((l.getD i []).length:Int) (aL ((dy (l.getD i []) (l.take i) st.1 out).1:Int) st.2));have h2:=dV ((l.getD i []).length:Int) (aL ((dy (l.getD i []) (l.take i) st.1 out).1:Int) st.2);exact zbH
 . split;(. (have h1:=uO (dy (l.getD i []) (l.take i) st.1 out).2.2 (aL ((dy (l.getD i []) (l.take i) st.1 out).2.1:Int) (aL ((dy (l.getD i []) (l.take i) st.1 out).1:Int) st.2)));have h2:=dV ((dy (l.getD i []) (l.take i) st.1 out).2.1:Int) (aL ((dy (l.getD i []) (l.take i) st.1 out).1:Int) st.2);exact zbH);. (have h1:=uO (dy (l.getD i []) (l.take i) st.1 out).2.2 (df (aj (out.getD (dy (l.getD i []) (l.take i) st.1 out).2.1 [])) (aL ((dy (l.getD i []) (l.take i) st.1 out).1:Int) st.2)));have h2:=jJ (aj (out.getD (dy (l.getD i []) (l.take i) st.1 out).2.1 [])) (aL ((dy (l.getD i []) (l.take i) st.1 out).1:Int) st.2);(have h3:=dV ((dy (l.getD i []) (l.take i) st.1 out).1:Int) st.2);have h4:=br (out.getD (dy (l.getD i []) (l.take i) st.1 out).2.1 []);simp only;omega
theorem yb (l out:List (Y0)) (h:∀x∈l,x.length<=8192):∀(k i:Nat) (st:rz),(rv (mL l out) k i st).2.1.length<=st.2.1.length+k*9000
 |0,i,st=>by simp[rv]
 |k+1,i,st=>by
  have h1:=yb l out h k (i+1) (mL l out i st)
  have h2:=GK l out i st (by
   rw[List.getD_eq_getElem?_getD]
   cases he:l[i]? with
   |none=>simp
   |some x=>exact h x (List.mem_of_getElem? he))
  rw[rv]
  omega
theorem CQ:∀(l a:List (Y0)),mM a l=0->∀x∈l,(cO x).2=0
 |[],a,_,x,hx=>by cases hx
 |s::r,a,h,x,hx=>by
  rw[mM]at h
  split at h
  . rename_i h1
    split at h
    . cases h
    . rcases List.mem_cons.1 hx with rfl|hx
      . exact h1
      . exact CQ r _ h x hx
  . rename_i h1;exact absurd h h1
theorem BG (l out:List (Y0)):(fV l out).1.length<=3700000:=by
 unfold fV;split;. simp
 . rename_i hl;split;(. rename_i hE;split;(. have h1:=yb l out (λx hx=>qG (CQ l [] hE x hx)) l.length 0 (List.replicate l.length 0,aL (l.length:Int) (df [80] ([],0)));have h2:=dV (l.length:Int) (df [80] ([],0));have h3:=jJ [80] ([],0);(have h4:=br (mY l out).2.1);have h5:l.length<=400:=om;have h6:l.length*9000<=400*9000:=Nat.mul_le_mul_right _ h5;simp only[List.length_append];unfold mY at h4⊢;simp only[List.length_cons,List.length_nil]at h3;simp only at h1;omega);. simp);. simp
theorem yJ:∀(n:Nat) (l:List (Y0)) (m:Nat) (wh:Bool),l.length<=n->∀x∈cX l m wh,x.length=32:=by
 intro n;induction n with|zero=>intro l m wh hl x hx;rw[cX,dif_pos (.inr om)]at hx;exact zbM|succ n J=>intro l m wh hl x hx;rw[cX]at hx;split at hx;(. exact zbM);. rename_i h;have h1:=kF (n:=l.length) om;have h2:=jC l.length;split at hx;(. (rcases List.mem_cons.1 hx with rfl|hx);(. exact iJ _);. exact J _ _ _ zeA x hx);. (rcases List.mem_cons.1 hx with rfl|hx);(. exact iJ _);. exact J _ _ _ zeQ x hx
theorem pE (l:List (Y0)) (m:Int):∀x∈bH l m,x.length=32:=by
 intro x hx;unfold bH at hx;split at hx;. exact yJ l.length l _ _ (Dg _) x (List.mem_reverse.1 hx)
 . cases hx
theorem BH (l:List (Y0)) (m:Int):(bH l m).length<=l.length+1:=by
 unfold bH;split;. rw[List.length_reverse];exact nP l.length l _ _ (Dg _)
 . simp
theorem Ha (ρ:fX) (l:List aF) (objs:List (Y0)) (frm hn:Int):(cy ρ l objs frm hn).1.length<=l.length+1/\(∀x∈(cy ρ l objs frm hn).1,x.length=32)/\(cy ρ l objs frm hn).2.1.length<=3700000:=by
 have hz:∀e:Int,(([],[],e):List (Y0)×Y0×Int).1.length<=l.length+1/\(∀x∈(([],[],e):List (Y0)×Y0×Int).1,x.length=32)/\(([],[],e):List (Y0)×Y0×Int).2.1.length<=3700000:=λe=>⟨by simp,by simp,by simp⟩
 unfold cy;split;. exact hz _
 . split;(. exact hz _);. split;(. exact hz _);. split;(. exact hz _);. simp only;split;(. exact hz _);. refine⟨?_,pE _ _,BG _ _⟩;have:=BH (fh l) frm;rwa [mZ]at this
structure rE (s:ba):Prop where
 ok:mq s
 fw:∀i,i<4->fY (s.wit i).f
 fc:∀i,i<3->fY (s.cli i).f
 deeds:s.deeds<=120
 logs:∀b,b<2->(s.logs b).length<=s.deeds/\∀x∈s.logs b,dJ 1048576 x
 marks:∀b,b<2->(s.marks b).length<=s.deeds
 objs:s.objs.length<=3*s.deeds/\∀x∈s.objs,x.length<=8192
 first:s.first.length<=1048576
theorem qu {fs:List Fl} (h:aQ fs=true):Sz fs:=by
 obtain⟨a,b⟩:=tX h;exact⟨om,λf hf=>by have:=b f hf;omega⟩
theorem IY {s:aF} (h:eR s=0):dJ 1048576 s:=by
 obtain⟨_,h1,h2,h3,h4,h5,h6,_⟩:=gJ h;exact⟨om,om,om,om,om,λx hx=>by have:=h6 x hx;omega⟩
theorem IR {l:List aF} (h:dN l=0):∀s∈l,dJ 1048576 s:=λs hs=>IY (vm (tZ h s hs))
theorem ym {n:Int} {r:Y0} (h:(aG n r).2=0):r.length=32:=by
 unfold aG at h;split at h;. rename_i h1;exact(nc h1).2.2
 . rename_i h1;exact absurd h h1
theorem js.sz {x:lh} (h:js x) (hf:fY x.f):FB x:=by
 refine⟨qu h.good,hf,?_⟩;rcases h.seen with⟨_,e,_⟩|⟨e,_⟩;. rw[e,br];decide
 . rw[ym e];decide
theorem iB.sz {x:eU} (h:iB x) (hf:fY x.f):FP x:=by
 rcases h.told with⟨_,e2,e3,e4,_⟩|⟨e1,e2,e3,e4,_⟩;. exact⟨qu h.good,hf,by rw[e2,br];decide,by rw[e3];simp,by rw[e3];simp,by rw[e4];simp⟩
 . (have h0:(aw x.l).2.2=0:=by rw[e1]);obtain⟨h1,h2,h3⟩:=sj h0;refine⟨qu h.good,hf,?_,h1,IR h2,by rw[e3];exact(vU aT 2 x.l).1⟩;rw[ym (uN e4).1];decide
theorem rE.sz {s:ba} (h:rE s):px s:=⟨h.deeds,h.logs,h.marks,h.objs,h.first,λi hi=>(h.ok.wit i hi).sz (h.fw i hi),λi hi=>(h.ok.cli i hi).sz (h.fc i hi)⟩
theorem qF:fY (-1):=by unfold fY;omega
theorem EP:rE dU:=⟨JE,λ_ _=>qF,λ_ _=>qF,dc0,λ_ _=>⟨by simp[dU],λx hx=>(by simp[dU]at hx)⟩,λ_ _=>by simp[dU],⟨by simp[dU],λx hx=>(by simp[dU]at hx)⟩,by simp[dU]⟩
theorem mx:∀(l:List (Y0)) {fs:List Fl} {f:Int},fY f->fY (jl l fs f).2.1
 |[],fs,f,h=>h
 |s::r,fs,f,h=>by
  rw[jl]
  split
  . exact mx r (pK h)
  . exact pK h
theorem uI {ρ:fX} {c:eU} (h:fY c.f) (ss K:List (Y0)) (z hn:Int) (hr:Y0) (ms:List (Int×Y0)) (frm:Int) (f:List (Y0)) (steps:List aF) (g:Y0):fY (gT ρ c ss K z hn hr ms frm f steps g).1.f:=by
 rw[uc ρ c ss K z hn hr ms frm f steps g rfl rfl rfl rfl rfl rfl rfl];split;. exact h
 split;. exact h
 split;. exact h
 split;. exact h
 split;. exact h
 split;. exact h
 split;. exact h
 split;. exact h
 split;. exact h
 unfold pI;split;. exact mx _ h
 split;. exact iQ (mx _ h)
 . exact iQ (mx _ h)
theorem uh {fs:List Fl} {f:Int} (h:fY f) (who:Int) (key:Y0) (so:Int) (ro:Y0) (n:Int) (r:Y0) (ps:List (Y0)):fY (dY fs f who key so ro n r ps).u:=by
 unfold dY;split;. split;(. split;(. split;(. exact iQ h);. exact iQ h);. exact h);. exact h
 . exact h
theorem Bu {fs:List Fl} {f:Int} (h:fY f) (keep sz:Int) (r:Y0):fY (cG fs f keep sz r).2.1:=by
 have hc:fY (bn fs f keep).2.1:=by unfold bn;split;(. exact qF);. exact h
 unfold cG;split;. split;(. exact hc);split;(. split;(. exact hc);. exact h);. exact h
 . exact h
theorem Bx {gs:List Fl} {u:Int} {ss:List (Y0)} {z:Int} {b:Y0} {c:eU} (h:fY u) (hc:fY c.f):fY (fG (mt gs u ss z b) c).1.f:=by
 unfold mt vC;split;. exact hc
 . split;(. split;(. exact h);. exact hc);. exact hc
theorem AU {c:eU} (h:fY c.f) (keep:Int) (ss:List (Y0)) (z:Int):fY (fG (gm c.fs c.f keep ss z) c).1.f:=by
 have a:fY (bn c.fs c.f keep).2.1:=by unfold bn;split;(. exact qF);. exact h
 unfold gm;split;. split;(. exact a);split;(. exact Bx a h);. exact h
 . exact h
theorem Ae {s:ba} (hw:∀i,i<4->fY (s.wit i).f) (hc:∀i,i<3->fY (s.cli i).f) (i:Nat) (keep:Int):(∀j,j<4->fY ((dh s i keep).1.wit j).f)/\∀j,j<3->fY ((dh s i keep).1.cli j).f:=by
 have h1:=λ(h:i<3)=>AU (hc i h) keep aT 2;have h2:=λ(h:i-3<4)=>Bu (fs:=(s.wit (i-3)).fs) (hw (i-3) h) keep (s.wit (i-3)).sz (s.wit (i-3)).rt
 unfold dh;by_cases h3:i<3;. rw[if_pos h3];simp only;split;all_goals refine⟨hw,λj hj=>?_⟩;simp only;by_cases a:j=i;(. subst a;rw[bi];exact h1 h3);. rw[dG _ _ a];exact hc j hj
 . rw[if_neg h3];simp only;split;all_goals refine⟨λj hj=>?_,hc⟩;simp only;by_cases a:j=i-3;(. subst a;rw[bi];exact h2 hj);. rw[dG _ _ a];exact hw j hj
theorem Fu {s:ba} (b:Nat) (hb:b<2) (d:Dd) (hd:d.ref.length<=1048576) (hl:∀b,b<2->∀x∈s.logs b,dJ 1048576 x) (ho:∀x∈s.objs,x.length<=8192) (hf:s.first.length<=1048576):(∀c,c<2->((d9 s b d).1.logs c).length<=(s.logs c).length+1/\∀x∈(d9 s b d).1.logs c,dJ 1048576 x)/\(∀c,((d9 s b d).1.marks c).length<=(s.marks c).length)∧((d9 s b d).1.objs.length<=s.objs.length+3/\∀x∈(d9 s b d).1.objs,x.length<=8192)/\(d9 s b d).1.first.length<=1048576:=by
 have h0:(∀c,c<2->(s.logs c).length<=(s.logs c).length+1/\∀x∈s.logs c,dJ 1048576 x)/\(∀c,(s.marks c).length<=(s.marks c).length)/\(s.objs.length<=s.objs.length+3/\∀x∈s.objs,x.length<=8192)/\s.first.length<=1048576:=⟨λc hc=>⟨om,hl c hc⟩,λ_=>Dg _,⟨om,ho⟩,hf⟩;rcases qU s b d with⟨e,_,h⟩|⟨C,st,hC,Kj,_,_,_,_,_,_,_,h⟩;. rw[h];exact h0
 . rw[h];have hg:=wB (DM aT 0 (s.logs b)) d.ref;(obtain⟨c1,c2,c3⟩:C.1.length<=3/\(∀x∈C.1,x.length<=8192)/\C.2.1.length<=32:=by rw[hC];split;(. exact zu _ _ _);. simp);have hs:=of (s:=⟨d.ref,eD (dg aT 0 (s.logs b)).1 d.ref,C.2.1,[],[]⟩) ⟨hd,hg,c3,by simp,by simp,by simp⟩ ((s.logs b).length:Int) d.sg 3;rw[<-Kj]at hs;refine⟨λc hc=>?_,λc=>?_,⟨by simp only[List.length_append];omega,λx hx=>?_⟩,?_⟩;(. simp only;by_cases e:c=b;(. subst e;rw[bi];refine⟨by simp,λx hx=>?_⟩;(rcases List.mem_append.1 hx with hx|hx);(. exact hl c hc x hx);. rw[List.mem_singleton]at hx;subst hx;exact hs.st om);. rw[dG _ _ e];exact⟨om,hl c hc⟩);(. simp only;by_cases e:c=b;(. subst e;rw[bi];simp);. rw[dG _ _ e];exact Dg _);(. (rcases List.mem_append.1 hx with hx|hx);(. exact ho x hx);. exact c2 x hx);. simp only;split;(. have:=hs.n;omega);. exact hf
structure rN (d:Dd):Prop where
 ref:d.ref.length<=1048576
 data:d.data.length<=1048576
 size:d.size<=9223372036854775807
theorem zN {ρ:fX} {s:ba} {d:Dd} (h:120<=s.deeds):(eK ρ s d)=(s,6,0,[]):=by unfold eK;rw[if_pos h]
theorem rE.do_ {s:ba} (h:rE s) (ρ:fX) (d:Dd) (hd:rN d):rE (eK ρ s d).1:=by
 have z:=h.ok.do_ ρ d;by_cases I:120<=s.deeds;. rw[zN I];exact h
 have hD:=Dc ρ s d;have hk':=h.ok.deeds (s.deeds+1);have h1:rE {s with deeds:=s.deeds+1}:=⟨hk',h.fw,h.fc,by(try simp only);omega,λb hb=>⟨by have:=(h.logs b hb).1;(try simp only);omega,(h.logs b hb).2⟩,λb hb=>by have:=h.marks b hb;(try simp only);omega,⟨by have:=h.objs.1;(try simp only);omega,h.objs.2⟩,h.first⟩;rcases qw ρ s d with e|⟨c,_,e⟩|⟨b,hb,_,_,e⟩|⟨b,hb,_,e⟩|⟨b,i,hb,hi,_,_,e⟩|⟨b,i,hb,hi,_,_,e⟩|⟨i,hi,_,hs,_,e⟩|⟨i,hi,_,hs,_,e⟩;. rw[e];exact h
 . rw[e];exact h1
 . rw[e]at z⊢;obtain⟨k1,k2,k3,k4⟩:=oJ {s with deeds:=s.deeds+1} b d;(obtain⟨p1,p2,p3,p4⟩:=Fu (s:={s with deeds:=s.deeds+1}) b hb d hd.ref (λb hb=>(h.logs b hb).2) h.objs.2 h.first);refine⟨z,λi hi=>by rw[k1];exact h.fw i hi,λi hi=>by rw[k2];exact h.fc i hi,by rw[k4];(try simp only);omega,λc hc=>⟨?_,(p1 c hc).2⟩,λc hc=>?_,⟨?_,p3.2⟩,p4⟩;(. have q1:=(p1 c hc).1;have q2:=(h.logs c hc).1;rw[k4];simp only at q1⊢;omega);(. have q1:=p2 c;have q2:=h.marks c hc;rw[k4];simp only at q1⊢;omega);. have q1:=p3.1;have q2:=h.objs.1;rw[k4];simp only at q1⊢;omega
 . rw[e]at z⊢;refine⟨z,h.fw,h.fc,by unfold jK;(try simp only);omega,λc hc=>?_,λc hc=>?_,⟨by have:=h.objs.1;unfold jK;(try simp only);omega,h.objs.2⟩,h.first⟩;(. unfold jK;simp only;by_cases ec:c=1-b;(. subst ec;rw[bi];exact h1.logs b hb);. rw[dG _ _ ec];exact h1.logs c hc);. unfold jK;simp only;by_cases ec:c=1-b;(. subst ec;rw[bi];exact h1.marks b hb);. rw[dG _ _ ec];exact h1.marks c hc
 . rw[e]at z⊢;obtain⟨_,k1,k2,k3,k4,k5,k6,k7,k8⟩:=vK hk' b i hi;(have Kx:fY ((dA {s with deeds:=s.deeds+1} b i).1.wit i).f:=by unfold dA;simp only;split;(. exact h.fw i hi);split;(. split;(. exact h.fw i hi);. exact h.fw i hi);split;(. exact h.fw i hi);split;(. exact zdR);. exact zdR);refine⟨z,λj hj=>?_,λj hj=>by rw[k2];exact h.fc j hj,by rw[k3];(try simp only);omega,λc hc=>by rw[k1,k3];exact h1.logs c hc,λc hc=>?_,by rw[k4,k3];exact h1.objs,by rw[k5];exact h.first⟩;(. by_cases a:j=i;(. subst a;exact Kx);. rw[k6 j a];exact h.fw j hj);. rw[k3];rcases k8 with⟨_,_,_,k8⟩|⟨_,_,_,⟨m,_,k8⟩,_⟩;(. rw[k8];exact h1.marks c hc);. rw[k8];by_cases ec:c=b;(. subst ec;rw[bi];(have g:∀(l:List (Int×Y0)),(l.filter (λo=>decide (o.1<(i:Int)))).length+(l.filter (λo=>decide ((i:Int)<o.1))).length<=l.length:=λl=>by induction l with|nil=>simp|cons x r J=>rw[List.filter_cons,List.filter_cons,List.length_cons];split<;>split<;>rename_i q1 q2<;>simp only[decide_eq_true_eq]at q1 q2<;>(try simp only[List.length_cons])<;>omega);have:=g (s.marks c);have hm:=h.marks c hc;simp only[List.length_append,List.length_singleton];omega);. rw[dG _ _ ec];exact h1.marks c hc
 . rw[e]at z⊢;obtain⟨_,k1,k2,k3,k4,k5,k6,k7,_⟩:=uL (ρ:=ρ) hk' b i hi;(have Kx:fY ((cR ρ {s with deeds:=s.deeds+1} b i).1.cli i).f:=by unfold cR;simp only;split;(. exact h.fc i hi);split;(. exact h.fc i hi);split;(. exact h.fc i hi);split;(. exact h.fc i hi);split;(. exact zdl);. exact zdl);refine⟨z,λj hj=>by rw[k2];exact h.fw j hj,λj hj=>?_,by rw[k4];(try simp only);omega,λc hc=>by rw[k1,k4];exact h1.logs c hc,λc hc=>by rw[k3,k4];exact h1.marks c hc,by rw[k5,k4];exact h1.objs,by rw[k6];exact h.first⟩;by_cases a:j=i;(. subst a;exact Kx);. rw[k7 j a];exact h.fc j hj
 . rw[e]at z⊢;obtain⟨_,k1,k2,k3,k4,k5,_⟩:=xk hk' i hi d.size;(have p:fY d.size:=by unfold fY;have:=hd.size;omega);(have f:(∀j,j<4->fY ((eN {s with deeds:=s.deeds+1} i d.size).1.wit j).f)/\∀j,j<3->fY ((eN {s with deeds:=s.deeds+1} i d.size).1.cli j).f:=by unfold eN;split;(. refine⟨h.fw,λj hj=>?_⟩;by_cases a:j=i;(. subst a;simp only[bi];exact p);. simp only[dG _ _ a];exact h.fc j hj);. refine⟨λj hj=>?_,h.fc⟩;by_cases a:j=i-3;(. subst a;simp only[bi];exact p);. simp only[dG _ _ a];exact h.fw j hj);exact zba
 . rw[e]at z⊢;obtain⟨_,k1,k2,k3,k4,k5,_⟩:=yn hk' i hi hs;have f:=Ae (s:={s with deeds:=s.deeds+1}) h.fw h.fc i d.size;exact zba
section
open Go.RowKit Go.ChangeShapes Go.WideShapes
def gi (d:Dd):List Value:=(AQ d).toList
structure zB (w:World) (A:Yy) (c:Nat) (l:List Dd):Prop where
 row:ak w 8 A l.length (l.flatMap gi)
 len:l.length<=1048576
 each:∀d∈l,rN d
 cap:l.length<=c
 nil:A=none->l.length=0/\c=0
theorem Jp {w:World} {r:Reach} {base:Nat} {H:Type} {enc:TypeId×Value->H} {v:Value} {d:DataW H} {p:List MemPlace} (hv:Value.okWide Ao w r base 22 v) (hd:DataW.Trod enc Ao w 0 (λ_=>true) true 22 v d p) (hb:Rows.uptoBulk d<=1048576):∃A c l,v=.slice A (List.length l) c/\zB w A c l:=by
 obtain⟨A,c,xs,e,hR,hs⟩:=tU Tryz.underlying22 (yK Tryz.underlying22 zc0 (Cd w) om) hv hd;obtain⟨U,c',e',h1,h2,C⟩:=AZ (k:=8) gi (λ_=>rfl) om (λg x h=>h.1) hR;simp only[List.cons.injEq,and_true,Value.slice.injEq,true_and]at e';obtain⟨rfl,rfl⟩:=e';obtain⟨A2,c2,e2,_,h3,hat⟩:=hR;simp only[List.cons.injEq,and_true,Value.slice.injEq,true_and]at e2;obtain⟨rfl,rfl⟩:=e2;have hl:=zS yf (λx=>Nat.succ_le_succ (Nat.zero_le _)) xs;refine⟨A,c,xs,e,C,om,λx hx=>?_,h1,λh=>?_⟩;. have h5:=GZ yf hx;unfold yf at h5 hs;obtain⟨i,hi,rfl⟩:=List.getElem_of_mem hx;obtain⟨b,off,_,Ky⟩:=hat om;obtain⟨g,M,_⟩:=Ky i hi;(have h6:=M.2.2.2.2.2);exact⟨om,om,h6.2⟩
 . (have:=h3.2 h);omega
theorem za {w:World} {A:Yy} {l:List Dd} (h:ak w 8 A l.length (l.flatMap gi)) {i:Nat} (hi:i<l.length):∃b off,A=some ⟨b,off,none⟩∧w.cell? ⟨b,off+i*8,none⟩=some (.int .i64 l[i].k)/\w.cell? ⟨b,off+i*8+1,none⟩=some (.int .i64 l[i].b)/\w.cell? ⟨b,off+i*8+2,none⟩=some (.int .i64 l[i].w)/\w.cell? ⟨b,off+i*8+3,none⟩=some (.string (bs l[i].ref))∧w.cell? ⟨b,off+i*8+4,none⟩=some (.string (bs l[i].data))/\w.cell? ⟨b,off+i*8+5,none⟩=some (.int .i64 l[i].sg)/\w.cell? ⟨b,off+i*8+6,none⟩=some (.bool l[i].old)/\w.cell? ⟨b,off+i*8+7,none⟩=some (.int .i64 l[i].size):=by
 obtain⟨b,off,e,hc⟩:=h.at_ om;have h1:∀j v,j<8->(gi l[i])[j]?=some v->w.cell? ⟨b,off+i*8+j,none⟩=some v:=λj v hj hv=>by have:=hc (i*8+j) v (by rw[qB gi 8 (λ_=>rfl) l i hi j hj];exact hv);rw[<-Nat.add_assoc]at this;exact this
 exact⟨b,off,e,h1 0 _ om rfl,h1 1 _ om rfl,h1 2 _ om rfl,h1 3 _ om rfl,h1 4 _ om rfl,h1 5 _ om rfl,h1 6 _ om rfl,h1 7 _ om rfl⟩
end
def jo (ρ:fX) (s:ba) (l:List Dd):ba:=l.foldl (λs d=>(eK ρ s d).1) s
theorem BO (ρ:fX) (s:ba) (l:List Dd) (i:Nat) (h:i<l.length):jo ρ s (l.take (i+1))=(eK ρ (jo ρ s (l.take i)) l[i]).1:=by
 unfold jo;exact zb9
theorem Db (ρ:fX) (s:ba) (l:List Dd) (i:Nat) (h:i<l.length):gP ρ s (l.take (i+1))=gP ρ s (l.take i)++[(eK ρ (jo ρ s (l.take i)) l[i]).2]:=by
 have key:∀(a:List Dd) (s:ba) (d:Dd),gP ρ s (a++[d])=gP ρ s a++[(eK ρ (jo ρ s a) d).2]:=by intro a;induction a with|nil=>intro s d;rfl|cons x r J=>intro s d;rw[List.cons_append,gP,J,gP,List.cons_append];rfl
 rw[List.take_succ_eq_append_getElem h,key]
theorem sY (ρ:fX):∀(l:List Dd) {s:ba},rE s->(∀d∈l,rN d)->rE (jo ρ s l)
 |[],s,h,_=>h
 |d::r,s,h,hd=>sY ρ r (h.do_ ρ d (hd d (List.mem_cons_self ..))) (λx hx=>hd x (List.mem_cons_of_mem _ hx))
section
section
variable{F F' M:Nat→Prop} {w w' wl w1:World} {a:WA} {s:ba} {g:Nat}
theorem aX.mono (h:aX F w g a s) (hF:∀k,F k->F' k) (hl:∀k,F' k->k<w.heap.size) (hg:¬F' g) (ho:∀k,a.ob k->¬F' k):aX F' w g a s:=
 ⟨h.blk,h.rows.mono hF hl ho,hg,h.ho⟩
theorem aX.new (h:aX F w g a s) (k:Gr w wl) (k1:Gr wl w1):aX (bZ F wl w1 a) w1 g a s:=by
 have h1:=h.gr (k.trans k1);have l:=k.size;have s2:=k1.size;have hg:=h.blk.lt;refine h1.mono (λk hk=>.inl hk) (λj hj=>?_) (λhj=>?_) (λj hj hn=>?_);. rcases hj with hj|hj;(. exact h1.rows.lt j hj);. exact hj.2.1
 . exact zdh
 . exact zbW
theorem aX.newW (h:aX F w1 g a s) (hg:g<wl.heap.size):aX (bZ F wl w1 a) w1 g a s:=by
 refine h.mono (λk hk=>.inl hk) (λj hj=>?_) (λhj=>?_) (λj hj hn=>?_);. rcases hj with hj|hj;(. exact h.rows.lt j hj);. exact hj.2.1
 . exact zdh
 . exact zbW
theorem eo.newO {k:Nat} (h:eo F w w' k) (hw:wl.heap.size<=w.heap.size) (M:w'.heap.size<=w1.heap.size) (ho:∀j,a.ob j->j<w.heap.size):bZ F wl w1 a k:=by
 rcases h with h|h;. exact .inl h
 . exact .inr ⟨om,om,λh'=>by have:=ho k h';omega⟩
theorem aX.oblt (h:aX F w g a s):∀j,a.ob j->j<w.heap.size:=by
 intro j hj;have ho:=h.rows.objs;have:(Value.slice a.oA s.objs.length a.oc).ownBlock=some j:=by unfold WA.ob at hj;cases hA:a.oA with|none=>(rw[hA]at hj;cases hj)|some x=>rw[hA]at hj;exact hj
 exact(ho.lt j this).2
theorem aX.rowsG (h:aX F w g a s) (m:aH (λk=>k=g) w w'):dI F w' a s:=
 h.rows.mod m (λk hk e=>h.hF (e▸hk)) (λk hk e=>h.ho (e▸hk))
theorem dI.cliupd (h:dI F w a s) {i:Nat} {A:Yy} {c:Nat} {S:Yy} {sc:Nat} {es:List SA} {R:Yy} {rc:Nat} {x:eU} (hc:j4 F w A c S sc es R rc x):
 dI F w {a with cA:=am a.cA i A,cc:=am a.cc i c,sA:=am a.sA i S,sc:=am a.sc i sc,se:=am a.se i es,rA:=am a.rA i R,rc:=am a.rc i rc} {s with cli:=am s.cli i x}:=
 ⟨h.lt,h.keys,h.wkeys,h.logs,h.plain,h.marks,h.objs,h.apart,h.wit,λj hj=>by
  by_cases e:j=i
  . subst e;simp only[am,if_true];exact hc
  . simp only[am,if_neg e];exact h.cli j hj⟩
theorem dI.witupd (h:dI F w a s) {i:Nat} {A:Yy} {c:Nat} {x:lh} (hc:aV F w 3 A x.fs.length c (x.fs.flatMap ap)):
 dI F w {a with wA:=am a.wA i A,wc:=am a.wc i c} {s with wit:=am s.wit i x}:=
 ⟨h.lt,h.keys,h.wkeys,h.logs,h.plain,h.marks,h.objs,h.apart,λj hj=>by
  by_cases e:j=i
  . subst e;simp only[am,if_true];exact hc
  . simp only[am,if_neg e];exact h.wit j hj,h.cli⟩
theorem dI.marksupd (h:dI F w a s) {b:Nat} {A:Yy} {c:Nat} {l:List (Int×Y0)} (hc:aV F w 2 A l.length c (l.flatMap ep)):
 dI F w {a with mA:=am a.mA b A,mc:=am a.mc b c} {s with marks:=am s.marks b l}:=
 ⟨h.lt,h.keys,h.wkeys,h.logs,h.plain,λj hj=>by
  by_cases e:j=b
  . subst e;simp only[am,if_true];exact hc
  . simp only[am,if_neg e];exact h.marks j hj,h.objs,h.apart,h.wit,h.cli⟩
theorem dI.logsupd (h:dI F w a s) {b:Nat} {A:Yy} {c:Nat} {es:List SA} {l:List aF} (hc:iT F w A c es l) (V:oD A):dI F w {a with bA:=am a.bA b A,bc:=am a.bc b c,be:=am a.be b es} {s with logs:=am s.logs b l}:=by
 refine⟨h.lt,h.keys,h.wkeys,λj hj=>?_,λj hj=>?_,h.marks,h.objs,h.apart,h.wit,h.cli⟩;. by_cases e:j=b;(. subst e;simp only[am,if_true];exact hc);. simp only[am,if_neg e];exact h.logs j hj
 . by_cases e:j=b;(. subst e;simp only[am,if_true];exact V);. simp only[am,if_neg e];exact h.plain j hj
theorem dI.down (h:dI F w a s) (d:Nat->Bool):dI F w a {s with down:=d}:=⟨h.lt,h.keys,h.wkeys,h.logs,h.plain,h.marks,h.objs,h.apart,h.wit,h.cli⟩
theorem dI.first (h:dI F w a s) (d:Y0):dI F w a {s with first:=d}:=⟨h.lt,h.keys,h.wkeys,h.logs,h.plain,h.marks,h.objs,h.apart,h.wit,h.cli⟩
theorem dI.deeds (h:dI F w a s) (d:Nat):dI F w a {s with deeds:=d}:=⟨h.lt,h.keys,h.wkeys,h.logs,h.plain,h.marks,h.objs,h.apart,h.wit,h.cli⟩
theorem ay (g j:Nat) (w:World) (v:Value):aH (λk=>k=g) w (w.setCell (g,j) v):=aH.setCell (M:=λk=>k=g) (g,j) v rfl
theorem aX.setCli (h:aX F w g a s) {i:Nat} (hi:i<3) {A:Yy} {c:Nat} {S:Yy} {sc:Nat} {es:List SA} {R:Yy} {rc:Nat} {x:eU} (hc:j4 F w A c S sc es R rc x):aX F ((((((w.setCell (g,33+i*6) (A,x.fs.length,c)).setCell (g,33+i*6+1) x.f).setCell (g,33+i*6+2) x.sz).setCell (g,33+i*6+3) x.rt).setCell (g,33+i*6+4) (S,es.length,sc)).setCell (g,33+i*6+5) (R,x.rs.length,rc)) g {a with cA:=am a.cA i A,cc:=am a.cc i c,sA:=am a.sA i S,sc:=am a.sc i sc,se:=am a.se i es,rA:=am a.rA i R,rc:=am a.rc i rc} {s with cli:=am s.cli i x}:=by
 have hb:=(((((h.blk.set_ (33+i*6) (A,x.fs.length,c)).set_ (33+i*6+1) x.f).set_ (33+i*6+2) x.sz).set_ (33+i*6+3) x.rt).set_ (33+i*6+4) (S,es.length,sc)).set_ (33+i*6+5) (R,x.rs.length,rc)
 rw[yZ a s hi]at hb;have hm:=((((((ay g (33+i*6) w (A,x.fs.length,c)).trans (ay g (33+i*6+1) _ x.f)).trans (ay g (33+i*6+2) _ x.sz)).trans (ay g (33+i*6+3) _ x.rt)).trans (ay g (33+i*6+4) _ (S,es.length,sc))).trans (ay g (33+i*6+5) _ (R,x.rs.length,rc)));exact⟨hb,(h.rowsG hm).cliupd (hc.mod hm (λk hk e=>h.hF (e▸hk))),h.hF,h.ho⟩
theorem aX.setWit (h:aX F w g a s) {i:Nat} (hi:i<4) {A:Yy} {c:Nat} {x:lh} (hc:aV F w 3 A x.fs.length c (x.fs.flatMap ap)):aX F ((((((w.setCell (g,9+i*6) i).setCell (g,9+i*6+1) (aj (ar i))).setCell (g,9+i*6+2) (A,x.fs.length,c)).setCell (g,9+i*6+3) x.f).setCell (g,9+i*6+4) x.sz).setCell (g,9+i*6+5) x.rt) g {a with wA:=am a.wA i A,wc:=am a.wc i c} {s with wit:=am s.wit i x}:=by
 have hb:=(((((h.blk.set_ (9+i*6) i).set_ (9+i*6+1) (aj (ar i))).set_ (9+i*6+2) (A,x.fs.length,c)).set_ (9+i*6+3) x.f).set_ (9+i*6+4) x.sz).set_ (9+i*6+5) x.rt
 rw[yy a s hi]at hb;have hm:=((((((ay g (9+i*6) w i).trans (ay g (9+i*6+1) _ (aj (ar i)))).trans (ay g (9+i*6+2) _ (A,x.fs.length,c))).trans (ay g (9+i*6+3) _ x.f)).trans (ay g (9+i*6+4) _ x.sz)).trans (ay g (9+i*6+5) _ x.rt));exact⟨hb,(h.rowsG hm).witupd (hc.mod hm (λk hk e=>h.hF (e▸hk))),h.hF,h.ho⟩
theorem aX.setDown (h:aX F w g a s) {i:Nat} (hi:i<7) (x:Bool):aX F (w.setCell (g,51+i) x) g a {s with down:=am s.down i x}:=by
 have hb:=h.blk.set_ (51+i) x;rw[xW a s hi]at hb;exact⟨hb,(h.rowsG (ay g (51+i) w x)).down _,h.hF,h.ho⟩
theorem aX.setCliFuse (h:aX F w g a s) {i:Nat} (hi:i<3) (x:Int):aX F (w.setCell (g,33+i*6+1) x) g a {s with cli:=am s.cli i {s.cli i with f:=x}}:=by
 have hb:=h.blk.set_ (33+i*6+1) x;rw[vQ a s hi]at hb;have hr:=h.rowsG (ay g (33+i*6+1) w x);refine⟨hb,⟨hr.lt,hr.keys,hr.wkeys,hr.logs,hr.plain,hr.marks,hr.objs,hr.apart,hr.wit,λj hj=>?_⟩,h.hF,h.ho⟩;by_cases e:j=i;. subst e;simp only[am,if_true];exact⟨(hr.cli j hj).disk,(hr.cli j hj).steps,(hr.cli j hj).refs⟩
 . simp only[am,if_neg e];exact hr.cli j hj
theorem aX.setWitFuse (h:aX F w g a s) {i:Nat} (hi:i<4) (x:Int):aX F (w.setCell (g,9+i*6+3) x) g a {s with wit:=am s.wit i {s.wit i with f:=x}}:=by
 have hb:=h.blk.set_ (9+i*6+3) x;rw[wQ a s hi]at hb;have hr:=h.rowsG (ay g (9+i*6+3) w x);refine⟨hb,⟨hr.lt,hr.keys,hr.wkeys,hr.logs,hr.plain,hr.marks,hr.objs,hr.apart,λj hj=>?_,hr.cli⟩,h.hF,h.ho⟩;by_cases e:j=i;. subst e;simp only[am,if_true];exact hr.wit j hj
 . simp only[am,if_neg e];exact hr.wit j hj
theorem aX.setMarks (h:aX F w g a s) {b:Nat} (Kc:b<2) {A:Yy} {c:Nat} {l:List (Int×Y0)} (hc:aV F w 2 A l.length c (l.flatMap ep)):aX F (w.setCell (g,3+b*2+1) (A,l.length,c)) g {a with mA:=am a.mA b A,mc:=am a.mc b c} {s with marks:=am s.marks b l}:=by
 have hb:=h.blk.set_ (3+b*2+1) (A,l.length,c);rw[Ad a s Kc]at hb;have hm:=ay g (3+b*2+1) w (A,l.length,c);exact⟨hb,(h.rowsG hm).marksupd (hc.mod hm (λk hk e=>h.hF (e▸hk))),h.hF,h.ho⟩
theorem aX.setLogs (h:aX F w g a s) {b:Nat} (Kc:b<2) {A:Yy} {c:Nat} {es:List SA} {l:List aF} (hc:iT F w A c es l) (V:oD A):aX F (w.setCell (g,3+b*2) (A,es.length,c)) g {a with bA:=am a.bA b A,bc:=am a.bc b c,be:=am a.be b es} {s with logs:=am s.logs b l}:=by
 have hb:=h.blk.set_ (3+b*2) (A,es.length,c);rw[Ci a s Kc A c es l]at hb;have hm:=ay g (3+b*2) w (A,es.length,c);exact⟨hb,(h.rowsG hm).logsupd (hc.mod hm (λk hk e=>h.hF (e▸hk))) V,h.hF,h.ho⟩
theorem aX.setFirst (h:aX F w g a s) (x:Y0):aX F (w.setCell (g,8) x) g a {s with first:=x}:=by
 have hb:=h.blk.set_ 8 x;rw[Av a s]at hb;exact⟨hb,(h.rowsG (ay g 8 w x)).first _,h.hF,h.ho⟩
theorem aX.setDeeds (h:aX F w g a s) (x:Nat):aX F (w.setCell (g,58) x) g a {s with deeds:=x}:=by
 have hb:=h.blk.set_ 58 x;rw[Ar a s]at hb;exact⟨hb,(h.rowsG (ay g 58 w x)).deeds _,h.hF,h.ho⟩
theorem cT.mk' {a':WA} {s':ba} (h:aX F w g a s) (h1:aX (bZ F wl w1 a') w1 g a' s') (Li:w.heap.size<=wl.heap.size) (hm:aH (WM g a) w w1) (ho:∀k,a'.ob k->a.ob k\/w.heap.size<=k):cT F w g a s' w1:=by
 refine⟨⟨a',h1.mono (λk hk=>?_) (λk hk=>?_) (λhk=>?_) (λk hk hn=>?_),ho⟩,hm⟩;. rcases hk with hk|hk;(. exact .inl hk);. exact .inr ⟨by have:=hk.1;omega,hk.2⟩
 . rcases hk with hk|hk;(. have:=h.rows.lt k hk;have:=hm.size;omega);. exact hk.2.1
 . exact zbQ
 . rcases hn with hn|hn;(. rcases ho k hk with h'|h';(. exact h.rows.apart k h' hn);. have:=h.rows.lt k hn;omega);. exact hn.2.2 hk
theorem aX.far {p:Nat} (h:aX F w g a s) (hg:w.grownBy w' (some p)) (Mr:p≠g) (b:¬F p) (Mg:¬a.ob p):aX F w' g a s:=
 h.mod (M:=λk=>k=p) (aH.grown hg (λk e=>(Option.some.inj e).symm)) (λk e=>by subst e;exact⟨Mr,b,Mg⟩)
theorem bZ.not_mid {p:Nat} (h:∀k,F k->k<w.heap.size) (V:w.heap.size<=p) (Kz:p<wl.heap.size):¬bZ F wl w1 a p:=by
 rintro(hk|hk);. have:=h p hk;omega
 . have:=hk.1;omega
theorem aH.local_ {w'':World} {p:Nat} (h:aH M w w') (k:w'.grownBy w'' (some p)) (V:w.heap.size<=p):aH M w w'':=
 ⟨k.os.trans h.os,k.tape.trans h.tape,k.output.trans h.output,Nat.le_trans h.size k.size,λi hi hM=>(k.block i (Nat.lt_of_lt_of_le hi h.size) (λe=>by injection e with e;omega)).trans (h.block i hi hM)⟩
theorem aH.low {a:Nat->Prop} {w'':World} (h:aH M w w') (k:aH a w' w'') (hM:∀j,a j->M j\/w.heap.size<=j):aH M w w'':=
 ⟨k.os.trans h.os,k.tape.trans h.tape,k.output.trans h.output,Nat.le_trans h.size k.size,λi hi hn=>(k.block i (Nat.lt_of_lt_of_le hi h.size) (λh2=>by rcases hM i h2 with h3|h3;exact hn h3;omega)).trans (h.block i hi hn)⟩
theorem aX.wide {w7:World} (h:aX (bZ F wl w7 a) w g a s) (hs:w7.heap.size<=w.heap.size) (hg:g<wl.heap.size):aX (bZ F wl w a) w g a s:=by
 refine h.mono (λk hk=>?_) (λk hk=>?_) (λhk=>?_) (λk hk hn=>?_);. exact zdc
 . rcases hk with hk|hk;(. exact h.rows.lt k (.inl hk));. exact hk.2.1
 . rcases hk with hk|hk;(. exact h.hF (.inl hk));. have:=hk.1;omega
 . rcases hn with hn|hn;(. exact h.rows.apart k hk (.inl hn));. exact hn.2.2 hk
theorem aX.done {w7 w8 w9:World} {a':WA} {s':ba} {p:Nat} (h:aX F w g a s) (h8:aX (bZ F wl w7 a') w8 g a' s') (hm:aH (WM g a) w w8) (ho:∀k,a'.ob k->a.ob k\/w.heap.size<=k) (Mg:¬a'.ob p) (h9:w8.grownBy w9 (some p)) (V:w.heap.size<=p) (Kz:p<wl.heap.size) (hs:w7.heap.size<=w8.heap.size):cT F w g a s' w9:=by
 have c:¬bZ F wl w7 a' p:=bZ.not_mid (w:=w) h.rows.lt V Kz;have Mr:p≠g:=λe=>by have:=h.blk.lt;omega
 have b:=h8.far h9 Mr c Mg;have d:=h9.size;have Oa:=hm.local_ h9 V;refine cT.mk' (wl:=wl) h (b.mono (λk hk=>?_) (λk hk=>?_) (λhk=>?_) (λk hk hn=>?_)) om Oa ho;. exact zdc
 . rcases hk with hk|hk;(. have:=h.rows.lt k hk;have:=Oa.size;omega);. exact hk.2.1
 . exact zbQ
 . rcases hn with hn|hn;(. exact b.rows.apart k hk (.inl hn));. exact hn.2.2 hk
end
end
section
theorem pJ (A:Yy) (n c:Nat):(Value.slice A n c).ownBlock=(Value.slice A 0 0).ownBlock:=by cases A<;>rfl
section
variable{F:Nat→Prop} {w w2 w3 w9:World} {a:WA} {s s':ba} {g p:Nat}
theorem aX.setObjs (h:aX F w g a s) {A2:Yy} {c2 N:Nat} {mo:List (Y0)} (ho:w2.ownsRow 0 9 1 (A2,N,c2) N ((s.objs++mo).map aC)) (hN:N=(s.objs++mo).length) (hg:w.grownBy w2 (Value.ownBlock (a.oA,s.objs.length,a.oc))) (hat:FT w a.oA A2):aX F (w2.setCell (g,7) (A2,N,c2)) g {a with oA:=A2,oc:=c2} {s with objs:=s.objs++mo}/\aH (WM g a) w (w2.setCell (g,7) (A2,N,c2))/\(∀k,({a with oA:=A2,oc:=c2}:WA).ob k->a.ob k\/w.heap.size<=k):=by
 have m1:aH (λk=>a.ob k) w w2:=aH.grown hg (λk e=>by rw[pJ]at e;exact e);have m2:=ay g 7 w2 (A2,N,c2);have Lr:=h.blk.lt;have c:∀k,({a with oA:=A2,oc:=c2}:WA).ob k->a.ob k\/w.heap.size<=k:=λk hk=>hat k hk
 have hno:¬({a with oA:=A2,oc:=c2}:WA).ob g:=λhk=>by rcases c g hk with h1|h1;(. exact h.ho h1);. omega
 have Q:=(h.blk.mod m1 h.ho).set_ 7 (A2,N,c2)
 rw[hN,Cf a s A2 c2 (s.objs++mo)]at Q;rw[<-hN]at Q;have l:∀k,F k->¬a.ob k:=λk hk ho=>h.rows.apart k ho hk;have d:∀k,F k->¬k=g:=λk hk e=>h.hF (e▸hk);refine⟨⟨Q,?_,h.hF,hno⟩,(m1.mono (λk _ hk=>.inr hk)).trans (m2.mono (λk _ hk=>.inl hk)),c⟩;refine⟨λk hk=>?_,(h.rows.keys.mod m1 l).mod m2 d,(h.rows.wkeys.mod m1 l).mod m2 d,λb hb=>((h.rows.logs b hb).mod m1 l).mod m2 d,h.rows.plain,λb hb=>((h.rows.marks b hb).mod m1 l).mod m2 d,?_,λk hk=>?_,λi hi=>((h.rows.wit i hi).mod m1 l).mod m2 d,λi hi=>((h.rows.cli i hi).mod m1 l).mod m2 d⟩;. have h1:=h.rows.lt k hk;have h2:=m1.size;have h3:=m2.size;omega
 . subst hN;exact ownsRow_setCell_other ho (a:=⟨g,7,none⟩) (λe=>hno (by rw[pJ]at e;exact e)) _
 . rcases c k hk with h1|h1;(. exact h.rows.apart k h1);. intro hF;have:=h.rows.lt k hF;omega
theorem cT.fin (h:aX F w g a s) (hw:aH (WM g a) w w2) (V:w.heap.size<=p) (Kz:p<w2.heap.size) (hP:cT F w2 g a s' w3) (h9:w3.grownBy w9 (some p)):cT F w g a s' w9:=by
 obtain⟨⟨a',h3,ho⟩,hm⟩:=hP;have Lg:=h.oblt;have hsz:=hw.size;exact h.done h3 (hw.trans hm) (λk hk=>(ho k hk).imp id (λh=>Nat.le_trans hsz h)) (λhk=>by rcases ho p hk with h1|h1;(. have:=Lg p h1;omega);. omega) h9 V Kz (Dg _)
theorem cT.here (h:aX F w g a s) (h2:aX F w2 g a s') (hw:aH (WM g a) w w2):cT F w g a s' w2:=by
 refine⟨⟨a,h2.mono (λk hk=>.inl hk) (λk hk=>?_) (λhk=>?_) (λk hk hn=>?_),λk hk=>.inl hk⟩,hw⟩;. rcases hk with hk|hk;(. exact h2.rows.lt k hk);. exact hk.2.1
 . rcases hk with hk|hk;(. exact h2.hF hk);. have:=h.blk.lt;have:=hk.1;omega
 . rcases hn with hn|hn;(. exact h2.rows.apart k hk hn);. exact hn.2.2 hk
end
end
theorem gu.stm {b:Nat} {F:Nat->Prop} {W w:World} {e:SA} (h:gu b w e) (hB:W.heap.size<=b):ni (eo F W w) w e:=⟨aV.own h.who hB,aV.own h.seals hB⟩
theorem Iq {F:Nat->Prop} {W w1:World} {x:iC} {c:eU} {A S R:Yy} {b sc rc:Nat} {es:List SA} {e:Ending} (hc:j4 F W A b S sc es R rc c) (h:nT W x (jj A c.fs.length b c.f c.sz c.rt S es.length sc R c.rs.length rc) A c.fs.length b e w1):∃U c' E f t K n,e=.returned (.tuple #[.agg #[.slice U (fG x c).1.fs.length c',.int .i64 (fG x c).1.f,.int .i64 (fG x c).1.sz,(fG x c).1.rt,.slice E t.length f,.slice K (fG x c).1.rs.length n],.int .i64 (fG x c).2])/\j4 (eo F W w1) w1 U c' E f t K n (fG x c).1/\Gr W w1:=by
 cases x with|same Y=>(obtain⟨rfl,k⟩:=h;exact⟨A,b,S,sc,es,R,rc,rfl,(hc.mod (M:=λ_=>False) k.mod (λ_ _ h=>h)).mono (λ_=>.inl),k⟩)|fresh gs u=>(obtain⟨U,c',rfl,hf,⟨hn,z,a⟩,k⟩:=h;have hl:=hf.len;refine⟨U,c',none,0,[],none,0,?_,⟨?_,⟨aV.zero _ _ _,rfl,λe he=>by cases he⟩,aV.zero _ _ _⟩,k⟩;(. (show _=Ending.returned (.tuple #[.agg #[(U,gs.length,c'),_,_,_,_,_],_]));rw[hl];rfl);. (show aV _ _ _ _ gs.length _ (gs.flatMap ap));rw[hl];exact aV.fr hc.disk hf om a hn (z hc.disk.cap))|full gs u sz rt l rs=>(obtain⟨U,c',B',d',i,e',t,hm,rfl,hv,s,⟨⟨hn,z,a⟩,⟨hn2,I,Lv⟩,Nf,Mq,d⟩,k⟩:=h;have hl:=aO.len hv.disk;(have V:l.length=t.length:=by rw[<-hm,List.length_map]);rw[V]at hv hn2 I Lv;refine⟨U,c',B',d',t,i,e',?_,⟨?_,⟨aV.frn hv.steps.row om Lv hn2 I,hm.symm,λx hx=>(s x hx).stm (Dg _)⟩,aV.frn hv.refs om d Nf Mq⟩,k⟩;(. (show _=Ending.returned (.tuple #[.agg #[(U,gs.length,c'),_,_,_,_,_],_]));rw[hl,V];rfl);. (show aV _ _ _ _ gs.length _ (gs.flatMap ap));rw[hl];exact aV.fr hc.disk hv.disk om a hn (z hc.disk.cap))
theorem eo.newO' {F:Nat->Prop} {W w1:World} {a:WA} (ho:∀j,a.ob j->j<W.heap.size):∀k,eo F W w1 k->bZ F W w1 a k:=λk h=>eo.newO h (Dg _) (Dg _) ho
theorem CP (i:Nat) (keep:Int) (F:Nat->Prop) (g:Nat) (a:WA) (s:ba) (w:World) (hi:i<7) (h:aX F w g a s) (hz:px s) (hT:bK w):Calls Ao 50 #[(g,0),i,keep] w λe w'=>e=.returned (.agg (a8 (dh s i keep).2.1 (dh s i keep).2.2.1 (dh s i keep).2.2.2))/\cT F w g a (dh s i keep).1 w':=by
 obtain⟨J,H⟩:=zq (w.alloc (.cells (a8 0 0 []) 33));obtain⟨p,V⟩:=zq (w.heap.size);have Lp:ag J p 33 (a8 0 0 []):=ze3
 have g0:Gr w J:=zc5
 have Lr:=h.blk.lt;have Mr:p≠g:=om;have q:=h.rows.lt;have Lg:=h.oblt;have HA:=aa (h.gr g0);have Oj:=aa h;have La:=aa Lp;have Kg:=aa g0;have Kt:=aa V;have G:ab (p<J.heap.size):=aa Lp.lt;have Lz:=aa (hT.gr g0);obtain⟨Kb,hV⟩:=zq (dh s i keep);rw[<-hV];have Ko:ab (∀(w7 w8 w9:World) (a':WA) (s':ba) (r:Rp),aX (bZ F J w7 a') w8 g a' s'->aH (WM g a) w w8->(∀k,a'.ob k->a.ob k)->w8.grownBy w9 (some p)->w7.heap.size<=w8.heap.size->Kb=(s',r)->Ending.returned (.agg (a8 r.1 r.2.1 r.2.2))=Ending.returned (.agg (a8 Kb.2.1 Kb.2.2.1 Kb.2.2.2))/\cT F w g a Kb.1 w9):=aa (λw7 w8 w9 a' s' r h8 hm ho h9 hs hv=>by rw[hv];exact⟨rfl,h.done h8 hm (λk hk=>.inl (ho k hk)) (λh'=>by have:=Lg p (ho p h');omega) h9 om Lp.lt hs⟩);have Mm:ab (∀j,a.ob j->j<J.heap.size):=aa (λj hj=>by have:=Lg j hj;have:=g0.size;omega);clear Lr Mr q Lg;by_cases h3:i<3;. have hC:=HA.o.rows.cli i h3;have A:=hz.cli i h3;obtain⟨c0,c1,c2,c3,c4,c5⟩:=oO a s h3;have d:ab (∀W,Gr J W->Calls Ao 97 #[.agg (jj (a.cA i) (s.cli i).fs.length (a.cc i) (s.cli i).f (s.cli i).sz (s.cli i).rt (a.sA i) (a.se i).length (a.sc i) (a.rA i) (s.cli i).rs.length (a.rc i)),.agg (ek a.kA 3 a.kc a.vA 4 a.vc 2),keep] W (nT W (gm (s.cli i).fs (s.cli i).f keep aT 2) (jj (a.cA i) (s.cli i).fs.length (a.cc i) (s.cli i).f (s.cli i).sz (s.cli i).rt (a.sA i) (a.se i).length (a.sc i) (a.rA i) (s.cli i).rs.length (a.rc i)) (a.cA i) (s.cli i).fs.length (a.cc i))):=aa (λW k=>Cj (s.cli i).fs (s.cli i).f (s.cli i).sz (s.cli i).rt (a.cA i) (s.cli i).fs.length (a.cc i) (a.sA i) (a.se i).length (a.sc i) (a.rA i) (s.cli i).rs.length (a.rc i) keep a.kA 3 a.kc a.vA 4 a.vc 2 aT W (hC.disk.row.gr k) hC.disk.nil A.fs.1 A.fs.2 (HA.o.rows.keys.row.gr k) dc0 (λx hx=>by simp only[aT,List.mem_cons,List.not_mem_nil,or_false]at hx;rcases hx with rfl|rfl|rfl<;>(rw[br];decide)) (Lz.o.gr k));have Ml:ab (∀W,Gr J W->W.cell? (g,33+i*6)=(a.cA i,(s.cli i).fs.length,a.cc i)/\W.cell? (g,33+i*6+1)=some (.int .i64 (s.cli i).f)/\W.cell? (g,33+i*6+2)=some (.int .i64 (s.cli i).sz)/\W.cell? (g,33+i*6+3)=(s.cli i).rt/\W.cell? (g,33+i*6+4)=(a.sA i,(a.se i).length,a.sc i)/\W.cell? (g,33+i*6+5)=(a.rA i,(s.cli i).rs.length,a.rc i)/\W.cell? (g,0)=(a.kA,3,a.kc)/\W.cell? (g,1)=(a.vA,4,a.vc)/\W.cell? (g,2)=some (.int .i64 2)):=aa (λW k=>by have hb:=HA.o.blk.gr k;exact⟨(hb.cell _).trans c0,(hb.cell _).trans c1,(hb.cell _).trans c2,(hb.cell _).trans c3,(hb.cell _).trans c4,(hb.cell _).trans c5,hb.cell 0,hb.cell 1,hb.cell 2⟩);have B:ab (∀W j,Gr J W->W.frozen? ⟨g,j,none⟩=false):=aa (λW j k=>(HA.o.blk.gr k).frozen j);have Ki:(i:Int)<3:=om;have HV:ab (Kb=if(fG (gm (s.cli i).fs (s.cli i).f keep aT 2) (s.cli i)).2≠0 then({s with cli:=am s.cli i (fG (gm (s.cli i).fs (s.cli i).f keep aT 2) (s.cli i)).1},(fG (gm (s.cli i).fs (s.cli i).f keep aT 2) (s.cli i)).2,0,[])else({s with cli:=am s.cli i (fG (gm (s.cli i).fs (s.cli i).f keep aT 2) (s.cli i)).1,down:=am s.down i false},0,0,[])):=aa (by rw[hV];unfold dh;rw[if_pos h3]);have Kj:ab (∀W e w1,Gr J W->nT W (gm (s.cli i).fs (s.cli i).f keep aT 2) (jj (a.cA i) (s.cli i).fs.length (a.cc i) (s.cli i).f (s.cli i).sz (s.cli i).rt (a.sA i) (a.se i).length (a.sc i) (a.rA i) (s.cli i).rs.length (a.rc i)) (a.cA i) (s.cli i).fs.length (a.cc i) e w1->_):=aa (λW e w1 k h=>Iq ((hC.mod (M:=λ_=>False) k.mod (λ_ _ h=>h))) h);obtain⟨⟨X,Y⟩,hX⟩:=zq (fG (gm (s.cli i).fs (s.cli i).f keep aT 2) (s.cli i));rw[<-hX]at Kj;rw[<-hX]at HV;have H3:=aa h3;unfold jj ek at d;unfold jj at Kj;clear hV hC A c0 c1 c2 c3 c4 c5 hX h3 hz h hT;obtain⟨a0,a1,a2,a3,a4,a5,k0,k1,k2⟩:=Ml.o J (B4 _);unfold a8 at H;(go_enter Tryz.func50,Tryz.ntmps50);(go_upto_region 3 with fail);rw[<-H,<-V];clear H Lp g0 V;(have gd:Gr J J.drew:=(B4 J).drew);(go_cut [7]from 10 to 29 (λv wc=>v=.int .i64 Y/\ab (∃(w1:World) (a':WA),aX (bZ F J w1 a') wc g a' {s with cli:=am s.cli i X}/\aH (λk=>k=g) J wc/\(∀k,a'.ob k->a.ob k)/\w1.heap.size<=wc.heap.size)));(case first=>(go_region_law (first|(go_simp;go_at_call 97;(refine Bo (d.o _ gd) ?_);rintro e w1 hP;obtain⟨U,c',E,f,t,K,n,rfl,hc,k1⟩:=Kj.o _ _ _ gd hP;have I:Gr J w1:=gd.trans k1;obtain⟨b0,b1,b2,b3,b4,b5,_,_,_⟩:=Ml.o w1 I;have f0:=B.o w1 (33+i*6) I;have f1:=B.o w1 (33+i*6+1) I;have f2:=B.o w1 (33+i*6+2) I;have f3:=B.o w1 (33+i*6+3) I;have f4:=B.o w1 (33+i*6+4) I;have f5:=B.o w1 (33+i*6+5) I)));all_goals(go_wp2_with fail);(go_meet);refine⟨rfl,aa ⟨w1,{a with cA:=am a.cA i U,cc:=am a.cc i c',sA:=am a.sA i E,sc:=am a.sc i f,se:=am a.se i t,rA:=am a.rA i K,rc:=am a.rc i n},(HA.o.new (B4 J) I).setCli H3.o (hc.mono (eo.newO' Mm.o)),?_,λk hk=>hk,?_⟩⟩;(. exact zdF);. simp[World.setCell]);case rest=>obtain⟨rfl,HS⟩:=hcut;obtain⟨w1,a',h1,m1,b,Lq⟩:=HS.o;have Kq:=aa h1;have Lw:=aa m1;have Km:=aa b;have Me:=aa Lq;have u:ab (ag wc p 33 (a8 0 0 [])):=aa (La.o.mod m1 (λe=>by have:=Oj.o.blk.lt;have:=Kt.o;omega));clear HS h1 m1 b Lq a0 a1 a2 a3 a4 a5 k0 k1 k2 gd;by_cases he:Y=0;(case neg=>have O:ab (Kb=({s with cli:=am s.cli i X},Y,0,[])):=aa (by rw[HV.o,if_pos he]);exact zcy);subst he;have O:ab (Kb=({s with cli:=am s.cli i X,down:=am s.down i false},0,0,[])):=aa zgF;clear HV;have f0:=Kq.o.blk.frozen (51+i);(have c0:wc.cell? (g,51+i)=s.down i:=(Kq.o.blk.cell _).trans (kK _ _ (by have:=H3.o;omega)));have Mb:(i:Int)<7:=om;(go_upto_region 8 with fail);have P:=aa (Kq.o.setDown (i:=i) (by have:=H3.o;omega) false);exact zax
 . (obtain⟨j,hj⟩:∃j,i=j+3:=⟨i-3,om⟩;have S:j<4:=om;have m:=aa hj;have hC:=HA.o.rows.wit j S;have A:=hz.wit j S;obtain⟨c0,c1,c2,c3,c4,c5⟩:=pm a s S;have l:ab (∀W,Gr J W->Calls Ao 98 #[.agg (dj (j:Int) (aj (ar j)) (a.wA j) (s.wit j).fs.length (a.wc j) (s.wit j).f (s.wit j).sz (s.wit j).rt),keep] W λe w'=>∃U D,e=.returned (.tuple #[.agg (dj (j:Int) (aj (ar j)) U (s.wit j).fs.length D (cG (s.wit j).fs (s.wit j).f keep (s.wit j).sz (s.wit j).rt).2.1 (cG (s.wit j).fs (s.wit j).f keep (s.wit j).sz (s.wit j).rt).2.2.1 (cG (s.wit j).fs (s.wit j).f keep (s.wit j).sz (s.wit j).rt).2.2.2.1),.int .i64 (cG (s.wit j).fs (s.wit j).f keep (s.wit j).sz (s.wit j).rt).2.2.2.2])/\aO w' U (s.wit j).fs.length (cG (s.wit j).fs (s.wit j).f keep (s.wit j).sz (s.wit j).rt).1/\kQ W (a.wA j) (s.wit j).fs.length (a.wc j) U (s.wit j).fs.length D/\Gr W w'):=aa (λW k=>CE (s.wit j).fs (j:Int) (aj (ar j)) (a.wA j) (s.wit j).fs.length (a.wc j) (s.wit j).f (s.wit j).sz (s.wit j).rt keep W (by have:=A.fs.1;omega) (hC.row.gr k) hC.nil A.fs.2 (Lz.o.gr k));have Ml:ab (∀W,Gr J W->W.cell? ⟨g,9+j*6,none⟩=some (.int .i64 (j:Int))/\W.cell? ⟨g,9+j*6+1,none⟩=aj (ar j)/\W.cell? ⟨g,9+j*6+2,none⟩=some (.slice (a.wA j) (s.wit j).fs.length (a.wc j))/\W.cell? ⟨g,9+j*6+3,none⟩=some (.int .i64 (s.wit j).f)/\W.cell? ⟨g,9+j*6+4,none⟩=some (.int .i64 (s.wit j).sz)/\W.cell? ⟨g,9+j*6+5,none⟩=(s.wit j).rt):=aa (λW k=>by have hb:=HA.o.blk.gr k;exact⟨(hb.cell _).trans c0,(hb.cell _).trans c1,(hb.cell _).trans c2,(hb.cell _).trans c3,(hb.cell _).trans c4,(hb.cell _).trans c5⟩);have B:ab (∀W j,Gr J W->W.frozen? ⟨g,j,none⟩=false):=aa (λW j k=>(HA.o.blk.gr k).frozen j);have Ki:¬(i:Int)<3:=om;have o:IntKind.i64.wrap ((i:Int)-3)=(j:Int):=zd4);have Kk:(j:Int)<4:=om
   have HV:ab (Kb=if(cG (s.wit j).fs (s.wit j).f keep (s.wit j).sz (s.wit j).rt).2.2.2.2≠0 then({s with wit:=am s.wit j ⟨(cG (s.wit j).fs (s.wit j).f keep (s.wit j).sz (s.wit j).rt).1,(cG (s.wit j).fs (s.wit j).f keep (s.wit j).sz (s.wit j).rt).2.1,(cG (s.wit j).fs (s.wit j).f keep (s.wit j).sz (s.wit j).rt).2.2.1,(cG (s.wit j).fs (s.wit j).f keep (s.wit j).sz (s.wit j).rt).2.2.2.1⟩},(cG (s.wit j).fs (s.wit j).f keep (s.wit j).sz (s.wit j).rt).2.2.2.2,0,[])
    else({s with wit:=am s.wit j ⟨(cG (s.wit j).fs (s.wit j).f keep (s.wit j).sz (s.wit j).rt).1,(cG (s.wit j).fs (s.wit j).f keep (s.wit j).sz (s.wit j).rt).2.1,(cG (s.wit j).fs (s.wit j).f keep (s.wit j).sz (s.wit j).rt).2.2.1,(cG (s.wit j).fs (s.wit j).f keep (s.wit j).sz (s.wit j).rt).2.2.2.1⟩,down:=am s.down i false},0,0,[])):=aa (by
    rw[hV];unfold dh;rw[if_neg h3]
    have e:i-3=j:=om
    rw[e])
   (((((obtain⟨⟨xf,xu,xs,xr,Y⟩,hX⟩:=zq (cG (s.wit j).fs (s.wit j).f keep (s.wit j).sz (s.wit j).rt);rw[<-hX]at HV l;simp only at HV l;obtain⟨X,Kl⟩:∃X:lh,X=⟨xf,xu,xs,xr⟩:=⟨_,rfl⟩;rw[<-Kl]at HV;have Kj:ab (∀W U D w1,Gr J W->aO w1 U (s.wit j).fs.length xf->kQ W (a.wA j) (s.wit j).fs.length (a.wc j) U (s.wit j).fs.length D->Gr W w1->aV (eo F W w1) w1 3 U X.fs.length D (X.fs.flatMap ap)/\X.fs.length=(s.wit j).fs.length/\X.f=xu/\X.sz=xs/\X.rt=xr):=aa (λW U D w1 k hf hr k1=>by have hl:=hf.len;subst Kl;refine⟨?_,hl,rfl,rfl,rfl⟩;(show aV _ _ _ _ xf.length _ (xf.flatMap ap));rw[hl];exact aV.fr (hC.mod (M:=λ_=>False) k.mod (λ_ _ h=>h)) hf om hr.2.2 hr.1 (hr.2.1 hC.cap));have H4:=aa S;unfold dj at l;clear hV hC A c0 c1 c2 c3 c4 c5 hX Kl h3 hz h hT hj S;obtain⟨a0,a1,a2,a3,a4,a5⟩:=Ml.o J (B4 _);unfold a8 at H;have y:=aa hi;clear hi;go_enter Tryz.func50,Tryz.ntmps50);go_upto_region 4 with fail);rw[<-H,<-V];clear H Lp g0 V;have gd:Gr J J.drew:=(B4 J).drew);go_cut [7]from 30 to 47 (λv wc=>v=.int .i64 Y/\ab (∃(w1:World) (a':WA),aX (bZ F J w1 a') wc g a' {s with wit:=am s.wit j X}/\aH (λk=>k=g) J wc/\(∀k,a'.ob k->a.ob k)/\w1.heap.size<=wc.heap.size)));case first=>(go_region_law (first|(go_simp;go_at_call 98;(refine Bo (l.o _ gd) ?_);rintro e w1 ⟨U,c',rfl,Ld,Ly,k1⟩;have I:Gr J w1:=gd.trans k1;obtain⟨b0,b1,b2,b3,b4,b5⟩:=Ml.o w1 I;have f0:=B.o w1 (9+j*6) I;have f1:=B.o w1 (9+j*6+1) I;have f2:=B.o w1 (9+j*6+2) I;have f3:=B.o w1 (9+j*6+3) I;have f4:=B.o w1 (9+j*6+4) I;have f5:=B.o w1 (9+j*6+5) I)));all_goals(go_wp2_with fail);(go_meet);obtain⟨hc,e1,e2,e3,e4⟩:=Kj.o _ _ _ _ gd Ld Ly k1;(have h2:=(HA.o.new (B4 J) I).setWit H4.o (hc.mono (eo.newO' Mm.o)));rw[e1,e2,e3,e4]at h2;refine⟨rfl,aa ⟨w1,{a with wA:=am a.wA j U,wc:=am a.wc j c'},h2,?_,λk hk=>hk,?_⟩⟩;(. exact zdF);. simp[World.setCell]);case rest=>(((((obtain⟨rfl,HS⟩:=hcut;obtain⟨w1,a',h1,m1,b,Lq⟩:=HS.o;have Kq:=aa h1;have Lw:=aa m1;have Km:=aa b;have Me:=aa Lq;have u:ab (ag wc p 33 (a8 0 0 [])):=aa (La.o.mod m1 (λe=>by have:=Oj.o.blk.lt;have:=Kt.o;omega));clear HS h1 m1 b Lq a0 a1 a2 a3 a4 a5 gd;by_cases he:Y=0;case neg=>have O:ab (Kb=({s with wit:=am s.wit j X},Y,0,[])):=aa (by rw[HV.o,if_pos he]);exact zcy));subst he;have O:ab (Kb=({s with wit:=am s.wit j X,down:=am s.down i false},0,0,[])):=aa zgF;clear HV;have f0:=Kq.o.blk.frozen (51+i);have c0:wc.cell? (g,51+i)=s.down i:=(Kq.o.blk.cell _).trans (kK _ _ y.o));have Mb:(i:Int)<7:=by have:=y.o;omega);go_upto_region 8 with fail);have P:=aa (Kq.o.setDown (i:=i) y.o false);exact zax
theorem uP (i:Nat) (F:Nat->Prop) (g:Nat) (a:WA) (s:ba) (w:World) (hi:i<7) (h:aX F w g a s):Calls Ao 49 #[(g,0),i] w λe w'=>e=.returned (g,if i<3 then 33+i*6 else 9+(i-3)*6+2)/\Gr w w':=by
 by_cases h3:i<3;. rw[if_pos h3];have Ki:(i:Int)<3:=om;clear h3 h;(go_enter Tryz.func49,Tryz.ntmps49);exact zak
 . rw[if_neg h3];obtain⟨j,hj⟩:∃j,i=j+3:=⟨i-3,om⟩;have e1:i-3=j:=om;rw[e1];have Ki:¬(i:Int)<3:=om;(have o:IntKind.i64.wrap ((i:Int)-3)=(j:Int):=zd4);have Kk:(j:Int)<4:=om;clear h3 h hj e1 hi;(go_enter Tryz.func49,Tryz.ntmps49);exact zak
def gU (b:Bool) (x y:Value):Value:=if b then x else y
def ey (A:Yy) (c:Nat) (B:Yy) (d i j:Nat):Array Value:=#[
 .slice A 3 c,.slice B 4 d,.int .i64 2,.slice none 0 0,.slice none 0 0,.slice none 0 0,.slice none 0 0,.slice none 0 0,.string (bs []),gU (decide (0<i)) (.int .i64 ((0:Nat):Int)) i0,gU (decide (0<i)) (aj (ar 0)) s_,.slice none 0 0,gU (decide (0<i)) (.int .i64 (-1)) i0,.int .i64 0,gU (decide (0<i)) (aj []) s_,gU (decide (1<i)) (.int .i64 ((1:Nat):Int)) i0,gU (decide (1<i)) (aj (ar 1)) s_,.slice none 0 0,gU (decide (1<i)) (.int .i64 (-1)) i0,.int .i64 0,gU (decide (1<i)) (aj []) s_,gU (decide (2<i)) (.int .i64 ((2:Nat):Int)) i0,gU (decide (2<i)) (aj (ar 2)) s_,.slice none 0 0,gU (decide (2<i)) (.int .i64 (-1)) i0,.int .i64 0,gU (decide (2<i)) (aj []) s_,gU (decide (3<i)) (.int .i64 ((3:Nat):Int)) i0,gU (decide (3<i)) (aj (ar 3)) s_,.slice none 0 0,gU (decide (3<i)) (.int .i64 (-1)) i0,.int .i64 0,gU (decide (3<i)) (aj []) s_,.slice none 0 0,gU (decide (0<j)) (.int .i64 (-1)) i0,.int .i64 0,gU (decide (0<j)) (aj []) s_,.slice none 0 0,.slice none 0 0,.slice none 0 0,gU (decide (1<j)) (.int .i64 (-1)) i0,.int .i64 0,gU (decide (1<j)) (aj []) s_,.slice none 0 0,.slice none 0 0,.slice none 0 0,gU (decide (2<j)) (.int .i64 (-1)) i0,.int .i64 0,gU (decide (2<j)) (aj []) s_,.slice none 0 0,.slice none 0 0,.bool false,.bool false,.bool false,.bool false,.bool false,.bool false,.bool false,.int .i64 0]
theorem Ff (A:Yy) (c:Nat) (B:Yy) (d:Nat) {k:Nat} (hk:k<4):((((((ey A c B d k 0).setIfInBounds (9+k*6) k).setIfInBounds (9+k*6+1) (aj (ar k))).setIfInBounds (9+k*6+2) n_).setIfInBounds (9+k*6+3) (.int .i64 (-1))).setIfInBounds (9+k*6+4) i0).setIfInBounds (9+k*6+5) (aj [])=ey A c B d (k+1) 0:=by
 obtain rfl|rfl|rfl|rfl:k=0\/k=1\/k=2\/k=3:=om;all_goals kernel_rfl
theorem Ee (A:Yy) (c:Nat) (B:Yy) (d:Nat) {k:Nat} (hk:k<3):((((((ey A c B d 4 k).setIfInBounds (33+k*6) n_).setIfInBounds (33+k*6+1) (.int .i64 (-1))).setIfInBounds (33+k*6+2) i0).setIfInBounds (33+k*6+3) (aj [])).setIfInBounds (33+k*6+4) n_).setIfInBounds (33+k*6+5) n_=ey A c B d 4 (k+1):=by
 obtain rfl|rfl|rfl:k=0\/k=1\/k=2:=om;all_goals kernel_rfl
theorem DK (A:Yy) (c:Nat) (B:Yy) (d:Nat) {k:Nat} (hk:k<4):(ey A c B d k 0)[9+k*6]?=some (.int .i64 0)/\(ey A c B d k 0)[9+k*6+1]?=some (.string (bs []))/\(ey A c B d k 0)[9+k*6+2]?=some (.slice none 0 0)/\(ey A c B d k 0)[9+k*6+3]?=some (.int .i64 0)/\(ey A c B d k 0)[9+k*6+4]?=some (.int .i64 0)/\(ey A c B d k 0)[9+k*6+5]?=some (.string (bs [])):=by
 obtain rfl|rfl|rfl|rfl:k=0\/k=1\/k=2\/k=3:=om;all_goals exact⟨by kernel_rfl,by kernel_rfl,by kernel_rfl,by kernel_rfl,by kernel_rfl,by kernel_rfl⟩
theorem Dm (A:Yy) (c:Nat) (B:Yy) (d:Nat) {k:Nat} (hk:k<3):(ey A c B d 4 k)[33+k*6]?=some (.slice none 0 0)/\(ey A c B d 4 k)[33+k*6+1]?=some (.int .i64 0)/\(ey A c B d 4 k)[33+k*6+2]?=some (.int .i64 0)/\(ey A c B d 4 k)[33+k*6+3]?=some (.string (bs []))/\(ey A c B d 4 k)[33+k*6+4]?=some (.slice none 0 0)/\(ey A c B d 4 k)[33+k*6+5]?=some (.slice none 0 0):=by
 obtain rfl|rfl|rfl:k=0\/k=1\/k=2:=om;all_goals exact⟨by kernel_rfl,by kernel_rfl,by kernel_rfl,by kernel_rfl,by kernel_rfl,by kernel_rfl⟩
def H6 (A:Yy) (c:Nat) (B:Yy) (d:Nat):WA:=⟨A,c,B,d,λ_=>none,λ_=>0,λ_=>[],λ_=>none,λ_=>0,none,0,λ_=>none,λ_=>0,λ_=>none,λ_=>0,λ_=>none,λ_=>0,λ_=>[],λ_=>none,λ_=>0⟩
theorem EQ (A:Yy) (c:Nat) (B:Yy) (d:Nat):ey A c B d 4 3=dE (H6 A c B d) dU:=by kernel_rfl
theorem Dh (A:Yy) (c:Nat) (B:Yy) (d:Nat):ey A c B d 0 0=#[.slice A 3 c,.slice B 4 d,.int .i64 2,.slice none 0 0,.slice none 0 0,.slice none 0 0,.slice none 0 0,.slice none 0 0,.string (bs []),.int .i64 0,.string (bs []),.slice none 0 0,.int .i64 0,.int .i64 0,.string (bs []),.int .i64 0,.string (bs []),.slice none 0 0,.int .i64 0,.int .i64 0,.string (bs []),.int .i64 0,.string (bs []),.slice none 0 0,.int .i64 0,.int .i64 0,.string (bs []),.int .i64 0,.string (bs []),.slice none 0 0,.int .i64 0,.int .i64 0,.string (bs []),.slice none 0 0,.int .i64 0,.int .i64 0,.string (bs []),.slice none 0 0,.slice none 0 0,.slice none 0 0,.int .i64 0,.int .i64 0,.string (bs []),.slice none 0 0,.slice none 0 0,.slice none 0 0,.int .i64 0,.int .i64 0,.string (bs []),.slice none 0 0,.slice none 0 0,.bool false,.bool false,.bool false,.bool false,.bool false,.bool false,.bool false,.int .i64 0]:=by kernel_rfl
theorem Jz {w W:World} {g c d:Nat} {A B:Yy} (hb:ag W g 90 (ey A c B d 4 3)) (hk:W.ownsRow w.heap.size 9 1 (.slice A 3 c) 3 (aT.map aC)) (hv:W.ownsRow w.heap.size 9 1 (.slice B 4 d) 4 (eQ.map aC)) (hA:∀k,(Value.slice A 3 c).ownBlock=some k->k<g) (hB:∀k,(Value.slice B 4 d).ownBlock=some k->k<g):aX (λk=>w.heap.size<=k/\k<g) W g (H6 A c B d) dU:=by
 have Lr:=hb.lt;rw[EQ]at hb;have rowk:∀{n m:Nat} {Ke:Yy} {vs:List Value},W.ownsRow w.heap.size 9 1 (Ke,n,m) n vs->(∀k,(Value.slice Ke n m).ownBlock=some k->k<g)->aV (λk=>w.heap.size<=k/\k<g) W 1 Ke n m vs:=λh hlt=>⟨ak.own h,λ_ b off e=>⟨(h.lt b zfq).1,hlt b zfq⟩,kq h,jI h⟩;have a:iT (λk=>w.heap.size<=k/\k<g) W none 0 [] ([]:List aF):=⟨aV.zero _ _ 5,rfl,λe he=>(by cases he)⟩;refine⟨hb,⟨λk hk=>om,rowk hk hA,rowk hv hB,λb _=>a,λb _ ad e=>(by cases e),λb _=>aV.zero _ _ 2,World.ownsRow_nil _ _ _ _,λk hk=>(by cases hk),λi _=>aV.zero _ _ 3,λi _=>⟨aV.zero _ _ 3,a,aV.zero _ _ 2⟩⟩,λh=>om,λh=>(by cases h)⟩
theorem Ej (w:World) (hT:bK w):Calls Ao 31 #[] w λe w'=>∃g a,e=.returned (.pointer (some ⟨g,0,none⟩))/\aX (λk=>w.heap.size<=k/\k<g) w' g a dU/\w.heap.size<=g/\(∀k,¬a.ob k)/\Gr w w':=by
 have HK:=aa (DF w hT);have HT:=aa hT;go_enter Tryz.func31,Tryz.ntmps31
 go_upto_region 2 with(first|(go_at_call 20;(with_reducible refine Bo HK.o ?_);rintro e w1 ⟨A,c,B,d,rfl,⟨hk,hv⟩,I⟩))
 obtain⟨wb,Kn⟩:=zq (w1.alloc (.cells #[.slice A 3 c,.slice B 4 d,.int .i64 2,.slice none 0 0,.slice none 0 0,.slice none 0 0,.slice none 0 0,.slice none 0 0,.string (bs []),.int .i64 0,.string (bs []),.slice none 0 0,.int .i64 0,.int .i64 0,.string (bs []),.int .i64 0,.string (bs []),.slice none 0 0,.int .i64 0,.int .i64 0,.string (bs []),.int .i64 0,.string (bs []),.slice none 0 0,.int .i64 0,.int .i64 0,.string (bs []),.int .i64 0,.string (bs []),.slice none 0 0,.int .i64 0,.int .i64 0,.string (bs []),.slice none 0 0,.int .i64 0,.int .i64 0,.string (bs []),.slice none 0 0,.slice none 0 0,.slice none 0 0,.int .i64 0,.int .i64 0,.string (bs []),.slice none 0 0,.slice none 0 0,.slice none 0 0,.int .i64 0,.int .i64 0,.string (bs []),.slice none 0 0,.slice none 0 0,.bool false,.bool false,.bool false,.bool false,.bool false,.bool false,.bool false,.int .i64 0] 90));obtain⟨g,hg⟩:=zq (w1.heap.size);have HB:ab (ag wb g 90 (ey A c B d 0 0)):=aa (by rw[Dh,Kn,hg];exact ag.new _ _ _);have HG:ab (Gr w1 wb):=aa (by rw[Kn];exact(B4 w1).alloc _);have Ku:ab (w1.heap.size=g):=aa hg.symm;have s:=aa I;have Kd:=aa hk;have Kq:=aa hv;obtain⟨bk,ok,i,Mz⟩:=(ak.own hv).at_ dc0
 have Pa:ab (∀W k,Gr w1 W->k<4->W.cell? ⟨bk,ok+k,none⟩=some (.string (bs (aj (ar k))))):=aa (λW k kg hk=>by have h1:=Mz k (.string (bs (aj (ar k)))) (by obtain rfl|rfl|rfl|rfl:k=0\/k=1\/k=2\/k=3:=om;all_goals rfl);exact(kg.below.cell (p:=⟨bk,ok+k,none⟩) (World.block_lt_of_cell? w1 _ h1)).trans h1);have Q:=aa i;rw[<-Kn,<-hg];clear Kn hg I hk hv Mz i;go_wp2_with fail
 go_loopg [7,2] 4 (λfuel iv _ wr=>∃(k:Nat),iv=.int .i64 (k:Int)/\ab (4<=k+fuel)/\ab (k<=4)/\ab (ag wr g 90 (ey A c B d k 0))/\ab (Gr w1 wr))
 case atStart=>exact⟨0,rfl,aa om,aa om,HB,HG⟩
 case round=>obtain⟨k,rfl,Lm,Me,u,b⟩:=hrel;by_cases hlt:k<4;(. have Ki:(k:Int)<4:=om;have Il:=aa hlt;have f:ab (∀W,Gr w1 W->Calls Ao 55 #[.int .i64 (k:Int),.string (bs (aj (ar k)))] W λe w'=>e=.returned (.tuple #[.agg #[.int .i64 (k:Int),.string (bs (aj (ar k))),.slice none 0 0,.int .i64 (-1),.int .i64 0,.string (bs (aj []))],.int .i64 0])/\Gr W w'):=aa (λW kg=>by have h:=Bf (k:Int) (aj (ar k)) W (HT.o.gr (s.o.trans kg));unfold pG at h;rw[if_pos om]at h;exact h);have ky:=Pa.o wr k b.o hlt;have b1:wr.cell? ⟨g,1,none⟩=some (.slice B 4 d):=u.o.cell 1;rw[Q.o]at b1;have HF:ab (∀W,Gr wr W->(W.cell? ⟨g,9+k*6,none⟩=some (.int .i64 0)/\W.cell? ⟨g,9+k*6+1,none⟩=some (.string (bs []))/\W.cell? ⟨g,9+k*6+2,none⟩=some (.slice none 0 0)/\W.cell? ⟨g,9+k*6+3,none⟩=some (.int .i64 0)/\W.cell? ⟨g,9+k*6+4,none⟩=some (.int .i64 0)/\W.cell? ⟨g,9+k*6+5,none⟩=some (.string (bs [])))/\(W.frozen? ⟨g,9+k*6,none⟩=false/\W.frozen? ⟨g,9+k*6+1,none⟩=false/\W.frozen? ⟨g,9+k*6+2,none⟩=false/\W.frozen? ⟨g,9+k*6+3,none⟩=false/\W.frozen? ⟨g,9+k*6+4,none⟩=false/\W.frozen? ⟨g,9+k*6+5,none⟩=false)):=aa (λW kg=>by have hb:=u.o.gr kg;obtain⟨e0,e1,e2,e3,e4,e5⟩:=DK A c B d Il.o;exact⟨⟨(hb.cell _).trans e0,(hb.cell _).trans e1,(hb.cell _).trans e2,(hb.cell _).trans e3,(hb.cell _).trans e4,(hb.cell _).trans e5⟩,hb.frozen _,hb.frozen _,hb.frozen _,hb.frozen _,hb.frozen _,hb.frozen _⟩);(have gd:Gr wr wr.drew:=(B4 wr).drew);clear hlt;(go_upto_region 5 with fail);(go_region_law (first|(go_simp;go_at_call 55;(refine Bo (f.o _ (b.o.trans gd)) ?_);rintro e w6 ⟨rfl,Ln⟩;have g6:Gr wr w6:=gd.trans Ln;obtain⟨⟨n0,n1,n2,n3,n4,n5⟩,f0,f1,f2,f3,f4,f5⟩:=HF.o w6 g6)));all_goals(have hb:=((((((u.o.gr g6).set_ (9+k*6) (.int .i64 (k:Int))).set_ (9+k*6+1) (.string (bs (aj (ar k))))).set_ (9+k*6+2) (.slice none 0 0)).set_ (9+k*6+3) (.int .i64 (-1))).set_ (9+k*6+4) (.int .i64 0)).set_ (9+k*6+5) (.string (bs (aj []))));rw[Ff A c B d Il.o]at hb;(have z:w1.heap.size<=g:=by have:=Ku.o;omega);have Kh:=aa hb;have v:=aa ((((((((b.o.trans g6).setCell (p:=⟨g,9+k*6,none⟩) z (.int .i64 (k:Int))).setCell (p:=⟨g,9+k*6+1,none⟩) z (.string (bs (aj (ar k))))).setCell (p:=⟨g,9+k*6+2,none⟩) z (.slice none 0 0)).setCell (p:=⟨g,9+k*6+3,none⟩) z (.int .i64 (-1))).setCell (p:=⟨g,9+k*6+4,none⟩) z (.int .i64 0)).setCell (p:=⟨g,9+k*6+5,none⟩) z (.string (bs (aj [])))));clear b1 ky gd hb z f0 f1 f2 f3 f4 f5 n0 n1 n2 n3 n4 n5;exact za9);. (obtain rfl:k=4:=by have:=Me.o;omega);obtain⟨w5,rfl⟩:=zq (wr);clear hlt Pa;(go_wp2_with fail);(go_loopg [29,3] 3 (λfuel iv _ wr=>∃(k:Nat),iv=.int .i64 (k:Int)/\ab (3<=k+fuel)/\ab (k<=3)/\ab (ag wr g 90 (ey A c B d 4 k))/\ab (Gr w1 wr)));(case atStart=>exact⟨0,rfl,aa om,aa om,u,b⟩);case round=>obtain⟨k,rfl,Lm,Oa,u,b⟩:=hrel;by_cases hlt:k<3;(. have Ki:(k:Int)<3:=om;have Il:=aa hlt;have f:ab (∀W,Gr w1 W->Calls Ao 56 #[] W λe w'=>e=.returned (.agg #[.slice none 0 0,.int .i64 (-1),.int .i64 0,.string (bs (aj [])),.slice none 0 0,.slice none 0 0])/\Gr W w'):=aa (λW kg=>BS W (HT.o.gr (s.o.trans kg)));have HF:ab (∀W,Gr wr W->(W.cell? ⟨g,33+k*6,none⟩=some (.slice none 0 0)/\W.cell? ⟨g,33+k*6+1,none⟩=some (.int .i64 0)/\W.cell? ⟨g,33+k*6+2,none⟩=some (.int .i64 0)/\W.cell? ⟨g,33+k*6+3,none⟩=some (.string (bs []))/\W.cell? ⟨g,33+k*6+4,none⟩=some (.slice none 0 0)/\W.cell? ⟨g,33+k*6+5,none⟩=some (.slice none 0 0))/\(W.frozen? ⟨g,33+k*6,none⟩=false/\W.frozen? ⟨g,33+k*6+1,none⟩=false/\W.frozen? ⟨g,33+k*6+2,none⟩=false/\W.frozen? ⟨g,33+k*6+3,none⟩=false/\W.frozen? ⟨g,33+k*6+4,none⟩=false/\W.frozen? ⟨g,33+k*6+5,none⟩=false)):=aa (λW kg=>by have hb:=u.o.gr kg;obtain⟨e0,e1,e2,e3,e4,e5⟩:=Dm A c B d Il.o;exact⟨⟨(hb.cell _).trans e0,(hb.cell _).trans e1,(hb.cell _).trans e2,(hb.cell _).trans e3,(hb.cell _).trans e4,(hb.cell _).trans e5⟩,hb.frozen _,hb.frozen _,hb.frozen _,hb.frozen _,hb.frozen _,hb.frozen _⟩);(have gd:Gr wr wr.drew:=(B4 wr).drew);clear hlt;(go_upto_region 10 with fail);(go_region_law (first|(go_simp;go_at_call 56;(refine Bo (f.o _ (b.o.trans gd)) ?_);rintro e w6 ⟨rfl,Ln⟩;have g6:Gr wr w6:=gd.trans Ln;obtain⟨⟨n0,n1,n2,n3,n4,n5⟩,f0,f1,f2,f3,f4,f5⟩:=HF.o w6 g6)));all_goals(have hb:=((((((u.o.gr g6).set_ (33+k*6) (.slice none 0 0)).set_ (33+k*6+1) (.int .i64 (-1))).set_ (33+k*6+2) (.int .i64 0)).set_ (33+k*6+3) (.string (bs (aj [])))).set_ (33+k*6+4) (.slice none 0 0)).set_ (33+k*6+5) (.slice none 0 0));rw[Ee A c B d Il.o]at hb;(have z:w1.heap.size<=g:=by have:=Ku.o;omega);have Kh:=aa hb;have v:=aa ((((((((b.o.trans g6).setCell (p:=⟨g,33+k*6,none⟩) z (.slice none 0 0)).setCell (p:=⟨g,33+k*6+1,none⟩) z (.int .i64 (-1))).setCell (p:=⟨g,33+k*6+2,none⟩) z (.int .i64 0)).setCell (p:=⟨g,33+k*6+3,none⟩) z (.string (bs (aj [])))).setCell (p:=⟨g,33+k*6+4,none⟩) z (.slice none 0 0)).setCell (p:=⟨g,33+k*6+5,none⟩) z (.slice none 0 0)));clear gd hb z f0 f1 f2 f3 f4 f5 n0 n1 n2 n3 n4 n5;exact za9);. (obtain rfl:k=3:=by have:=Oa.o;omega);obtain⟨w7,rfl⟩:=zq (wr);clear hlt;(go_wp2_with fail);go_ret;have hk:=av Kd.o b.o;have hv:=av Kq.o b.o;have hs:=s.o.size;have hg:=Ku.o;exact⟨g,H6 A c B d,rfl,Jz u.o hk hv (λk e=>by have:=(Kd.o.lt k e).2;omega) (λk e=>by have:=(Kq.o.lt k e).2;omega),om,λk h=>(by cases h),s.o.trans b.o⟩
theorem EU (b:Nat) (F:Nat->Prop) (g:Nat) (a:WA) (s:ba) (w:World) (hb:b<2) (h:aX F w g a s) (hz:px s):Calls Ao 26 #[(g,0),b] w λe w'=>∃(U:Yy) (c':Nat) (t:List SA),e=.returned (U,t.length,c')/\t.map (·.s)=s.logs b∧w'.ownsRow w.heap.size 73 5 (U,t.length,c') t.length (t.flatMap bO)/\(∀e∈t,gu w.heap.size w' e)/\Gr w w':=by
 have hl:=h.rows.logs b hb;have Lq:=hz.logs b hb;have hd:=hz.deeds;have V:=hl.len;have HO:ab (∀W,Gr w W->Calls Ao 54 #[(a.bA b,(a.be b).length,a.bc b)] W λe w'=>∃U c' t,e=.returned (.slice U (a.be b).length c')/\FG (a.be b) t/\w'.ownsRow W.heap.size 73 5 (.slice U (a.be b).length c') (a.be b).length (t.flatMap bO)/\(∀e∈t,gu W.heap.size w' e)/\Gr W w'):=aa (λW k=>xC (a.be b) (a.bA b) (a.bc b) W (hl.sts.gr k) (by rw[V];have:=Lq.1;omega) (λe he=>(Lq.2 e.s (by rw[hl.eq];exact List.mem_map_of_mem he)).up dc0));have HE:=aa hl.eq;have c0:w.cell? (g,3+b*2)=(a.bA b,(a.be b).length,a.bc b):=(h.blk.cell _).trans (jO a s hb).1
 have hi:(b:Int)<2:=om;clear hl Lq hd V h hz;go_enter Tryz.func26,Tryz.ntmps26
 go_wp2_with(first|(go_at_call 54;(refine Bo (HO.o _ (B4 _)) ?_);rintro e w1 ⟨U,c',t,rfl,hs,hr,ho,k⟩))
 go_ret;have hn:t.length=(a.be b).length:=by have:=congrArg List.length hs;simpa using this
 refine⟨U,c',t,by rw[hn];rfl,?_,by rw[hn];exact hr,ho,k⟩;rw[HE.o];exact hs
end Go.Proofs.YtdpombnelangjaaGreatDoor
