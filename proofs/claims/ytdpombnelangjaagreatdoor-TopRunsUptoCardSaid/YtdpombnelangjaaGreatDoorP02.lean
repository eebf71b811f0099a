/- Lemmas for TopRuns; each states its conditions. -/
import Derived.Test.YtdpombnelangjaaGreatDoorP01
import Derived.ProofKit
import Derived.OpenShut
import Derived.ChangeOld
import Derived.Carry
namespace Go.Proofs.YtdpombnelangjaaGreatDoor
open Go.RowKit
set_option maxRecDepth 100000
set_option maxHeartbeats 64000000
open Go.Proofs.Tryz renaming prog → Ao
open Calls renaming mono → Bo
open Gr renaming refl → B4
open Nat renaming le_refl → Dg
section
open Go.RowKit Go.ChangeShapes Go.WideShapes
structure jP (w:World) (t:TypeId) (k:Nat) {α:Type} (R:List Value->α->Prop) (sz:α->Nat):Prop where
 cells:Ao.cellsOf t=k
 open_:∀{H:Type} (enc:TypeId×Value->H) (fuel:Nat) (cs:List Value) (x:DataW H×List MemPlace),
  DataW.trod enc Ao w 0 (λ_=>true) true fuel t cs=some x->cs.length=k/\∃a,R cs a/\sz a<=Rows.uptoBulk x.1
def JA (cs:List Value) (n:Int):Prop:=cs=[.int .i64 n]/\-9223372036854775808<=n/\n<=9223372036854775807
def ID (cs:List Value) (l:Y0):Prop:=cs=[.string (bs l)]
def FE (cs:List Value) (b:Bool):Prop:=cs=[.bool b]
theorem lS {t:TypeId} (ht:Ao.underlying t=some (.int .i64)) (hc:Ao.cellsOf t=1) (w:World):jP w t 1 JA (λ_=>1):=
 ⟨hc,λenc fuel cs x h=>by
  obtain⟨n,rfl,rfl,hw⟩:=DataW.trod_int ht h
  exact⟨rfl,n,⟨rfl,by simpa[Lit.wf,IntKind.min,IntKind.max,IntKind.signed,IntKind.bits]using hw⟩,by simp[Rows.uptoBulk]⟩⟩
theorem qd {t:TypeId} (ht:Ao.underlying t=some .string) (hc:Ao.cellsOf t=1) (w:World):jP w t 1 ID (λl=>l.length+1):=
 ⟨hc,λenc fuel cs x h=>by
  obtain⟨s,rfl,rfl,_⟩:=DataW.trod_string ht h
  obtain⟨l,rfl⟩:=BF s
  exact⟨rfl,l,rfl,by simp[Rows.uptoBulk,jM]⟩⟩
theorem BW {t:TypeId} (ht:Ao.underlying t=some .bool) (hc:Ao.cellsOf t=1) (w:World):jP w t 1 FE (λ_=>1):=
 ⟨hc,λenc fuel cs x h=>by
  obtain⟨b,rfl,rfl⟩:=DataW.trod_bool ht h
  exact⟨rfl,b,rfl,by simp[Rows.uptoBulk]⟩⟩
theorem jP.map {w:World} {t:TypeId} {k:Nat} {α β:Type} {R:List Value->α->Prop} {sz:α->Nat} (h:jP w t k R sz) {K:List Value->β->Prop} {c:β->Nat} (f:α->β) (hR:∀cs a,R cs a->K cs (f a)) (hs:∀a,c (f a)<=sz a):jP w t k K c:=
 ⟨h.cells,λenc fuel cs x hx=>by
  obtain⟨hl,a,ha,hb⟩:=h.open_ enc fuel cs x hx
  exact⟨hl,f a,hR _ _ ha,Nat.le_trans (hs a) hb⟩⟩
structure sN (w:World) (fl:List Field) (off k:Nat) {β:Type} (R:List Value->β->Prop) (sz:β->Nat):Prop where
 open_:∀{H:Type} (enc:TypeId×Value->H) (n:Nat) (cs:List Value) (ys:List (DataW H×List MemPlace)),ys.length=fl.length→
  (∀(i:Nat) (f:Field),fl[i]?=some f->DataW.trod enc Ao w 0 (λ_=>true) true n f.type ((cs.drop f.offset).take (Ao.cellsOf f.type))=ys[i]?)→
  cs.length=off+k->∃b,R (cs.drop off) b/\sz b<=Rows.uptoBulkAll (ys.map (·.1))
def H9 (cs:List Value) (_:Unit):Prop:=cs=[]
def Jh {α β:Type} (k:Nat) (R:List Value->α->Prop) (R':List Value->β->Prop) (cs:List Value) (a:α×β):Prop:=∃c1 c2,cs=c1++c2/\c1.length=k/\R c1 a.1/\R' c2 a.2
theorem BJ (w:World) (off:Nat):sN w [] off 0 H9 (λ_=>0):=
 ⟨λenc n cs ys _ _ hl=>⟨(),List.drop_eq_nil_of_le om,by simp⟩⟩
theorem gp {w:World} {f:Field} {fl:List Field} {off k m:Nat} {α β:Type} {R:List Value->α->Prop} {sz:α->Nat} {K:List Value->β->Prop} {c:β->Nat}
 (hf:f.offset=off) (h:jP w f.type k R sz) (h':sN w fl (off+k) m K c):sN w (f::fl) off (k+m) (Jh k R K) (λa=>sz a.1+c a.2):=
 ⟨λenc n cs ys hy hat hl=>by
  cases ys with
  |nil=>simp at hy
  |cons y ys=>
   have h0:=hat 0 f rfl
   rw[hf,h.cells]at h0
   obtain⟨hk,a,ha,hb⟩:=h.open_ enc n _ y h0
   obtain⟨b,Ka,Kc⟩:=h'.open_ enc n cs ys (by simpa using hy) (λi g hg=>hat (i+1) g (by simpa using hg)) om
   refine⟨(a,b),⟨(cs.drop off).take k,cs.drop (off+k),?_,hk,ha,Ka⟩,?_⟩
   . rw[<-List.drop_drop];exact(List.take_append_drop k _).symm
   . simp only[List.map_cons,Rows.uptoBulkAll];omega⟩
theorem xR {w:World} {t:TypeId} {fs:Array Field} {k:Nat} {β:Type} {R:List Value->β->Prop} {sz:β->Nat} (ht:Ao.underlying t=some (.struct fs)) (hc:Ao.cellsOf t=k) (h:sN w fs.toList 0 k R sz):jP w t k R (λb=>sz b+1):=
 ⟨hc,λenc fuel cs x hx=>by
  obtain⟨xs,n,_,rfl,hl,Kk,hf⟩:=DataW.trod_struct ht hx
  obtain⟨b,hb,hs⟩:=h.open_ enc n cs xs (by simpa using Kk) (λi f hi=>hf i f zfh) (by rw[hl,hc];omega)
  exact⟨hl.trans hc,b,by simpa using hb,by simp only[Rows.uptoBulk];omega⟩⟩
def sE {α:Type} (w:World) (k:Nat) (R:List Value->α->Prop) (cs:List Value) (xs:List α):Prop:=
 ∃A c,cs=[.slice A xs.length c]/\xs.length<=c/\(c<=maxLen/\(A=none->c=0))/\(0<xs.length->∃b off,A=some ⟨b,off,none⟩/\∀i (h:i<xs.length),∃ci,R ci xs[i]/\ci.length=k/\∀j v,ci[j]?=some v->w.cell? ⟨b,off+i*k+j,none⟩=some v)
def qT {α:Type} (sz:α->Nat):List α->Nat
 |[]=>0
 |x::r=>sz x+qT sz r
theorem tz {α:Type} (p:Nat->α->Prop):∀n,(∀i,i<n->∃a,p i a)->∃xs:List α,xs.length=n/\∀i (h:i<xs.length),p i xs[i]
 |0,_=>⟨[],rfl,λi h=>absurd h (by simp)⟩
 |n+1,h=>by
  obtain⟨xs,hl,hx⟩:=tz p n (λi hi=>h i om)
  obtain⟨a,ha⟩:=h n om
  refine⟨xs++[a],by simp[hl],λi hi=>?_⟩
  by_cases e:i<xs.length
  . rw[List.getElem_append_left e];exact hx i e
  . have:i=n:=by simp at hi;omega
    subst this
    rw[List.getElem_append_right om]
    simpa[hl]using ha
theorem C6 {H α:Type} (sz:α->Nat):∀(xs:List α) (ds:List (DataW H)),xs.length=ds.length->(∀i (h:i<xs.length) (h':i<ds.length),sz xs[i]<=Rows.uptoBulk ds[i])->qT sz xs<=Rows.uptoBulkAll ds
 |[],[],_,_=>by simp[qT]
 |x::xs,d::ds,hl,h=>by
  have h0:=h 0 (by simp) (by simp)
  have:=C6 sz xs ds zgn (λi hi hi'=>h (i+1) zc4 zc4)
  simp only[qT,Rows.uptoBulkAll]
  simp at h0
  omega
 |[],_::_,hl,_=>by simp at hl
 |_::_,[],hl,_=>by simp at hl
theorem BC (a:Addr) (i j:Nat):(a.add i).add j=a.add (i+j):=by
 unfold Addr.add;by_cases hi:i=0<;>by_cases hj:j=0<;>simp[hi,hj,Nat.add_assoc]
theorem Fa {b off i:Nat}:((b,off):Addr).add i=(b,off+i):=by unfold Addr.add;split<;>simp_all
theorem yK {w:World} {t e:TypeId} {k:Nat} {α:Type} {R:List Value->α->Prop} {sz:α->Nat} (ht:Ao.underlying t=some (.slice e)) (hc:Ao.cellsOf t=1) (h:jP w e k R sz) (hk:0<k):
 jP w t 1 (sE w k R) (λxs=>qT sz xs+1):=
 ⟨hc,λ{H} enc fuel cs x hx=>by
  rcases DataW.trod_slice ht hx with⟨rfl,rfl⟩|⟨a,len,cap,c,rest,n,_,rfl,rfl,_,Kz,Kq,Kd,Ky,_,_⟩
  . exact⟨rfl,[],⟨none,0,rfl,by simp,⟨by simp[maxLen],λ_=>rfl⟩,λh0=>absurd h0 (by simp)⟩,by simp[qT,Rows.uptoBulk]⟩
  . have hi:∀i,i<len->∃y:α×List Value,(∀(h':i<c.length),sz y.1<=Rows.uptoBulk (c[i].1))/\R y.2 y.1/\y.2.length=k/\∀j v,y.2[j]?=some v->w.cell? (a.add (i*k+j))=some v:=by
     intro i hi
     have h1:=Ky i hi
     have Le:i<c.length:=om
     rw[List.getElem?_eq_getElem Le,Option.bind_eq_some_iff]at h1
     obtain⟨g,M,l⟩:=h1
     obtain⟨hl,y,hy,hs⟩:=h.open_ enc n g _ l
     rw[h.cells]at M
     obtain⟨_,_,o⟩:=World.cells?_some M
     refine⟨(y,g),λ_=>hs,hy,hl,λj v hv=>?_⟩
     have hj:j<k:=by rw[<-hl];exact(List.getElem?_eq_some_iff.1 hv).1
     rw[<-BC,o j hj];exact hv
    obtain⟨ys,Kb,d⟩:=tz (λi (y:α×List Value)=>(∀(h':i<c.length),sz y.1<=Rows.uptoBulk (c[i].1))/\R y.2 y.1/\y.2.length=k/\∀j v,y.2[j]?=some v->w.cell? (a.add (i*k+j))=some v) len hi
    refine⟨rfl,ys.map (·.1),⟨some a,cap,by simp[Kb],by simp;omega,⟨Kq,λh=>by cases h⟩,λh0=>?_⟩,?_⟩
    . obtain⟨b,off,f⟩:=a
      have m:=d 0 zgA
      obtain⟨_,_,Kt,U⟩:=m
      have hv:=U 0 _ (List.getElem?_eq_getElem (by rw[Kt];exact hk))
      have p:f=none:=by simpa[Addr.add]using World.cell?_spot hv
      subst p
      refine⟨b,off,rfl,λi hi=>?_⟩
      have hi':i<ys.length:=zfh
      obtain⟨_,hR,hl,o⟩:=d i hi'
      refine⟨ys[i].2,by simpa using hR,hl,λj v hv=>?_⟩
      have:=o j v hv
      rw[Fa,<-Nat.add_assoc]at this
      exact this
    . simp only[Rows.uptoBulk]
      have:=C6 (H:=H) sz (ys.map (·.1)) (c.map (·.1)) zc4 (λi hi hi'=>by
       have E:i<ys.length:=zfh
       have:=(d i E).1 (by simpa using hi')
       simpa using this)
      omega⟩
theorem AZ {α:Type} {w:World} {k:Nat} {R:List Value->α->Prop} (f:α->List Value) (hf:∀x,(f x).length=k) (hk:0<k) (hR:∀g x,R g x->g=f x) {cs:List Value} {xs:List α} (h:sE w k R cs xs):∃A c,cs=[.slice A xs.length c]/\xs.length<=c/\c<=maxLen/\ak w k A xs.length (xs.flatMap f):=by
 obtain⟨A,c,I,h1,h2,hat⟩:=h;refine⟨A,c,I,h1,h2.1,cW f k hf xs,λhn=>?_⟩;obtain⟨b,off,e,Ky⟩:=hat hn;refine⟨b,off,e,λj v hv=>?_⟩;have B:j<xs.length*k:=by rw[<-cW f k hf xs];exact(List.getElem?_eq_some_iff.1 hv).1
 have hi:j/k<xs.length:=(Nat.div_lt_iff_lt_mul hk).2 B
 have hr:j%k<k:=Nat.mod_lt _ hk;have a:j/k*k+j%k=j:=by rw[Nat.mul_comm];exact Nat.div_add_mod j k
 obtain⟨g,M,_,o⟩:=Ky (j/k) hi;rw[hR g _ M]at o;rw[<-a,qB f k hf xs (j/k) hi (j%k) hr]at hv;have:=o (j%k) v hv;rw[Nat.add_assoc,a]at this;exact this
theorem zS {α:Type} (sz:α->Nat) (h1:∀x,1<=sz x):∀xs:List α,xs.length<=qT sz xs
 |[]=>by simp
 |x::r=>by have:=zS sz h1 r;have:=h1 x;simp only[qT,List.length_cons];omega
theorem GZ {α:Type} (sz:α->Nat) {xs:List α} {x:α} (h:x∈xs):sz x<=qT sz xs:=by
 induction xs with|nil=>(cases h)|cons y r J=>simp only[qT];(rcases List.mem_cons.1 h with rfl|h);(. omega);. have:=J h;omega
theorem Fs {w:World} {t:TypeId} {k:Nat} {α:Type} {R:List Value->α->Prop} {sz:α->Nat} (h:jP w t k R sz) {H:Type} {enc:TypeId×Value->H} {v:Value} {d:DataW H} {p:List MemPlace} (hd:DataW.Trod enc Ao w 0 (λ_=>true) true t v d p):∃a,R v.cells.toList a/\sz a<=Rows.uptoBulk d/\v.cells.toList.length=k:=by
 obtain⟨fuel,hf⟩:=hd;obtain⟨hl,a,ha,hs⟩:=h.open_ enc fuel _ _ hf;exact⟨a,ha,hs,hl⟩
theorem tU {w:World} {r:Reach} {base:Nat} {t e:TypeId} (ht:Ao.underlying t=some (.slice e)) {k:Nat} {α:Type} {R:List Value->α->Prop} {sz:List α->Nat} (h:jP w t 1 (sE w k R) sz) {H:Type} {enc:TypeId×Value->H} {v:Value} {d:DataW H} {p:List MemPlace} (hv:Value.okWide Ao w r base t v) (hd:DataW.Trod enc Ao w 0 (λ_=>true) true t v d p):∃A c xs,v=.slice A xs.length c/\sE w k R [.slice A xs.length c] xs/\sz xs<=Rows.uptoBulk d:=by
 obtain⟨a0,n0,c0,rfl⟩:=okWide_slice ht hv;obtain⟨xs,hR,hs,_⟩:=Fs h hd;have a:=hR;obtain⟨A,c,I,_⟩:=hR;have e:[Value.slice a0 n0 c0]=[.slice A xs.length c]:=by simpa[Value.cells]using I
 simp only[List.cons.injEq,and_true]at e;refine⟨A,c,xs,e,?_,hs⟩;rw[<-e];simpa[Value.cells]using a
end
def aG (n:Int) (r:Y0):Y0×Int:=if ij n r=0 then(aZ n++r,0)else([],ij n r)
theorem nc {n:Int} {r:Y0} (h:ij n r=0):0<=n/\n<=200/\r.length=32:=by
 unfold ij at h;split at h;. cases h
 . rename_i h1;split at h;(. rename_i h2;exact⟨om,om,h2⟩);. cases h
theorem nU (n:Int) (r:Y0) (w:World) (hr:r.length<=1099511627776):Calls Ao 131 #[.agg (a7 n r)] w λe w'=>e=.returned (.tuple #[(aG n r).1,.int .i64 (aG n r).2])/\Gr w w':=by
 have HG:=aa (λw=>uC n r w om);have t:=(B4 w).alloc (.cells (a7 n r) 24)
 have hb:=ag.new w 24 (a7 n r);obtain⟨J,H⟩:=zq (w.alloc (.cells (a7 n r) 24));obtain⟨p,V⟩:=zq (w.heap.size);rw[<-H]at t hb;rw[<-V]at hb;have HB:=aa hb;have c0:J.cell? (p,0)=n:=hb.cell 0;have c1:J.cell? (p,1)=r:=hb.cell 1;clear hb;unfold a7 at HG H;unfold a7;by_cases hE:ij n r=0;. have HR:ab (aG n r=(aZ n++r,0)):=aa (by unfold aG;rw[if_pos hE]);obtain⟨h0,h1,h2⟩:=nc hE;rw[HR.o];rw[hE]at HG;(have y:(aZ n).length<=9:=by rw[iD h0 om];exact eE om);have Km:ab (∀B g w,bf w B g ([],0)->Calls Ao 63 #[.pointer (some ⟨g,0,none⟩),n] w λe w'=>e=.returned (.tuple #[])/\bf w' B g (aZ n,0)/\Below B w w'/\bY g w w'):=aa (λB g w h=>by have:=jB B g ([],0) n w h (by simp);(have e:aL n ([],0)=(aZ n,0):=by unfold aL;rw[if_pos rfl,if_pos ⟨h0,om⟩];rfl);rwa [e]at this);have Ko:ab (∀B g w,bf w B g (aZ n,0)->Calls Ao 65 #[.pointer (some ⟨g,0,none⟩),r] w λe w'=>e=.returned (.tuple #[])/\bf w' B g (aZ n++r,0)/\Below B w w'/\bY g w w'):=aa (λB g w h=>mJ B g (aZ n,0) r w h zeD);have M:ab (∀B g w,bf w B g (aZ n++r,0)->Calls Ao 66 #[.pointer (some ⟨g,0,none⟩)] w λe w'=>e=.returned (.tuple #[.string (bs (aZ n++r)),i0])/\Gr w w'):=aa (λB g w h=>mO B g (aZ n++r,0) w h);have Kp:ab (∀w1:World,bf (w1.alloc (.cells #[n_,i0] 125)) w1.heap.size w1.heap.size ([],0)):=aa (λw1=>⟨⟨none,0,ag.new w1 _ _,World.ownsRow_nil _ _ _ _⟩,Dg _,by simp⟩);clear hE HR h2;(go_enter Tryz.func131,Tryz.ntmps131);(go_wp2_with(first|(rw[<-H,<-V];clear H V;go_wp2_with fail)|(go_at_call 170;refine Bo (HG.o _) ?_;rintro e w1 ⟨rfl,I⟩;have b1:=HB.o.gr I;have x0:(w1.alloc (.cells #[n_,i0] 125)).cell? (p,0)=n:=(b1.alloc _).cell 0;have x1:(w1.alloc (.cells #[n_,i0] 125)).cell? (p,1)=r:=(b1.alloc _).cell 1)|(go_at_call 63;refine Bo (Km.o w1.heap.size w1.heap.size _ (Kp.o w1)) ?_;rintro e w2 ⟨rfl,d2,k2,_⟩;have b2:Gr w1 w2:=Below.trans ((B4 w1).alloc _) k2;have y0:w2.cell? (p,0)=n:=(b1.gr b2).cell 0;have y1:w2.cell? (p,1)=r:=(b1.gr b2).cell 1)|(go_at_call 65;refine Bo (Ko.o _ _ _ d2) ?_;rintro e w3 ⟨rfl,d3,k3,_⟩;have b3:Gr w1 w3:=Below.trans b2 k3)|(go_at_call 66;refine Bo (M.o _ _ _ d3) ?_;rintro e w4 ⟨rfl,g4⟩)));go_ret2;exact⟨rfl,t.trans (I.trans (b3.trans g4))⟩
 . have HR:ab (aG n r=([],ij n r)):=aa (by unfold aG;rw[if_neg hE]);rw[HR.o];obtain⟨E,k⟩:=zq (ij n r);rw[<-k]at HG hE;rw[<-k];(have m0:(E !=0)=true:=by simpa using hE);clear k HR;(go_enter Tryz.func131,Tryz.ntmps131);(go_wp2_with(first|(rw[<-H,<-V];clear H V;go_wp2_with fail)|(go_at_call 170;refine Bo (HG.o _) ?_;rintro e w1 ⟨rfl,I⟩)));go_ret2;exact⟨rfl,t.trans I⟩
theorem gB:dZ 164 2:=⟨⟨_,Tryz.underlying164,rfl⟩,by kernel_rfl⟩
def et (n:Int) (r:Y0):Array Value:=#[n,r]
theorem nB (n:Int) (r:Y0):(et n r).all (·.oneCell')=true:=by simp[et,Value.oneCell']
def nf:Y0:=[104,101,97,100]
def fi (who:Int) (key:Y0) (n:Int) (r:Y0):Int×Y0×Int:=
 if(aG n r).2=0 then(if who<0\/4<=who then(0,[],3)else(who,dC key (nf++(aG n r).1),0))else(0,[],(aG n r).2)
theorem lI (n:Int) (r:Y0):(aG n r).1.length<=64:=by
 unfold aG;split;. rename_i hE;obtain⟨h0,h1,h2⟩:=nc hE;(have y:(aZ n).length<=9:=by rw[iD h0 om];exact eE om);simp only[List.length_append];omega
 . simp
theorem uU (who:Int) (key:Y0) (n:Int) (r:Y0) (w:World) (hT:bK w) (hk:key.length<=1099511627776) (hr:r.length<=1099511627776):Calls Ao 92 #[who,key,.agg (a7 n r)] w λe w'=>e=.returned (.tuple #[.agg (et (fi who key n r).1 (fi who key n r).2.1),.int .i64 (fi who key n r).2.2])/\Gr w w':=by
 have hx:=lI n r;have Ka:=aa (λw=>nU n r w hr);have Lu:ab (∀w',Gr w w'->Calls Ao 126 #[key,.string (bs (nf++(aG n r).1))] w' λe w''=>e=.returned (.string (bs (dC key (nf++(aG n r).1))))/\Gr w' w''):=aa (λw' g=>oL key _ w' (hT.gr g) om zfS);obtain⟨J,H⟩:=zq ((w.alloc (.cells (a7 n r) 24)).alloc (.cells (et 0 []) 164));have hb:ag J w.heap.size 24 (a7 n r):=zfa
 have hm:ag J (w.heap.size+1) 164 (et 0 []):=zfn
 have t:Gr w J:=zeH
 obtain⟨p,V⟩:=zq (w.heap.size);have Kd:w.heap.size<=p+1:=om;rw[<-V]at hb hm;unfold fi;obtain⟨tx,Eq⟩:=zq ((aG n r).1);obtain⟨te,s⟩:=zq ((aG n r).2);rw[<-Eq,<-s]at Ka;rw[<-Eq]at Lu hx;rw[<-Eq,<-s];obtain⟨S,hS⟩:=zq (dC key (nf++tx));rw[<-hS]at Lu;rw[<-hS];have HB:=aa hb;have HM:=aa hm;have c0:J.cell? (p,0)=n:=hb.cell 0;have c1:J.cell? (p,1)=r:=hb.cell 1;have f:ab (∀w',Gr J w'->w'.cell? (p+1,0)=i0/\w'.cell? (p+1,1)=s_/\w'.frozen? (p+1,0)=false/\w'.frozen? (p+1,1)=false):=aa (λw' g=>⟨(HM.o.gr g).cell 0,(HM.o.gr g).cell 1,(HM.o.gr g).frozen 0,(HM.o.gr g).frozen 1⟩);have Il:ab ((bs (nf++tx))={data:=#[104,101,97,100]}++bs tx):=aa (nJ nf tx).symm
 have Kt:¬9223372036854775807<4+tx.length:=om;clear hb hm hx Eq s hS hT hk hr;unfold a7 at Ka H;unfold et at H;unfold a7 et;by_cases h0:te=0;. rw[if_pos h0];subst h0;by_cases h1:who<0;(. rw[if_pos (Or.inl h1)];have d1:decide (who<0)=true:=decide_eq_true h1;exact zaq);. by_cases h2:4<=who;(. rw[if_pos (Or.inr h2)];have d1:decide (who<0)=false:=decide_eq_false h1;have d2:decide (4<=who)=true:=decide_eq_true om;exact zaq);. rw[if_neg om];have d1:decide (who<0)=false:=decide_eq_false h1;have d2:decide (4<=who)=false:=decide_eq_false om;rw[Il.o]at Lu;(go_enter Tryz.func92,Tryz.ntmps92);(go_wp2_with(first|(rw[<-H,<-V];clear H V;go_wp2_with fail)|(go_at_call 131;refine Bo (Ka.o _) ?_;rintro e w1 ⟨rfl,I⟩)|(go_at_call 126;refine Bo (Lu.o _ (t.trans I)) ?_;rintro e w2 ⟨rfl,Z⟩;obtain⟨y0,y1,z0,z1⟩:=f.o w2 (I.trans Z))));refine bodyPost_ret (ai rfl _ rfl (((HM.o.gr (I.trans Z)).set_ 0 who).set_ 1 S) gB) rfl ?_;exact⟨rfl,((t.trans (I.trans Z)).setCell (p:=(p+1,0)) Kd _).setCell (p:=(p+1,1)) Kd _⟩
 . rw[if_neg h0];(have m0:(te !=0)=true:=zgA);exact zaq
section
open Go.RowKit Go.ChangeShapes Go.WideShapes
def ep (x:Int×Y0):List Value:=[.int .i64 x.1,.string (bs x.2)]
theorem E.mark:cC 82 164 (.agg #[i0,s_]) 2 24:=⟨Tryz.underlying82,by kernel_rfl,rfl,om⟩
def nj (w:World) (A:Yy) (n:Nat) (ms:List (Int×Y0)):Prop:=ak w 2 A n (ms.flatMap ep)
theorem nj.gr {w w':World} {A:Yy} {n:Nat} {ms:List (Int×Y0)} (h:nj w A n ms) (g:Gr w w'):nj w' A n ms:=ak.gr h g
theorem nj.len {w:World} {A:Yy} {n:Nat} {ms:List (Int×Y0)} (h:nj w A n ms):ms.length=n:=ak.flen ep (λ_=>rfl) om h
theorem nj.cell {w:World} {A:Yy} {n:Nat} {ms:List (Int×Y0)} (h:nj w A n ms) {i:Nat} (hi:i<ms.length):∃b off,A=some ⟨b,off,none⟩/\w.cell? ⟨b,off+i*2,none⟩=some (.int .i64 ms[i].1)/\w.cell? ⟨b,off+i*2+1,none⟩=some (.string (bs ms[i].2)):=by
 obtain⟨b,off,e,_,hc⟩:=ak.fcell ep (λ_=>rfl) om h hi;exact⟨b,off,e,hc 0 _ rfl,hc 1 _ rfl⟩
def ek (A:Yy) (n c:Nat) (B:Yy) (m d:Nat) (need:Int):Array Value:=#[(A,n,c),(B,m,d),need]
def s9 (n:Int) (r:Y0) (A:Yy) (k c:Nat):Array Value:=#[n,r,(A,k,c)]
def pY (ws:List (Y0)) (b:Y0):Int->List (Int×Y0)->Int
 |_,[]=>0
 |last,(w,s)::r=>if w<=last\/3<w\/(ws.length:Int)<=w then 3 else if dC (ws.getD w.toNat []) b=s then pY ws b w r else 13
def rl (ws:List (Y0)) (n:Int) (r:Y0) (ms:List (Int×Y0)):Int:=
 if(aG n r).2=0 then(if pY ws (nf++(aG n r).1) (-1) ms=0 then(if ms.length<3 then 13 else 0)else pY ws (nf++(aG n r).1) (-1) ms)else(aG n r).2
def ja (ws:List (Y0)) (b:Y0) (ms:List (Int×Y0)) (i:Nat) (last:Int):Prop:=
 pY ws b (-1) ms=pY ws b last (ms.drop i)/\(i=0->last=-1)/\(∀h:0<i/\i<=ms.length,last=(ms[i-1]'om).1/\0<=last)
theorem Ge (K:List (Y0)) (b:Y0) (ms:List (Int×Y0)):ja K b ms 0 (-1):=⟨rfl,λ_=>rfl,λh=>absurd h.1 om⟩
theorem Fj (K:List (Y0)) (b:Y0) (u w:Int) (s:Y0) (r:List (Int×Y0)):
 pY K b u ((w,s)::r)=if w<=u\/3<w\/(K.length:Int)<=w then 3 else if dC (K.getD w.toNat []) b=s then pY K b w r else 13:=rfl
theorem ja.here {K:List (Y0)} {b:Y0} {ms:List (Int×Y0)} {i:Nat} {u:Int} (h:ja K b ms i u) (hi:i<ms.length):pY K b (-1) ms=if ms[i].1<=u\/3<ms[i].1\/(K.length:Int)<=ms[i].1 then 3 else if dC (K.getD ms[i].1.toNat []) b=ms[i].2 then pY K b ms[i].1 (ms.drop (i+1))else 13:=by
 rw[h.1,List.drop_eq_getElem_cons hi];exact Fj ..
theorem ja.next {K:List (Y0)} {b:Y0} {ms:List (Int×Y0)} {i:Nat} {u:Int} (h:ja K b ms i u) (hi:i<ms.length) (h1:¬(ms[i].1<=u\/3<ms[i].1\/(K.length:Int)<=ms[i].1)) (h2:dC (K.getD ms[i].1.toNat []) b=ms[i].2):ja K b ms (i+1) ms[i].1:=by
 refine⟨?_,λe=>absurd e om,λ_=>⟨rfl,?_⟩⟩;. rw[h.here hi,if_neg h1,if_pos h2]
 . (have hl:-1<=u:=zbl);omega
theorem ja.done {K:List (Y0)} {b:Y0} {ms:List (Int×Y0)} {i:Nat} {u:Int} (h:ja K b ms i u) (hi:ms.length<=i):pY K b (-1) ms=0:=by
 rw[h.1,List.drop_eq_nil_of_le hi];rfl
theorem ja.low {K:List (Y0)} {b:Y0} {ms:List (Int×Y0)} {i:Nat} {u:Int} (h:ja K b ms i u) (hi:i<=ms.length):-1<=u:=by
 exact zbl
end
structure SA where
 s:aF
 A:Yy
 c:Nat
 B:Yy
 d:Nat
def bO (e:SA):List Value:=[.string (bs e.s.r),.string (bs e.s.o),.string (bs e.s.n),.slice e.A e.s.who.length e.c,.slice e.B e.s.seals.length e.d]
theorem E.stp:cC 57 73 (.agg #[s_,s_,s_,n_,n_]) 5 96:=⟨Tryz.underlying57,by kernel_rfl,rfl,om⟩
structure dX (w:World) (A:Yy) (n:Nat) (es:List SA):Prop where
 row:ak w 5 A n (es.flatMap bO)
 each:∀e∈es,mS w e.s e.A e.c e.B e.d
theorem dX.gr {w w':World} {A:Yy} {n:Nat} {es:List SA} (h:dX w A n es) (g:Gr w w'):dX w' A n es:=⟨h.row.gr g,λe he=>(h.each e he).gr g⟩
theorem dX.len {w:World} {A:Yy} {n:Nat} {es:List SA} (h:dX w A n es):es.length=n:=ak.flen bO (λ_=>rfl) om h.row
theorem dX.cell {w:World} {A:Yy} {n:Nat} {es:List SA} (h:dX w A n es) {i:Nat} (hi:i<es.length):∃b off,A=some ⟨b,off,none⟩/\w.cell? ⟨b,off+i*5,none⟩=some (.string (bs es[i].s.r))/\w.cell? ⟨b,off+i*5+1,none⟩=some (.string (bs es[i].s.o))/\w.cell? ⟨b,off+i*5+2,none⟩=some (.string (bs es[i].s.n))∧w.cell? ⟨b,off+i*5+3,none⟩=some (.slice es[i].A es[i].s.who.length es[i].c)/\w.cell? ⟨b,off+i*5+4,none⟩=some (.slice es[i].B es[i].s.seals.length es[i].d):=by
 obtain⟨b,off,e,_,hc⟩:=ak.fcell bO (λ_=>rfl) om h.row hi;exact⟨b,off,e,hc 0 _ rfl,hc 1 _ rfl,hc 2 _ rfl,hc 3 _ rfl,hc 4 _ rfl⟩
theorem iR {es:List SA}:∀u∈es.flatMap bO,u.oneCell'=true:=by
 intro u hu;obtain⟨f,_,h⟩:=List.mem_flatMap.1 hu
 exact zbC
theorem nI (e:SA):∀u∈bO e,u.oneCell'=true:=by
 intro u h;exact zbC
theorem qJ {W:World} {g:Nat} {e:SA} (h:ag W g 73 (aP e.s e.A e.c e.B e.d)):ak W 5 (some (g,0)) 1 (bO e):=by
 refine⟨rfl,λ_=>⟨g,0,rfl,λi v hi=>?_⟩⟩;have:=h.cell i;rw[Nat.zero_add,this];simpa[aP,bO]using hi
theorem iW {w:World} {k e size n cap:Nat} {A:Yy} {xs:List Value} (h:w.ownsRow k e size (A,n,cap) n xs):A=none->n=0/\cap=0:=by
 exact zaD
theorem kB {w:World} {k e size n cap:Nat} {A:Yy} {xs:List Value} (h:w.ownsRow k e size (A,n,cap) n xs):n<=cap:=by
 exact zaA
structure gu (b:Nat) (w:World) (e:SA):Prop where
 who:w.ownsRow b 3 1 (e.A,e.s.who.length,e.c) e.s.who.length (e.s.who.map iV)
 seals:w.ownsRow b 9 1 (e.B,e.s.seals.length,e.d) e.s.seals.length (e.s.seals.map aC)
theorem gu.str {b:Nat} {w:World} {e:SA} (h:gu b w e):mS w e.s e.A e.c e.B e.d:=⟨ak.own h.who,ak.own h.seals,qC h.who,qC h.seals,qI h.who,qI h.seals⟩
theorem gu.gr {b:Nat} {w w':World} {e:SA} (h:gu b w e) (g:Gr w w'):gu b w' e:=⟨av h.who g,av h.seals g⟩
theorem gu.app {b k:Nat} {w w':World} {e:SA} {size n:Nat} {v:Value} {xs:List Value} (h:gu b w e) (ho:w.ownsRow k 73 size v n xs) (g:w.grownBy w' v.ownBlock):gu b w' e:=⟨iL h.who ho dc0 g,iL h.seals ho dc0 g⟩
theorem gu.low {b b':Nat} {w:World} {e:SA} (h:gu b w e) (hb:b'<=b):gu b' w e:=⟨oW h.who hb,oW h.seals hb⟩
def FG (es es':List SA):Prop:=es'.map (·.s)=es.map (·.s)
def xE (w:World) (L:List (Y0)) (e:Ending) (w':World):Prop:=∃A c n,n=L.length/\e=.returned (A,n,c)/\aE w' A n L/\(A=none->n=0/\c=0)/\n<=c/\Gr w w'
theorem vF {w:World} {k e n cap:Nat} {A:Yy} {xs:List Value} (h:w.ownsRow k e 1 (A,n,cap) n xs):A=none->n=0/\cap=0:=by
 exact zaD
theorem wH {w:World} {k e n cap:Nat} {A:Yy} {xs:List Value} (h:w.ownsRow k e 1 (A,n,cap) n xs):n<=cap:=by
 exact zaA
theorem BP {W:World} {g:Nat} {T:TypeId} {cs:Array Value} {k:Nat} (h:ag W g T cs) (hk:cs.size=k):ak W k (some (g,0)) 1 cs.toList:=by
 exact zbt
theorem xH {w:World} {g:Nat} {t:TypeId} {cs:Array Value} (h:g=w.heap.size):ag (w.alloc (.cells cs t)) g t cs:=by subst h;exact ag.new w t cs
theorem qQ {w w':World} {B:Nat} {A:Yy} {n cap:Nat} {L:List (Y0)} (h:w'.ownsRow B 9 1 (A,n,cap) n (L.map aC)) (g:Gr w w'):xE w L (.returned (A,n,cap)) w':=
 ⟨A,cap,n,by have:=h.1;simpa using this.symm,rfl,ak.own h,vF h,wH h,g⟩
theorem yO (o:Ob) (A:Yy) (c:Nat) (B:Yy) (d:Nat) (w:World) (hR:eC w o A c B d) (hz:ju 1099511627776 o):Calls Ao 111 #[.agg (bh o A c B d)] w (xE w (mg o)):=by
 have Ky:=hz.ents;have Kz:=hz.pars;obtain⟨J,H⟩:=zq (w.alloc (.cells (bh o A c B d) 97));have hb:ag J w.heap.size 97 (bh o A c B d):=zeM
 have t:Gr w J:=zc5
 have Ku:=aa (hR.ents.gr t);have Kg:=aa (hR.pars.gr t);have a:=aa hR.pn;obtain⟨p,V⟩:=zq (w.heap.size);rw[<-V]at hb;obtain⟨Kb,hV⟩:=zq (mg o);have HV:=aa hV;rw[<-hV];clear hV hz hR;obtain⟨kd,dt,en,tr,pa,wh,no,ti,ta⟩:=o;simp only at Ku Kg a Ky Kz;unfold bh at hb H;unfold bh;simp only at hb H⊢;have f:ab (∀w',Gr J w'->w'.cell? (p,0)=kd/\w'.cell? (p,1)=dt/\w'.cell? (p,2)=(A,en.length,c)/\w'.cell? (p,3)=tr/\w'.cell? (p,4)=(B,pa.length,d)/\w'.cell? (p,5)=wh/\w'.cell? (p,6)=no/\w'.cell? (p,7)=ti/\w'.cell? (p,8)=ta):=aa (λw' g=>⟨(hb.gr g).cell 0,(hb.gr g).cell 1,(hb.gr g).cell 2,(hb.gr g).cell 3,(hb.gr g).cell 4,(hb.gr g).cell 5,(hb.gr g).cell 6,(hb.gr g).cell 7,(hb.gr g).cell 8⟩);clear hb;have Kq:ab (∀w',Gr J w'->J.heap.size<=w'.heap.size):=aa (λw' g=>g.size);have Ka:(0+1)*16<=140737488355328:=om;have Kc:0+1<=maxLen:=zc1
 have Ks:(0+1+pa.length)*16<=140737488355328:=om;have Lb:0+1+pa.length<=maxLen:=zc1
 obtain⟨q0,Kw⟩:=zq (J.heap.size);have HQ:=aa Kw;go_enter Tryz.func111,Tryz.ntmps111
 go_upto_region 1 with fail
 rw[<-H,<-V];clear H V Kw;obtain⟨c0,c1,c2,c3,c4,c5,c6,c7,c8⟩:=f.o J (B4 _);by_cases k2:kd=2;. subst k2;have Eq:ab (Kb=en.map (·.id)):=aa (by rw[HV.o];unfold mg;rw[if_pos rfl]);clear HV Kg a Ka Kc Ks Lb;(go_upto_region 4 with fail);(go_wp2_with fail);clear c0 c1 c2 c3 c4 c5 c6 c7 c8;(go_loopg [13,3,5] en.length (λfuel iv lv _ wr=>∃(i:Nat) (A1:Yy) (c1:Nat),iv=.int .i64 (i:Int)/\lv=.slice A1 i c1/\en.length<=i+fuel/\i<=en.length/\ab (wr.ownsRow J.heap.size 9 1 (A1,i,c1) i (((en.take i).map (·.id)).map aC))/\Gr J wr));(case atStart=>exact⟨0,none,0,rfl,rfl,om,om,aa (World.ownsRow_nil _ _ _ _),B4 _⟩);case round=>obtain⟨i,A1,k1,rfl,rfl,Kj,hi,HO,C⟩:=hrel;obtain⟨c0,c1,c2,c3,c4,c5,c6,c7,c8⟩:=f.o wr C;by_cases hlt:i<en.length;(. have Ki:(i:Int)<(en.length:Int):=om;(obtain⟨b,off,rfl,e0,e1,e2⟩:=(Ku.o.gr C).cell hlt);have X:ab (((en.take (i+1)).map (·.id)).map aC=((en.take i).map (·.id)).map aC++[.string (bs en[i].id)]):=aa zfK;obtain⟨x,P⟩:=zq (en[i]);rw[<-P]at e0 e1 e2 X;have Il:=aa hlt;clear P hlt;obtain⟨nm,dr,id⟩:=x;simp only at e0 e1 e2 X;have e:ab ((wr.alloc (.cells #[nm,dr,id] 100)).ownsRow J.heap.size 9 1 (A1,i,k1) i (((en.take i).map (·.id)).map aC)):=aa (av HO.o ((B4 wr).alloc _));have gx:=C.alloc (.cells #[nm,dr,id] 100);(have Mn:(i+1)*16<=140737488355328:=zie);(have m:i+1<=maxLen:=by have:=Il.o;unfold maxLen;omega);(go_wp2_with(refine bQ E.str rfl (.tmp 17) (.tmp 20) rfl rfl (av e.o ((B4 _).alloc _)) rfl (BP (xH (by simp)) rfl) (λh=>by cases h) (λu hu=>by simp at hu;subst hu;rfl) Mn m ((gx.alloc _).size) ?_;intro A2 k2 w2 o2 h2;have Lj:=aa o2;clear o2;have Z:Gr J w2:=Gr.grown (gx.alloc (.cells #[id] 9)) h2 (λk hk=>(e.o.lt k hk).1)));(go_roundg (gk-1));(case rel=>exact⟨i+1,A2,k2,by go_num,rfl,by have:=Il.o;omega,Il.o,aa (by rw[X.o];exact Lj.o),Z⟩);case measure=>have:=Il.o;omega);. have hE:i=en.length:=om;have Ki:¬(i:Int)<(en.length:Int):=om;have q:decide (i<en.length)=false:=decide_eq_false hlt;have HF:ab (wr.ownsRow J.heap.size 9 1 (A1,i,k1) i (Kb.map aC)):=aa (by rw[Eq.o];have:=HO.o;rwa [List.take_of_length_le om]at this);clear hlt Kj hi hE;(go_wp2_with fail);go_ret;exact qQ HF.o (t.trans C)
 have z2:(kd==2)=false:=zis
 by_cases k3:kd=3;. subst k3;have Eq:ab (Kb=tr::pa):=aa (by rw[HV.o];unfold mg;rw[if_neg zeD,if_pos rfl]);clear HV Ku;(go_upto_region 10 with fail);(have gd:Gr J J.drew:=(B4 _).drew);obtain⟨e0,e1,e2,e3,e4,-⟩:=f.o (J.alloc (.cells #[tr] 9)) ((B4 _).alloc _);(go_region_law (first|(refine au E.str rfl (.tmp 25) (.tmp 28) rfl (B:=q0) rfl (World.ownsRow_nil _ _ _ _) rfl (BP (xH (by simp)) rfl) (λh=>by cases h) (λu hu=>by simp at hu;subst hu;rfl) Ka Kc (by rw[HQ.o];simp) ?_;intro A1 k1 x1 o1 h1;have G1:Gr J x1:=Gr.grown ((B4 _).drew.alloc _) h1 zeI;obtain⟨m0,m1,m2,m3,m4,-⟩:=f.o x1 G1)|(refine au E.str rfl (.tmp 29) (.tmp 31) rfl rfl o1 rfl (ak.gr Kg.o zeB) a.o pH Ks Lb (by rw[HQ.o];exact Kq.o _ zeB) ?_;intro A2 k2 x2 o2 h2;have G2:Gr J x2:=Gr.grown zeB h2 (λk hk=>by rw[<-HQ.o];exact(o1.lt k hk).1))));all_goals have HF:ab (x2.ownsRow q0 9 1 (A2,0+1+pa.length,k2) (0+1+pa.length) (Kb.map aC)):=aa (by rw[Eq.o];exact o2);clear o1 o2 h1 h2;(go_wp2_with fail);go_ret;exact qQ HF.o (t.trans G2)
 have z3:(kd==3)=false:=zgj
 by_cases k4:kd=4;. subst k4;have Eq:ab (Kb=[ta]):=aa (by rw[HV.o];unfold mg;rw[if_neg zeD,if_neg zeD,if_pos rfl]);clear HV Ku Kg;(go_wp2_with(refine bQ E.str rfl (.tmp 35) (.tmp 38) rfl (B:=J.heap.size) rfl (World.ownsRow_nil _ _ _ _) rfl (BP (xH (by simp)) rfl) (λh=>by cases h) (λu hu=>by simp at hu;subst hu;rfl) Ka Kc (((B4 J).alloc _).size) ?_;intro A2 k2 w2 o2 h2;have Lj:=aa o2;clear o2;have Z:Gr J w2:=Gr.grown ((B4 J).alloc (.cells #[ta] 9)) h2 zeI));go_ret;exact qQ (by rw[Eq.o];exact Lj.o) (t.trans Z)
 have z4:(kd==4)=false:=zgk
 have Eq:ab (Kb=[]):=aa (by rw[HV.o];unfold mg;rw[if_neg zeD,if_neg zeD,if_neg zeD]);clear HV Ku Kg;go_wp2_with fail
 go_ret;exact qQ (B:=q0) (by rw[Eq.o];exact World.ownsRow_nil _ _ _ _) t
theorem MB:kH 188 9 4 Lit.bool Value.bool (λ_=>True) false:=
 Dk Tryz.underlying188 Tryz.underlying9 Tryz.underlying4 (λw=>by kernel_rfl)
theorem Az (A:Yy) (n c:Nat) (B:Yy) (m d:Nat) (z:Int) (K:List (Y0)) (hn:Int) (r:Y0) (M:Yy) (k cap:Nat) (ms:List (Int×Y0)) (w:World) (hm:m<=1099511627776) (hk:k<=1099511627776) (hy:aE w B m K) (Ky:∀x∈K,x.length<=1099511627776) (hx:nj w M k ms) (hr:r.length<=1099511627776) (hT:bK w):Calls Ao 139 #[.agg (ek A n c B m d z),.agg (s9 hn r M k cap)] w λe w'=>e=.returned (rl K hn r ms)/\Gr w w':=by
 have Kk:=lI hn r;have Ka:=aa (λw=>nU hn r w hr);have Lu:ab (∀key:Y0,key.length<=1099511627776->∀w',Gr w w'->Calls Ao 126 #[.string (bs key),.string (bs (nf++(aG hn r).1))] w' λe w''=>e=.returned (.string (bs (dC key (nf++(aG hn r).1))))/\Gr w' w''):=aa (λkey X w' g=>oL key _ w' (hT.gr g) om zfS);obtain⟨J,H⟩:=zq ((w.alloc (.cells (ek A n c B m d z) 53)).alloc (.cells (s9 hn r M k cap) 171));have hb:ag J w.heap.size 53 (ek A n c B m d z):=zfa
 have hs:ag J (w.heap.size+1) 171 (s9 hn r M k cap):=zfn
 have t:Gr w J:=zeH
 obtain⟨p,V⟩:=zq (w.heap.size);rw[<-V]at hb hs;have Nl:=aE.len hy;have S:=nj.len hx;have HY:=aa (hy.gr t);have O:=aa (hx.gr t);have HW:=aa Ky;unfold rl;obtain⟨tx,Eq⟩:=zq ((aG hn r).1);obtain⟨te,s⟩:=zq ((aG hn r).2);rw[<-Eq,<-s]at Ka;rw[<-Eq]at Lu Kk;rw[<-Eq,<-s];have HB:=aa hb;have HS:=aa hs;have c0:J.cell? (p+1,0)=hn:=hs.cell 0;have c1:J.cell? (p+1,1)=r:=hs.cell 1;have f:ab (∀w',Gr J w'->w'.cell? (p,1)=(B,m,d)/\w'.cell? (p+1,2)=(M,k,cap)):=aa (λw' g=>⟨(HB.o.gr g).cell 1,(HS.o.gr g).cell 2⟩);have Il:ab ((bs (nf++tx))={data:=#[104,101,97,100]}++bs tx):=aa (nJ nf tx).symm
 have Kt:¬9223372036854775807<4+tx.length:=om;have F:=aa Nl;have Kz:=aa S;clear hb hs hx hy Ky Eq s hT hr Nl S;unfold a7 at Ka;unfold ek s9 at H;unfold ek s9;by_cases h0:te=0;. rw[if_pos h0];subst h0;obtain⟨b4,Lb⟩:=zq (nf++tx);rw[<-Lb]at Lu Il;rw[<-Lb];clear Lb;obtain⟨E,hE⟩:=zq (pY K b4 (-1) ms);rw[<-hE];have HE:=aa hE;clear hE;(obtain⟨Kb,hV⟩:∃Kb:Int,Kb=if E=0 then(if ms.length<3 then 13 else 0)else E:=⟨_,rfl⟩);rw[<-hV];have HV:=aa hV;clear hV;(go_enter Tryz.func139,Tryz.ntmps139);(go_wp2_with(first|(rw[<-H,<-V];clear H V;go_wp2_with fail)|(go_at_call 131;refine Bo (Ka.o _) ?_;rintro e w1 ⟨rfl,I⟩;obtain⟨y0,y1⟩:=f.o w1 I)));clear y0 c0 c1 Ka;(go_loopg [21,7,8] k (λfuel iv _ _ wr=>∃(i:Nat) (u:Int),iv=.int .i64 (i:Int)/\k<=i+fuel/\i<=k/\ab (ja K b4 ms i u)/\Gr J wr));(case atStart=>exact⟨0,-1,rfl,om,om,aa (Ge ..),I⟩);case round=>obtain⟨i,u,rfl,Kj,hi,v,hg⟩:=hrel;clear y1 I;by_cases hlt:i<k;(. (have o:i<ms.length:=by have:=Kz.o;omega);have Ki:(i:Int)<(k:Int):=om;(obtain⟨b,off,rfl,e0,e1⟩:=(O.o.gr hg).cell o);have h:=v.o.here o;have C:=aa (λh1 h2=>v.o.next o h1 h2);have Np:=v.o.low om;have Q:ab (∀j,i=j+1->wr.cell? ⟨b,off+j*2,none⟩=u):=aa (λj hj=>by(obtain⟨b',Kl,e,h0,_⟩:=(O.o.gr hg).cell (i:=j) om);injection e with e;injection e with e3 e4 _;subst e3 e4;(have:=(v.o.2.2 ⟨om,om⟩).1);subst hj;rw[this];exact h0);(have Ks:ab (i=0->u=-1):=aa v.o.2.1);obtain⟨x,hx⟩:=zq (ms[i]);rw[<-hx]at e0 e1 h C;clear hx;obtain⟨mw,sl⟩:=x;simp only at e0 e1 h C;have N:=aa h;have U:=aa (And.intro o hlt);clear h o;(go_upto_region 7 with fail);have y:=hg.alloc (.cells #[mw,sl] 164);have l:=ag.new wr 164 #[mw,sl];have Ke:=aa (λj (hj:i=j+1)=>(World.cell?_alloc_lt wr (.cells #[mw,sl] 164) ⟨b,off+j*2,none⟩ (World.block_lt_of_cell? wr _ (Q.o j hj))).trans (Q.o j hj));obtain⟨wx,R⟩:=zq (wr.alloc (.cells #[mw,sl] 164));obtain⟨q,hq⟩:=zq (wr.heap.size);rw[<-R]at y l Ke;rw[<-hq]at l;rw[<-R,<-hq];clear R hq e0 e1 Q hg;have Lf:=aa l;obtain⟨y0,y1⟩:=f.o wx y;have c0:wx.cell? (q,0)=mw:=l.cell 0;have c1:wx.cell? (q,1)=sl:=l.cell 1;clear l;obtain⟨bad,Kn⟩:∃bad:Bool,bad=decide (mw<=u\/3<mw\/(K.length:Int)<=mw):=⟨_,rfl⟩;have P:=aa Kn;clear Kn;(go_cut [53] (λv53 wc=>v53=.bool bad/\Gr wx wc));(case first=>by_cases g0:mw<0;(. have q0:decide (mw<0)=true:=decide_eq_true g0;have Lc:ab (bad=true):=aa (by rw[P.o];exact decide_eq_true (Or.inl om));exact zao);. obtain⟨a,rfl⟩:∃a:Nat,mw=(a:Int):=⟨mw.toNat,om⟩;have q0:decide ((a:Int)<0)=false:=decide_eq_false g0;by_cases I:4<=a\/m<=a;(. have Lc:ab (bad=true):=aa (by rw[P.o];exact decide_eq_true (Or.inr zgh));by_cases Z:(4:Int)<(m:Int);(. have q1:decide ((4:Int)<=(a:Int))=true:=decide_eq_true om;exact zao);. have q1:decide (m<=a)=true:=decide_eq_true om;exact zao);. have q1:decide ((4:Int)<=(a:Int))=false:=decide_eq_false om;have q2:decide (m<=a)=false:=decide_eq_false om;by_cases L:i=0;(. have Lc:ab (bad=false):=aa (by rw[P.o,Ks.o L];exact decide_eq_false zgh);subst L;exact zcN);. obtain⟨j,hj⟩:∃j,i=j+1:=⟨i-1,om⟩;have p0:=Ke.o j hj;have T:(i:Int)-1=(j:Int):=om;have Lg:0<i:=om;have hjk:(j:Int)<(k:Int):=om;by_cases g3:(a:Int)<=u;(. have Lc:ab (bad=true):=aa (by rw[P.o];exact decide_eq_true (Or.inl g3));have q3:decide ((a:Int)<=u)=true:=decide_eq_true g3;clear hj L;exact zcN);. have Lc:ab (bad=false):=aa (by rw[P.o];exact decide_eq_false zgh);have q3:decide ((a:Int)<=u)=false:=decide_eq_false g3;clear hj L;exact zcN);case rest=>obtain⟨rfl,gc⟩:=hcut;clear y0 y1 c0 c1;obtain⟨y0,y1⟩:=f.o wc (y.trans gc);(have c0:wc.cell? (q,0)=mw:=(Lf.o.gr gc).cell 0);(have c1:wc.cell? (q,1)=sl:=(Lf.o.gr gc).cell 1);cases bad;(. have hnb:=of_decide_eq_false P.o.symm;obtain⟨a,rfl⟩:∃a:Nat,mw=(a:Int):=⟨mw.toNat,om⟩;(have La:a<m:=zgh);(have Kg:a<K.length:=zgh);(obtain⟨b',Kl,rfl,w0⟩:=(HY.o.gr (y.trans gc)).cell Kg);have Kd:=HW.o K[a] (List.getElem_mem Kg);(have G:K.getD (a:Int).toNat []=K[a]:=zfJ);have h:=N.o;rw[if_neg hnb,G,<-HE.o]at h;have Kw:=aa (C.o hnb);rw[G]at Kw;obtain⟨key,X⟩:=zq (K[a]);rw[<-X]at Kd h Kw w0;have Km:=aa (λW (g:Gr J W)=>Lu.o key Kd W (t.trans g));obtain⟨sv,Lj⟩:=zq (dC key b4);rw[<-Lj]at Km h Kw;rw[Il.o]at Km;have Me:=aa h;have Kc:=aa hnb;have Ld:(a:Int)<(m:Int):=om;clear X Lj Kd G h hnb N C P Ks Ke Kg La;(have D:Gr wc wc.drew:=(B4 _).drew);have Kh:ab (∀W,Gr wc W->W.cell? (p,1)=((b',Kl),m,d)/\W.cell? (q,0)=a/\W.cell? (q,1)=sl/\W.cell? (b',Kl+a)=key):=aa (λW g=>⟨(f.o W ((y.trans gc).trans g)).1,((Lf.o.gr gc).gr g).cell 0,((Lf.o.gr gc).gr g).cell 1,(g.cells.1 b' _ (World.block_lt_of_cell? wc _ w0)).trans w0⟩);by_cases Kv:sv=sl;(. have Kp:=aa Kv;have Ku:ab (ja K b4 ms (i+1) (a:Int)):=aa (Kw.o Kv);subst Kv;(go_wp2_with fail);(go_region_held3 (λW=>W.cell? (p,1)=((b',Kl),m,d)/\W.cell? (q,0)=a/\W.cell? (q,1)=sv/\W.cell? (b',Kl+a)=key) (first|with_reducible assumption|with_reducible exact Kh.o _ D|with_reducible exact Kh.o _ g4|fail) (first|(go_at_call 126;(refine Bo (Km.o wc.drew ((y.trans gc).trans D)) ?_);rintro e w4 ⟨rfl,Ko⟩;have g4:Gr wc w4:=Gr.trans D Ko)|fail));all_goals(go_wp2_with fail);(go_roundg (gk-1));(case rel=>exact⟨i+1,(a:Int),by go_num,om,by have:=U.o.2;omega,Ku,((y.trans gc).trans g4)⟩);case measure=>have:=U.o.2;omega);. (have hne:(sv==sl)=false:=zir);(have Ml:(sv !=sl)=true:=by rw[bne_iff_ne];exact Kv);have Kx:ab (Kb=13):=aa (by have hh:=Me.o;rw[if_neg Kv]at hh;rw[HV.o,hh];rfl);clear Kv;(go_wp2_with fail);(go_region_held3 (λW=>W.cell? (p,1)=((b',Kl),m,d)/\W.cell? (q,0)=a/\W.cell? (q,1)=sl/\W.cell? (b',Kl+a)=key) (first|with_reducible assumption|with_reducible exact Kh.o _ D|with_reducible exact Kh.o _ g4|fail) (first|(go_at_call 126;(refine Bo (Km.o wc.drew ((y.trans gc).trans D)) ?_);rintro e w4 ⟨rfl,Ko⟩;have g4:Gr wc w4:=Gr.trans D Ko)|fail));all_goals(go_wp2_with fail);go_ret;exact⟨by rw[Kx.o];rfl,t.trans ((y.trans gc).trans g4)⟩);. have Mb:=of_decide_eq_true P.o.symm;have Kf:ab (Kb=3):=aa (by have hh:=N.o;rw[if_pos Mb,<-HE.o]at hh;rw[HV.o,hh];rfl);clear Mb;(go_wp2_with fail);go_ret;exact⟨by rw[Kf.o];rfl,t.trans (y.trans gc)⟩);. obtain rfl:i=k:=om;have Y:ab (E=0):=aa (by rw[HE.o];exact v.o.done (by have:=Kz.o;omega));obtain⟨y0,y1⟩:=f.o wr hg;clear hlt Kj;by_cases h3:i<3;(. have q3:decide ((i:Int)<3)=true:=decide_eq_true om;(go_wp2_with fail);go_ret;exact⟨by rw[HV.o,Y.o,if_pos rfl,if_pos (by rw[Kz.o];exact h3)];rfl,t.trans hg⟩);. have q3:decide ((i:Int)<3)=false:=decide_eq_false om;(go_wp2_with fail);go_ret;exact⟨by rw[HV.o,Y.o,if_pos rfl,if_neg (by rw[Kz.o];exact h3)];rfl,t.trans hg⟩
 . rw[if_neg h0];(have m0:(te !=0)=true:=zgA);(go_enter Tryz.func139,Tryz.ntmps139);(go_wp2_with(first|(rw[<-H,<-V];clear H V;go_wp2_with fail)|(go_at_call 131;refine Bo (Ka.o _) ?_;rintro e w1 ⟨rfl,I⟩)));go_ret;exact⟨rfl,t.trans I⟩
def a8 (c n:Int) (id:Y0):Array Value:=#[c,n,id]
theorem aJ:dZ 33 3:=⟨⟨_,Tryz.underlying33,rfl⟩,by kernel_rfl⟩
theorem bu (c n:Int) (id:Y0):(a8 c n id).all (·.oneCell')=true:=by simp[a8,Value.oneCell']
def jG (k b x:Int) (r d:Y0) (sg:Int) (o:Bool) (z:Int):Array Value:=#[k,b,x,r,d,sg,o,z]
section
open Go.RowKit Go.ChangeShapes Go.WideShapes
def DI (n:Int):Prop:=-9223372036854775808<=n/\n<=9223372036854775807
def AQ (d:Dd):Array Value:=jG d.k d.b d.w d.ref d.data d.sg d.old d.size
def yf (d:Dd):Nat:=d.ref.length+d.data.length+1
def JR (cs:List Value) (d:Dd):Prop:=cs=(AQ d).toList/\DI d.k/\DI d.b/\DI d.w/\DI d.sg/\DI d.size
theorem Cd (w:World):jP w 30 8 JR yf:=
 (xR Tryz.underlying30 zc0
  (gp rfl (lS Tryz.underlying3 zc0 w)
  (gp rfl (lS Tryz.underlying3 zc0 w)
  (gp rfl (lS Tryz.underlying3 zc0 w)
  (gp rfl (qd Tryz.underlying9 zc0 w)
  (gp rfl (qd Tryz.underlying9 zc0 w)
  (gp rfl (lS Tryz.underlying3 zc0 w)
  (gp rfl (BW Tryz.underlying4 zc0 w)
  (gp rfl (lS Tryz.underlying3 zc0 w) (BJ w 8)))))))))).map
  (λa=>⟨a.1,a.2.1,a.2.2.1,a.2.2.2.1,a.2.2.2.2.1,a.2.2.2.2.2.1,a.2.2.2.2.2.2.1,a.2.2.2.2.2.2.2.1⟩) (by
   rintro cs ⟨k,b,x,r,d,sg,o,z,_⟩ ⟨c1,c2,rfl,_,h1,d1,d2,rfl,_,h2,e1,e2,rfl,_,h3,f1,f2,rfl,_,h4,I,Z,rfl,_,h5,i1,i2,rfl,_,h6,j1,j2,rfl,_,h7,k1,k2,rfl,_,h8,Q⟩
   obtain⟨h1,q1⟩:=h1
   obtain⟨h2,q2⟩:=h2
   obtain⟨h3,q3⟩:=h3
   obtain⟨h6,q6⟩:=h6
   obtain⟨h8,q8⟩:=h8
   simp only[ID,FE]at h4 h5 h7
   simp only at h1 h2 h3 h6 h8
   simp only[H9]at Q
   subst h1
   subst h2
   subst h3
   subst h4
   subst h5
   subst h6
   subst h7
   subst h8
   subst Q
   exact⟨rfl,q1,q2,q3,q6,q8⟩) (by intro a;simp only[yf];omega)
end
end Go.Proofs.YtdpombnelangjaaGreatDoor
