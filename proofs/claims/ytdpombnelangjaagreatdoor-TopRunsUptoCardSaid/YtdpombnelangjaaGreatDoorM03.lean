/- Lemmas for TopRuns; each states its conditions. -/
import Derived.Test.YtdpombnelangjaaGreatDoorM02
import Derived.Laws.AppendOwnNone
import Derived.Lib.SliceRun
import Derived.Laws.Tables
import Derived.Deep.AppendSrc
import Derived.Deep.MidRow
namespace Go.Proofs.YtdpombnelangjaaGreatDoor
open Go.RowKit
set_option maxRecDepth 100000
set_option maxHeartbeats 64000000
set_option linter.unusedVariables false
open Go.Proofs.Tryz renaming prog → Ao
open Calls renaming mono → Bo
open Gr renaming refl → B4
open Nat renaming le_refl → Dg
structure eI where
 nm:Y0
 dir:Bool
 id:Y0
def jZ (x:eI):List Value:=[.string (bs x.nm),.bool x.dir,.string (bs x.id)]
theorem wk (x:eI):(jZ x).length=3:=rfl
theorem E.ent:cC 95 100 (.agg #[s_,false,s_]) 3 40:=⟨Tryz.underlying95,by kernel_rfl,rfl,om⟩
def oH (w:World) (A:Yy) (n:Nat) (l:List eI):Prop:=ak w 3 A n (l.flatMap jZ)
theorem oH.gr {w w':World} {A:Yy} {n:Nat} {l:List eI} (h:oH w A n l) (g:Gr w w'):oH w' A n l:=ak.gr h g
theorem oH.cell {w:World} {A:Yy} {n:Nat} {l:List eI} (h:oH w A n l) {i:Nat} (hi:i<l.length):∃b off,A=some ⟨b,off,none⟩/\w.cell? ⟨b,off+i*3,none⟩=some (.string (bs l[i].nm))/\w.cell? ⟨b,off+i*3+1,none⟩=some (.bool l[i].dir)/\w.cell? ⟨b,off+i*3+2,none⟩=some (.string (bs l[i].id)):=by
 obtain⟨b,off,e,_,hc⟩:=ak.fcell jZ wk om h hi;exact zcg
structure Ob where
 kind:Int
 data:Y0
 ents:List eI
 tree:Y0
 pars:List (Y0)
 who:Y0
 note:Y0
 time:Int
 target:Y0
def cg:Ob:=⟨0,[],[],[],[],[],[],0,[]⟩
def bh (o:Ob) (A:Yy) (c:Nat) (B:Yy) (d:Nat):Array Value:=
 #[o.kind,o.data,(A,o.ents.length,c),o.tree,(B,o.pars.length,d),o.who,o.note,o.time,o.target]
theorem bx (o:Ob) (A:Yy) (c:Nat) (B:Yy) (d:Nat):(bh o A c B d).all (·.oneCell')=true:=by simp[bh,Value.oneCell']
theorem aK:dZ 97 9:=⟨⟨_,Tryz.underlying97,rfl⟩,by kernel_rfl⟩
structure eC (w:World) (o:Ob) (A:Yy) (c:Nat) (B:Yy) (d:Nat):Prop where
 ents:oH w A o.ents.length o.ents
 pars:aE w B o.pars.length o.pars
 en:A=none->o.ents.length=0/\c=0
 pn:B=none->o.pars.length=0/\d=0
 ec:o.ents.length<=c
 pc:o.pars.length<=d
theorem eC.gr {w w':World} {o:Ob} {A:Yy} {c:Nat} {B:Yy} {d:Nat} (h:eC w o A c B d) (g:Gr w w'):eC w' o A c B d:=⟨h.ents.gr g,h.pars.gr g,h.en,h.pn,h.ec,h.pc⟩
theorem eC.z (w:World):eC w cg none 0 none 0:=⟨ak.nil _ _ _,ak.nil _ _ _,λ_=>⟨rfl,rfl⟩,λ_=>⟨rfl,rfl⟩,Dg _,Dg _⟩
structure ju (k:Nat) (o:Ob):Prop where
 data:o.data.length<=k
 ents:o.ents.length<=k
 each:∀x∈o.ents,x.nm.length<=k/\x.id.length<=k
 tree:o.tree.length<=k
 pars:o.pars.length<=k
 peach:∀x∈o.pars,x.length<=k
 who:o.who.length<=k
 note:o.note.length<=k
 target:o.target.length<=k
theorem ju.z (k:Nat):ju k cg:=⟨by simp[cg],by simp[cg],by simp[cg],by simp[cg],by simp[cg],by simp[cg],by simp[cg],by simp[cg],by simp[cg]⟩
def jY (n:Nat):Bool:=decide (33<=n)&&decide (n<=126)&&!(n==47)
def kw (s:Y0):Bool:=decide (s.length≠0/\s.length<=60)&&(s.all (λc=>jY c.toNat)&&(!(s==[46])&&!(s==[46,46])))
def kj (s:Y0):Bool:=s.all λc=>!(c.toNat==0)
def mh:Y0->List eI->Bool
 |_,[]=>true
 |last,x::r=>kw x.nm&&(decide (x.id.length=32)&&(aR last x.nm&&mh x.nm r))
def mT:List (Y0)->List (Y0)->Int
 |_,[]=>0
 |had,p::r=>if p.length=32 then(if p∈had then 8 else mT (had++[p]) r)else 2
def cN (o:Ob):Bool:=
 (decide (o.kind=1)||o.data.isEmpty)&&((decide (o.kind=2)||o.ents.isEmpty)&&((decide (o.kind=3)||(o.tree.isEmpty&&(o.pars.isEmpty&&decide (o.time=0))))&&
  ((decide (o.kind=4)||o.target.isEmpty)&&(decide (o.kind=3)||(decide (o.kind=4)||(o.who.isEmpty&&o.note.isEmpty))))))
def sM (o:Ob):Bool:=(!decide (o.kind=3)||decide (o.tree.length=32))&&((!decide (o.kind=4)||decide (o.target.length=32))&&(kj o.who&&kj o.note))
def mm (o:Ob):Int:=if sM o=true then(if o.time<0\/1099511627776<=o.time then 3 else 0)else 2
def ra (o:Ob):Int:=if mT [] o.pars=0 then mm o else mT [] o.pars
def qZ (o:Ob):Int:=
 if 4096<o.data.length\/4096<o.who.length\/4096<o.note.length then 1 else if 64<o.ents.length\/4<o.pars.length then 6 else if mh [] o.ents=true then ra o else 2
def eZ (o:Ob):Int:=if o.kind<1\/4<o.kind then 4 else if cN o=true then qZ o else 2
theorem r9 (u:Y0) (x:eI) (r:List eI):mh u (x::r)=(kw x.nm&&(decide (x.id.length=32)&&(aR u x.nm&&mh x.nm r))):=rfl
theorem xy (had:List (Y0)) (p:Y0) (r:List (Y0)):mT had (p::r)=if p.length=32 then(if p∈had then 8 else mT (had++[p]) r)else 2:=rfl
theorem FX {s:Y0} (h:kw s=true):s≠[]:=by rintro rfl;exact absurd h dc0
theorem Ed {s:Y0} (h:kw s=true):s.length<=60:=by
 unfold kw at h;rw[Bool.and_eq_true,decide_eq_true_eq]at h;exact h.1.2
def j6 (l:List eI) (i:Nat):Y0:=if i=0 then[]else(l.drop (i-1)).head?.map (·.nm)|>.getD []
theorem nV (l:List eI) (i:Nat) (h:i<l.length):j6 l (i+1)=l[i].nm:=by
 unfold j6;rw[if_neg om,Nat.add_sub_cancel,List.drop_eq_getElem_cons h];rfl
theorem IB (l:List eI) (i:Nat) (h:i<l.length):mh (j6 l i) (l.drop i)=(kw l[i].nm&&(decide (l[i].id.length=32)&&(aR (j6 l i) l[i].nm&&mh (j6 l (i+1)) (l.drop (i+1))))):=by
 rw[List.drop_eq_getElem_cons h,r9,nV l i h]
theorem GT (u:Y0) (l:List eI) (i:Nat) (h:l.length<=i):mh u (l.drop i)=true:=by rw[List.drop_eq_nil_of_le h];rfl
theorem Hz (l:List (Y0)) (i:Nat) (h:i<l.length):mT (l.take i) (l.drop i)=if l[i].length=32 then(if l[i]∈l.take i then 8 else mT (l.take (i+1)) (l.drop (i+1)))else 2:=by
 rw[List.drop_eq_getElem_cons h,xy,List.take_succ_eq_append_getElem h]
theorem Hu (had l:List (Y0)) (i:Nat) (h:l.length<=i):mT had (l.drop i)=0:=by rw[List.drop_eq_nil_of_le h];rfl
theorem xx:∀(l:List eI) (u:Y0),mh u l=true->∀x∈l,x.nm.length<=60/\x.id.length=32
 |[],_,_,x,hx=>by simp at hx
 |y::r,u,h,x,hx=>by
  rw[r9]at h
  simp only[Bool.and_eq_true,decide_eq_true_eq]at h
  rcases List.mem_cons.1 hx with rfl|hx
  . exact⟨Ed h.1,h.2.1⟩
  . exact xx r y.nm h.2.2.2 x hx
theorem vH:∀(l had:List (Y0)),mT had l=0->∀x∈l,x.length=32
 |[],_,_,x,hx=>by simp at hx
 |y::r,had,h,x,hx=>by
  rw[xy]at h
  split at h
  . rename_i h1
    split at h
    . cases h
    . rcases List.mem_cons.1 hx with rfl|hx
      . exact h1
      . exact vH r _ h x hx
  . cases h
structure wJ (o:Ob):Prop where
 kind:1<=o.kind/\o.kind<=4
 data:o.data.length<=4096
 who:o.who.length<=4096
 note:o.note.length<=4096
 ents:o.ents.length<=64
 pars:o.pars.length<=4
 each:∀x∈o.ents,x.nm.length<=60/\x.id.length=32
 peach:∀x∈o.pars,x.length=32
 tree:o.tree.length<=32
 target:o.target.length<=32
 time:0<=o.time/\o.time<1099511627776
theorem wu {o:Ob} (h:eZ o=0):wJ o:=by
 unfold eZ at h;split at h;. cases h
 . rename_i h1;split at h;(. rename_i h2;unfold qZ at h;split at h;(. cases h);. rename_i h3;split at h;(. cases h);. rename_i h4;split at h;(. rename_i h5;unfold ra at h;split at h;(. rename_i h6;unfold mm at h;split at h;(. rename_i h7;split at h;(. cases h);. rename_i h8;unfold sM at h7;unfold cN at h2;simp only[Bool.and_eq_true,Bool.or_eq_true,Bool.not_eq_true',decide_eq_true_eq,decide_eq_false_iff_not,List.isEmpty_iff]at h7 h2;(have ht:o.tree.length<=32:=by(rcases h7.1 with h|h);(. (rcases h2.2.2.1 with h'|h');(. exact absurd h' h);. rw[h'.1];simp);. omega);(have hg:o.target.length<=32:=by(rcases h7.2.1 with h|h);(. (rcases h2.2.2.2.1 with h'|h');(. exact absurd h' h);. rw[h'];simp);. omega);exact⟨om,om,om,om,om,om,xx _ _ h5,vH _ _ h6,ht,hg,om⟩);. cases h);. rename_i h6;exact absurd h h6);. cases h);. cases h
def C5 (x:eI):Y0:=txt x.nm++(aZ (if x.dir then 1 else 0)++x.id)
def jh (l:List eI):Y0:=l.flatMap C5
def qW (o:Ob):Y0:=
 if o.kind=1 then txt o.data else if o.kind=2 then aZ o.ents.length++jh o.ents else if o.kind=3 then o.tree++(aZ o.pars.length++(o.pars.flatten++(txt o.who++(aZ o.time++txt o.note))))else o.target++(txt o.who++txt o.note)
def pC (o:Ob):Y0:=aZ o.kind++qW o
def bT (o:Ob):Y0×Int:=if eZ o=0 then(if 8192<(pC o).length then([],1)else(pC o,0))else([],eZ o)
theorem Dv (l:List eI) (i:Nat) (h:i<l.length):jh (l.take (i+1))=jh (l.take i)++C5 l[i]:=by
 unfold jh;rw[List.take_succ_eq_append_getElem h,List.flatMap_append];simp
theorem CY (l:List (Y0)) (i:Nat) (h:i<l.length):(l.take (i+1)).flatten=(l.take i).flatten++l[i]:=by
 rw[List.take_succ_eq_append_getElem h,List.flatten_append];simp
theorem lN (l:Y0) (h:l.length<=1099511627776):(txt l).length<=l.length+9:=by
 unfold txt;rw[List.length_append];have:=eE (n:=l.length) om;omega
theorem gC {n:Int}:(aZ n).length<=9:=by
 unfold aZ;split;. exact eE om
 . simp
theorem Ii {x:eI} (h:x.nm.length<=60/\x.id.length=32):(C5 x).length<=110:=by
 unfold C5;have h1:=lN x.nm om;have h2:=gC (n:=if x.dir then 1 else 0);simp only[List.length_append];omega
theorem zP (l:List eI) (h:∀x∈l,x.nm.length<=60/\x.id.length=32):(jh l).length<=l.length*110:=by
 induction l with|nil=>simp[jh]|cons x r J=>have h1:=J (λy hy=>h y (List.mem_cons_of_mem _ hy));have h2:=Ii (h x List.mem_cons_self);unfold jh at h1⊢;rw[List.flatMap_cons,List.length_append,List.length_cons];omega
theorem uy (l:List (Y0)) (h:∀x∈l,x.length=32):l.flatten.length<=l.length*32:=by
 induction l with|nil=>simp|cons x r J=>have h1:=J (λy hy=>h y (List.mem_cons_of_mem _ hy));have h2:=h x List.mem_cons_self;rw[List.flatten_cons,List.length_append,List.length_cons];omega
theorem Ij {o:Ob} (h:wJ o):(pC o).length<=10000:=by
 have h1:=lN o.data (by have:=h.data;omega);have h2:=lN o.who (by have:=h.who;omega);have h3:=lN o.note (by have:=h.note;omega);have h4:=zP o.ents h.each;have h5:=uy o.pars h.peach;have h6:=gC (n:=o.kind);have h7:=gC (n:=o.ents.length);have h8:=gC (n:=o.pars.length);have h9:=gC (n:=o.time);have:=h.data;have:=h.who;have:=h.note;have:=h.ents;have:=h.pars;have:=h.tree;have:=h.target;unfold pC qW;rw[List.length_append];split;. omega
 . split;(. simp only[List.length_append];omega);. split;(. simp only[List.length_append];omega);. simp only[List.length_append];omega
def mg (o:Ob):List (Y0):=if o.kind=2 then o.ents.map (·.id)else if o.kind=3 then o.tree::o.pars else if o.kind=4 then[o.target]else[]
def Ac (r:Option (Nat×Nat)):Value:=match r with
 |none=>.tuple #[i0,i0,.int .i64 2]
 |some (n,k)=>.tuple #[n,k,i0]
theorem uS (a:Nat) (ha:a<9223372036854775808):(BitVec.ofInt 64 (a:Int)).toNat=a:=by
 rw[BitVec.ofInt_natCast,BitVec.toNat_ofNat];exact Nat.mod_eq_of_lt om
theorem BR (a b:Nat) (ha:a<9223372036854775808) (hb:b<9223372036854775808):bits .or .i64 (a:Int) (b:Int)=((a|||b:Nat):Int):=by
 have hx:a|||b<2^63:=Nat.or_lt_two_pow om om;show IntKind.i64.wrap ((BitVec.ofInt 64 (a:Int)|||BitVec.ofInt 64 (b:Int)).toNat:Int)=_
 rw[BitVec.toNat_or,uS a ha,uS b hb,IntKind.wrap_i64];omega
theorem Ia (c:UInt8):bits .and .u8 (c.toNat:Int) 127=((c.toNat%128:Nat):Int):=by
 have h:=c.toNat_lt;rw[show(127:Int)=((127:Nat):Int)from rfl,u8_and_nat _ _ om om];congr 1;exact Nat.and_two_pow_sub_one_eq_mod c.toNat 7
theorem GC (n i:Nat) (c:UInt8) (hi:i<9) (hn:n<128^i) (h8:¬(i=8/\63<c.toNat)):bits .or .i64 (n:Int) (wrap64 (wrap64 (bits .and .u8 (c.toNat:Int) 127)*2^(7*i)))=((n+c.toNat%128*128^i:Nat):Int)/\n+c.toNat%128*128^i<128^(i+1):=by
 have V:(128:Nat)^i=2^(7*i):=by rw[show(128:Nat)=2^7 from rfl,<-Nat.pow_mul]
 have hd:c.toNat%128*128^i<=127*128^i:=Nat.mul_le_mul_right _ om;have hs:128^(i+1)=128*128^i:=by rw[Nat.pow_succ,Nat.mul_comm]
 have e8:(128:Nat)^8=72057594037927936:=dc0;have hb:n+c.toNat%128*128^i<4611686018427387904:=by by_cases e:i=8;(. subst e;have q:c.toNat%128<=63:=om;have d:c.toNat%128*128^8<=63*128^8:=Nat.mul_le_mul_right _ q;rw[e8]at hn d⊢;omega);. have:128^(i+1)<=128^8:=Nat.pow_le_pow_right om om;omega
 refine⟨?_,om⟩;rw[Ia,IntWalk.wrap64_in ((c.toNat%128:Nat):Int) om];have hm:((c.toNat%128:Nat):Int)*2^(7*i)=((c.toNat%128*128^i:Nat):Int):=by rw[V];simp
 rw[hm,IntWalk.wrap64_in _ om,BR _ _ om om];congr 1;rw[V]at hn⊢;rw[Nat.or_comm,Nat.mul_comm (c.toNat%128),<-Nat.two_pow_add_eq_or_of_lt hn];omega
theorem JH (l:Y0) (w:World) (hl:l.length<=1152921504606846976):Calls Ao 116 #[l] w λe w'=>e=.returned (Ac (lo l))/\w=w':=by
 go_enter Tryz.func116,Tryz.ntmps116
 go_wp2_with fail
 go_loop [5,6,7] (λnv iv _=>∃(i n:Nat),nv=.int .i64 n/\iv=.int .i64 i/\i<=l.length/\i<=9/\ab (n<128^i)/\ab (eO i n (l.drop i)=lo l)) (λ_ iv _=>9-(intOf iv).toNat)
 case atStart=>exact⟨0,0,rfl,rfl,om,om,⟨by simp⟩,⟨rfl⟩⟩
 case round=>obtain⟨i,n,rfl,rfl,hi,h9,hn,hg⟩:=hrel;by_cases hlt:i<l.length;(. by_cases a:i<9;(. (by_cases h8:i=8/\63<l[i].toNat);(. obtain⟨rfl,q⟩:=h8;have h:(63:Int)<(l[8].toNat:Int):=om;(go_wp2);(go_ret3);exact⟨by rw[<-hg.o,C2 8 n l hlt rfl q];rfl,rfl⟩);. have d:=GC n i l[i] a hn.o h8;have HO:=aa d;clear d;by_cases e8:i=8;(. subst e8;have j:(2:Int)^(7*8)=72057594037927936:=dc0;have d:=HO.o;rw[j]at d;have HO:=aa d;clear d j;have q:(l[8].toNat:Int)<=63:=om;(by_cases hc:l[8].toNat<128);(. (by_cases h0:0<8/\l[8].toNat=0);(. (have u:=tc 8 n l hlt h0.1 h0.2 a);have HF:=aa u;clear u;have f:((l[8].toNat:Int)<128):=om;(have I:((l[8].toNat:Int)==0)=true:=by simp[h0.2]);exact zbd);. have u:=uK 8 n l hlt a h8 hc h0;have HF:=aa u;clear u;have f:((l[8].toNat:Int)<128):=om;have g:=aa h8;have b:=aa h0;clear h0 hc h8;(go_wp2);all_goals first|(exfalso;have h8:=g.o;omega)|((exfalso;have h0:=b.o;have hz:(l[8].toNat:Int)=0:=by simpa using‹((l[8].toNat:Int)==0)=true›);omega)|((go_ret3);refine⟨?_,rfl⟩;rw[<-hg.o,HF.o,HO.o.1];rfl));. have u:=sw 8 n l hlt a h8 hc;have HF:=aa u;clear u;have f:((128:Int)<=(l[8].toNat:Int)):=om;have g:=aa h8;clear h8 hc;(go_wp2);all_goals first|(exfalso;have h8:=g.o;omega)|(go_round;(case rel=>(refine⟨9,n+l[8].toNat%128*128^8,by rw[HO.o.1],by go_num,om,om,⟨HO.o.2⟩,?_⟩;exact⟨HF.o.symm.trans hg.o⟩));(case measure=>(simp[intOf];omega))));. have hne:¬((i:Int)=8):=om;(have c:((i:Int)==8)=false:=by simpa using hne);have HE:=aa e8;clear e8 hne;(by_cases hc:l[i].toNat<128);(. (by_cases h0:0<i/\l[i].toNat=0);(. (have u:=tc i n l hlt h0.1 h0.2 a);have HF:=aa u;clear u;have f:((l[i].toNat:Int)<128):=om;(have I:((l[i].toNat:Int)==0)=true:=by simp[h0.2]);have L:(0:Int)<(i:Int):=om;exact zbd);. have u:=uK i n l hlt a h8 hc h0;have HF:=aa u;clear u;have f:((l[i].toNat:Int)<128):=om;have g:=aa h8;have b:=aa h0;clear h0 hc h8;(go_wp2);all_goals first|(exfalso;have h8:=g.o;omega)|((exfalso;have h0:=b.o;have hz:(l[i].toNat:Int)=0:=by simpa using‹((l[i].toNat:Int)==0)=true›);omega)|((go_ret3);refine⟨?_,rfl⟩;rw[<-hg.o,HF.o,HO.o.1];rfl));. have u:=sw i n l hlt a h8 hc;have HF:=aa u;clear u;have f:((128:Int)<=(l[i].toNat:Int)):=om;have g:=aa h8;clear h8 hc;(go_wp2);all_goals first|(exfalso;have h8:=g.o;omega)|(go_round;(case rel=>(refine⟨i+1,n+l[i].toNat%128*128^i,by rw[HO.o.1],by go_num,om,om,⟨HO.o.2⟩,?_⟩;exact⟨HF.o.symm.trans hg.o⟩));(case measure=>(simp[intOf];omega))));. exact zde);. exact zde
def gN (l:Y0):Nat:=((lo l).map (·.1)).getD 0
def gK (l:Y0):Nat:=((lo l).map (·.2)).getD 0
def gE (l:Y0):Nat:=if(lo l).isSome then 0 else 2
theorem sX {l:Y0} (h:lo l=none):gN l=0/\gK l=0/\gE l=2:=by simp[gN,gK,gE,h]
theorem mK {l:Y0} {n k:Nat} (h:lo l=some (n,k)):gN l=n/\gK l=k/\gE l=0:=by simp[gN,gK,gE,h]
theorem GO (l:Y0):Ac (lo l)=.tuple #[gN l,gK l,gE l]:=by
 rcases h:lo l with _|⟨n,k⟩;. simp[Ac,sX h]
 . simp[Ac,mK h]
theorem tp (l:Y0):gK l<=l.length/\gK l<=9:=by
 rcases h:lo l with _|⟨n,k⟩;. simp[sX h]
 . rw[(mK h).2.1];have:=sD h;omega
theorem vB (l:Y0):gN l<4611686018427387904:=by
 rcases h:lo l with _|⟨n,k⟩;. simp[sX h]
 . rw[(mK h).1];exact Ip h
theorem vx (l:Y0):gE l=0\/gE l=2:=by
 unfold gE;split<;>simp
def sU (l:Y0):Prop:=gE l=0/\gN l<=4096/\gN l<=l.length-gK l
instance(l:Y0):Decidable (sU l):=by unfold sU;infer_instance
def tS (l:Y0):Y0:=if sU l then dm l (gK l) (gK l+gN l)else[]
def tK (l:Y0):Nat:=if sU l then gK l+gN l else 0
def tE (l:Y0):Nat:=if gE l≠0 then gE l else if 4096<gN l then 1 else if l.length-gK l<gN l then 2 else 0
theorem AG {l:Y0} (h:sU l):tS l=dm l (gK l) (gK l+gN l)/\tK l=gK l+gN l/\tE l=0:=by
 refine⟨if_pos h,if_pos h,?_⟩;unfold tE;rw[if_neg (by have:=h.1;omega),if_neg (by have:=h.2.1;omega),if_neg (by have:=h.2.2;omega)]
theorem xg {l:Y0} (h:¬sU l):tS l=[]/\tK l=0:=⟨if_neg h,if_neg h⟩
theorem FS (l:Y0):tK l<=l.length:=by
 by_cases h:sU l;. rw[(AG h).2.1];have:=h.2.2;have:=tp l;omega
 . rw[(xg h).2];omega
theorem Ji (l:Y0):tE l=0\/tE l=1\/tE l=2:=by
 have:=vx l;unfold tE;split;. omega
 . split;(. omega);. split<;>omega
theorem nr (l:Y0) (w:World) (hl:l.length<=1152921504606846976):Calls Ao 116 #[l] w λe w'=>e=.returned (.tuple #[gN l,gK l,gE l])/\w=w':=by
 rw[<-GO];exact JH l w hl
abbrev St:=Y0×Nat
def aD (q:St):Nat:=if q.2=0 then gN q.1 else 0
def ao (q:St):St:=if q.2=0 then(q.1.drop (gK q.1),gE q.1)else q
def cx (q:St):Y0:=if q.2=0 then tS q.1 else[]
def aS (q:St):St:=if q.2=0 then(q.1.drop (tK q.1),tE q.1)else q
def cu (n:Int) (q:St):Y0:=if q.2=0/\0<=n/\n<=q.1.length then q.1.take n.toNat else[]
def aN (n:Int) (q:St):St:=if q.2=0 then(if 0<=n/\n<=q.1.length then(q.1.drop n.toNat,0)else(q.1,2))else q
structure an (T:TypeId) (w:World) (g:Nat) (q:St):Prop where
 blk:ag w g T #[q.1,q.2]
 len:q.1.length<=1152921504606846976
 err:q.2<=2
theorem an.gr {T:TypeId} {w w':World} {g:Nat} {q:St} (h:an T w g q) (k:Gr w w'):an T w' g q:=⟨h.blk.below k.below h.blk.lt,h.len,h.err⟩
theorem an.other {T:TypeId} {w w':World} {g:Nat} {q:St} {row:Option Nat} (h:an T w g q) (k:w.grownBy w' row) (hne:some g≠row):an T w' g q:=⟨h.blk.grown k hne,h.len,h.err⟩
theorem ur (w:World) (g:Nat) (u v:Value):w.grownBy ((w.setCell (g,0) u).setCell (g,1) v) (some g):=
 ⟨rfl,rfl,rfl,by simp[World.setCell],λk _ hne=>by
  rw[Below.heap_setCell _ _ _ _ (λe=>hne (by rw[e])),Below.heap_setCell _ _ _ _ (λe=>hne (by rw[e]))]⟩
theorem uf (w:World) (g j:Nat) (u:Value):w.grownBy (w.setCell (g,j) u) (some g):=
 ⟨rfl,rfl,rfl,by simp[World.setCell],λk _ hne=>by
  rw[Below.heap_setCell _ _ _ _ (λe=>hne (by rw[e]))]⟩
theorem pD (w:World) (row:Option Nat):w.grownBy w row:=⟨rfl,rfl,rfl,Dg _,λ_ _ _=>rfl⟩
theorem aW (g:Nat) (q:St) (w:World) (h:an 196 w g q):Calls Ao 72 #[(g,0)] w λe w'=>e=.returned (aD q)/\an 196 w' g (ao q)/\w.grownBy w' (some g):=by
 obtain⟨s,Y⟩:=q;have Kd:=h.len;have U:w.cell? (g,0)=s:=h.blk.cell 0;have f:w.cell? (g,1)=Y:=h.blk.cell 1;have Kf:=h.blk.frozen 0;have Ld:=h.blk.frozen 1;have hk:=tp s;simp only at Kd;by_cases he:Y=0;. subst he;(go_enter Tryz.func72,Tryz.ntmps72);(go_wp2_with(go_at_call 116;refine(nr _ _ Kd).mono ?_;rintro e w1 ⟨rfl,rfl⟩));go_ret;refine⟨by simp[aD],⟨?_,?_,?_⟩,ur _ _ _ _⟩;(. (have:=(h.blk.set_ 0 (s.drop (gK s))).set_ 1 (gE s));simpa[ao]using this);(. simp[ao];omega);. simp[ao];have:=vx s;omega
 . (have a:((Y:Int)==0)=false:=zeX);(have R:((Y:Int)!=0)=true:=zeX);(go_enter Tryz.func72,Tryz.ntmps72);(go_wp2);go_ret;exact⟨by simp[aD,he],by simpa[ao,he]using h,pD _ _⟩
theorem fO {w w':World} (h:Gr w w') (row:Option Nat):w.grownBy w' row:=⟨h.below.os,h.below.tape,h.below.output,h.below.size,λk hk _=>h.below.block k hk⟩
theorem aM {a b c:World} {g:Nat} (h:a.grownBy b (some g)) (k:b.grownBy c (some g)):a.grownBy c (some g):=
 ⟨k.os.trans h.os,k.tape.trans h.tape,k.output.trans h.output,Nat.le_trans h.size k.size,λi hi hne=>(k.block i (Nat.lt_of_lt_of_le hi h.size) hne).trans (h.block i hi hne)⟩
theorem bG {a b c:World} {g:Nat} (h:Gr a b) (k:b.grownBy c (some g)) (hg:a.heap.size<=g):Gr a c:=h.grown k (λi hi=>by injection hi with hi;omega)
theorem iE (g:Nat) (q:St) (n:Int) (w:World) (h:an 196 w g q) (b:-9223372036854775808<=n/\n<=9223372036854775807):Calls Ao 75 #[(g,0),n] w λe w'=>e=.returned (cu n q)/\an 196 w' g (aN n q)/\w.grownBy w' (some g):=by
 obtain⟨s,Y⟩:=q;have Kd:=h.len;have U:w.cell? (g,0)=s:=h.blk.cell 0;have f:w.cell? (g,1)=Y:=h.blk.cell 1;have Kf:=h.blk.frozen 0;have Ld:=h.blk.frozen 1;simp only at Kd;by_cases he:Y=0;. subst he;by_cases hn:0<=n/\n<=(s.length:Int);(. obtain⟨Ki,Nb⟩:=hn;(go_enter Tryz.func75,Tryz.ntmps75);(go_wp2);go_ret;refine⟨by simp[cu,Ki,Nb],⟨?_,?_,?_⟩,uf _ _ _ _⟩;(. have:=h.blk.set_ 0 (s.drop n.toNat);simpa[aN,Ki,Nb]using this);(. simp[aN,Ki,Nb];omega);. simp[aN,Ki,Nb]);. have p:n<0\/(s.length:Int)<n:=om;rcases p with p|p;all_goals(go_enter Tryz.func75,Tryz.ntmps75);(go_wp2);go_ret;refine⟨by simp[cu,hn];try rfl,⟨?_,?_,?_⟩,uf _ _ _ _⟩;(. have:=h.blk.set_ 1 (.int .i64 2);simpa[aN,hn]using this);(. simp[aN,hn];omega);. simp[aN,hn]
 . (have a:((Y:Int)==0)=false:=zeX);(have R:((Y:Int)!=0)=true:=zeX);(go_enter Tryz.func75,Tryz.ntmps75);(go_wp2);go_ret;exact⟨by simp[cu,he];try rfl,by simpa[aN,he]using h,pD _ _⟩
theorem eS (g:Nat) (q:St) (w:World) (h:an 196 w g q):Calls Ao 76 #[(g,0)] w λe w'=>e=.returned q.1.length/\w=w':=by
 have U:w.cell? (g,0)=q.1:=h.blk.cell 0;go_enter Tryz.func76,Tryz.ntmps76
 go_wp2
 go_ret;exact⟨rfl,rfl⟩
theorem dD (g:Nat) (q:St) (w:World) (h:an 196 w g q):Calls Ao 74 #[(g,0)] w λe w'=>e=.returned q.2/\w=w':=by
 have f:w.cell? (g,1)=q.2:=h.blk.cell 1;go_enter Tryz.func74,Tryz.ntmps74
 go_wp2
 go_ret;exact⟨rfl,rfl⟩
theorem kY (l:Y0) (w:World) (hl:l.length<=1152921504606846976):Calls Ao 71 #[l] w λe w'=>e=.returned (w.heap.size,0)/\an 196 w' w.heap.size (l,0)/\Gr w w':=by
 go_enter Tryz.func71,Tryz.ntmps71
 go_wp2
 go_ret;exact⟨rfl,⟨ag.new _ _ _,hl,by simp⟩,(B4 _).alloc _⟩
theorem A.head:dZ 24 2:=⟨⟨_,Tryz.underlying24,rfl⟩,by kernel_rfl⟩
theorem A.wit:dZ 38 6:=⟨⟨_,Tryz.underlying38,rfl⟩,by kernel_rfl⟩
theorem A.cli:dZ 60 6:=⟨⟨_,Tryz.underlying60,rfl⟩,by kernel_rfl⟩
def a7 (n:Int) (r:Y0):Array Value:=#[n,r]
theorem DO (n:Int) (r:Y0):(a7 n r).all (·.oneCell')=true:=by simp[a7,Value.oneCell']
theorem cz:dZ 36 2:=⟨⟨_,Tryz.underlying36,rfl⟩,by kernel_rfl⟩
theorem E.file:cC 34 70 (.agg #[s_,s_,s_]) 3 48:=⟨Tryz.underlying34,by kernel_rfl,rfl,om⟩
def aO (w:World) (A:Yy) (n:Nat) (fs:List Fl):Prop:=ak w 3 A n (fs.flatMap ap)
theorem aO.gr {w w':World} {A:Yy} {n:Nat} {fs:List Fl} (h:aO w A n fs) (g:Gr w w'):aO w' A n fs:=ak.gr h g
theorem aO.len {w:World} {A:Yy} {n:Nat} {fs:List Fl} (h:aO w A n fs):fs.length=n:=ak.flen ap (λ_=>rfl) om h
theorem aO.cell {w:World} {A:Yy} {n:Nat} {fs:List Fl} (h:aO w A n fs) {i:Nat} (hi:i<fs.length):∃b off,A=some ⟨b,off,none⟩/\w.cell? ⟨b,off+i*3,none⟩=some (.string (bs fs[i].1))/\w.cell? ⟨b,off+i*3+1,none⟩=some (.string (bs fs[i].2.1))/\w.cell? ⟨b,off+i*3+2,none⟩=some (.string (bs fs[i].2.2)):=by
 obtain⟨b,off,e,_,hc⟩:=ak.fcell ap (λ_=>rfl) om h hi;exact zcg
def aI (A:Yy) (n cap:Nat) (fuse:Int):Value:=.agg #[(A,n,cap),fuse]
theorem rf (a b:Y0) (w:World):Calls Ao 159 #[a,b] w λe w'=>e=.returned (Lib.compareBytes a b)/\w'=w:=by
 have HC:ab (Calls Ao 194 #[a,b] w λe w'=>e=.returned (Lib.compareBytes a b)/\w'=w):=aa (by(have hr:∀w,(Extern.BytealgCompare.compare #[a,b]).run Ao w=.ok (Lib.compareBytes a b) w:=by intro w;have:=Lib.run_compareString (P:=Ao) (bs a) (bs b) w;rw[jM,jM]at this;exact this);(go_enter Tryz.func194,Tryz.ntmps194);(go_wp2);rw[run_callFunc_extern Tryz.func218 zc0 zc0 zc0 (e:=Extern.BytealgCompare.compare) zc0,hr];simp only[Result.andThen];rw[Oper.upon_value];(go_wp2);go_ret;exact⟨rfl,rfl⟩);go_enter Tryz.func159,Tryz.ntmps159
 go_wp2_with(go_at_call 194;refine Bo HC.o ?_;rintro e w1 ⟨rfl,rfl⟩)
 go_ret;exact⟨rfl,rfl⟩
theorem iH {t e ty:TypeId} {z:Value} {size f:Nat} (E:cC t e z size f) {B:Nat} {w:World} {A0:Yy} {n0 cap0:Nat} {xs:List Value} (N:w.ownsRow B e size (A0,n0,cap0) n0 xs) {A:Yy} {n c:Nat} {vs:List Value} (C:ak w size A n vs) (hA:A=none->n=0/\c=0) (h1:∀u∈vs,u.oneCell'=true) (i:(n0+n)*f<=140737488355328) (q:n0+n<=maxLen) (hB:B<=w.heap.size):∃U D w',(Builtin.append_ #[t,t] ty #[(A0,n0,cap0),(A,n,c)]).run Ao w=.ok (U,n0+n,D) w'/\w'.ownsRow B e size (.slice U (n0+n) D) (n0+n) (xs++vs)/\w.grownBy w' (Value.ownBlock (A0,n0,cap0)):=by
 obtain⟨Y,L,O,M,T⟩:=info_parts E.info;cases A with|none=>(obtain⟨rfl,rfl⟩:=hA rfl;have hv:vs=[]:=List.eq_nil_of_length_eq_zero (by have:=C.len;omega);subst hv;refine⟨A0,cap0,w,?_,by rw[List.append_nil];exact N,⟨rfl,rfl,rfl,Dg _,λ_ _ _=>rfl⟩⟩;exact run_append_owned_none w B t ty e Y size E.under L _ n0 xs N)|some ad=>((have l:∀j u,vs[j]?=some u->w.cell? (ad.add j)=some u:=zaK);obtain⟨J,w',hr,ho,hg,_⟩:=run_append_own (P:=Ao) w B t ty e Y z size f E.under L O M T E.zcells E.pos _ n0 xs N ad n c vs C.len l h1 q i hB;(rcases ho.2 with⟨rfl,h0⟩|⟨g,D,d,rfl,_⟩);(. exact⟨none,0,w',by rw[hr,h0],by rw[h0]at ho⊢;exact ho,hg⟩);. exact⟨_,_,w',hr,ho,hg⟩)
theorem lZ {o:Oper} {a:Act} {K:Act->World->Prop} {Q:Exit->Act->World->Prop} {t e:TypeId} {z:Value} {size f:Nat} (E:cC t e z size f) (s x:Operand)
 (ho:o.op=.call {callee:=.builtin .append,args:=#[s,x],argTypes:=#[t,t]}) {B:Nat} {w:World}
 {A0:Yy} {n0 cap0:Nat} {xs:List Value} (hs:a.eval s=.slice A0 n0 cap0) (N:w.ownsRow B e size (A0,n0,cap0) n0 xs)
 {A:Yy} {n c:Nat} {vs:List Value} (hx:a.eval x=.slice A n c) (C:ak w size A n vs) (hA:A=none->n=0/\c=0) (h1:∀u∈vs,u.oneCell'=true)
 (i:(n0+n)*f<=140737488355328) (q:n0+n<=maxLen) (hB:B<=w.heap.size)
 (h:∀U D w',w'.ownsRow B e size (U,n0+n,D) (n0+n) (xs++vs)->w.grownBy w' (Value.ownBlock (A0,n0,cap0))->K (a.put o.dst (.slice U (n0+n) D)) w'):o.wp Ao a w K Q:=by
 obtain⟨U,D,w',hr,h2,h3⟩:=iH (ty:=o.type) E N C hA h1 i q hB
 unfold Oper.wp execOp
 simp only[ho,resolve,invoke,builtin,Sem.run_bind,Sem.run_pure,Result.andThen_ok,List.map_toArray,List.map_cons,List.map_nil,hs,hx,hr]
 exact h U D w' h2 h3
theorem bQ {ops:Array Oper} {rest:List Oper} {o:Oper} {a:Act} {Q:Exit->Act->World->Prop} {t e:TypeId} {z:Value} {size f:Nat} (E:cC t e z size f) (G:o.guard=none) (s x:Operand)
 (ho:o.op=.call {callee:=.builtin .append,args:=#[s,x],argTypes:=#[t,t]}) {B:Nat} {w:World}
 {A0:Yy} {n0 cap0:Nat} {xs:List Value} (hs:a.eval s=.slice A0 n0 cap0) (N:w.ownsRow B e size (A0,n0,cap0) n0 xs)
 {A:Yy} {n c:Nat} {vs:List Value} (hx:a.eval x=.slice A n c) (C:ak w size A n vs) (hA:A=none->n=0/\c=0) (h1:∀u∈vs,u.oneCell'=true)
 (i:(n0+n)*f<=140737488355328) (q:n0+n<=maxLen) (hB:B<=w.heap.size)
 (h:∀U D w',w'.ownsRow B e size (U,n0+n,D) (n0+n) (xs++vs)->w.grownBy w' (Value.ownBlock (A0,n0,cap0))->wpList Ao ops Q rest (a.put o.dst (.slice U (n0+n) D)) w'):wpList Ao ops Q (o::rest) a w:=
 wpList_plain G λ_ hK=>lZ E s x ho hs N hx C hA h1 i q hB λU D w' h2 h3=>hK _ _ (h U D w' h2 h3)
theorem au {ops:Array Oper} {o:Oper} {a:Act} {K:Act->World->Prop} {Q:Exit->Act->World->Prop} {X:Prop} {t e:TypeId} {z:Value} {size f:Nat} (E:cC t e z size f) (G:o.guard=none) (s x:Operand)
 (ho:o.op=.call {callee:=.builtin .append,args:=#[s,x],argTypes:=#[t,t]}) {B:Nat} {w:World}
 {A0:Yy} {n0 cap0:Nat} {xs:List Value} (hs:a.eval s=.slice A0 n0 cap0) (N:w.ownsRow B e size (A0,n0,cap0) n0 xs)
 {A:Yy} {n c:Nat} {vs:List Value} (hx:a.eval x=.slice A n c) (C:ak w size A n vs) (hA:A=none->n=0/\c=0) (h1:∀u∈vs,u.oneCell'=true)
 (i:(n0+n)*f<=140737488355328) (q:n0+n<=maxLen) (hB:B<=w.heap.size)
 (h:∀U D w',w'.ownsRow B e size (U,n0+n,D) (n0+n) (xs++vs)->w.grownBy w' (Value.ownBlock (A0,n0,cap0))->K (a.put o.dst (.slice U (n0+n) D)) w'):
 if Region.wanted o (yielded ops a.tmps)=true then Oper.wp Ao o a w K Q else X:=by
 have hw:Region.wanted o (yielded ops a.tmps)=true:=by simp[Region.wanted,G]
 rw[if_pos hw]
 exact lZ E s x ho hs N hx C hA h1 i q hB h
theorem qn {fs:List Fl}:∀u∈fs.flatMap ap,u.oneCell'=true:=by
 intro u hu;obtain⟨f,_,h⟩:=List.mem_flatMap.1 hu
 simp[ap]at h;rcases h with rfl|rfl|rfl<;>rfl
theorem qj (fs:List Fl) (A:Yy) (n cap:Nat) (w:World) (hn:n<=1099511627776) (hx:aO w A n fs) (hA:A=none->n=0/\cap=0):Calls Ao 181 #[(A,n,cap)] w λe w'=>∃U D,e=.returned (U,n,D)/\w'.ownsRow w.heap.size 70 3 (.slice U n D) n (fs.flatMap ap)/\Gr w w':=by
 cases A with|none=>(obtain⟨rfl,rfl⟩:=hA rfl;have hl:=hx.len;obtain rfl:fs=[]:=List.eq_nil_of_length_eq_zero hl;(have hq:∀w,(eqGuard .eql 34 (.tmp 3) (.const n_) n_ n_).run Ao w=.ok () w:=zgN);(have hz:∀w,(binOp .eql 34 n_ n_).run Ao w=.ok true w:=λw=>Lib.run_eql_slice_nil w _ _ none 0 0 0 0 Tryz.underlying34);(go_enter Tryz.func181,Tryz.ntmps181);exact zcJ)|some ad=>(have hq:∀w,(eqGuard .eql 34 (.tmp 3) (.const n_) (.slice (some ad) n cap) n_).run Ao w=.ok () w:=zgN);(have hz:∀w,(binOp .eql 34 (.slice (some ad) n cap) n_).run Ao w=.ok false w:=λw=>Lib.run_eql_slice_nil w _ _ (some ad) n cap 0 0 Tryz.underlying34);have Ka:(0+n)*48<=140737488355328:=om;(have Kc:0+n<=maxLen:=zc1);have O:=aa hx;clear hx;(go_enter Tryz.func181,Tryz.ntmps181);(go_wp2_with(refine bQ E.file rfl (.tmp 5) (.tmp 6) rfl (B:=w.heap.size) (A0:=some ⟨w.heap.size,0,none⟩) (n0:=0) (cap0:=0) (xs:=[]) rfl (World.ownsRow_lit w #[] 0 (Dg _) (by simp) rfl) rfl (aO.gr O.o ((B4 w).alloc _)) hA qn Ka Kc (by simp) ?_;intro U c' w' N d));exact zaY
theorem ER {a b:Y0} (h:aR a b=true):aR b a=false:=by
 cases hb:aR b a;. rfl
 . have:=gA a b a h hb;rw[eY]at this;cases this
theorem vp {u:Y0} {f:Fl} {r:List Fl}:cE u (f::r)=(ea f&&aR u f.1&&cE f.1 r):=rfl
theorem nO (fs:List Fl) (A:Yy) (n cap:Nat) (f:Int) (w:World) (hn:n<=1099511627776) (hx:aO w A n fs) (hs:∀f∈fs,f.1.length<=1099511627776/\f.2.1.length<=1099511627776/\f.2.2.length<=1099511627776):Calls Ao 113 #[aI A n cap f] w λe w'=>e=.returned (aQ fs)/\Gr w w':=by
 unfold aI;have hl:=hx.len;by_cases Ko:n<=400;. have Kg:ab (aQ fs=cE [] fs):=aa (by unfold aQ;rw[decide_eq_true (show fs.length<=400 by omega),Bool.true_and]);rw[Kg.o];have F:¬(400:Int)<(n:Int):=om;(go_enter Tryz.func113,Tryz.ntmps113);(go_wp2_with fail);have Ka:=ag.new w 36 #[(A,n,cap),f];(have t:=(B4 w).alloc (.cells #[(A,n,cap),f] 36));obtain⟨J,H⟩:=zq (w.alloc (.cells #[(A,n,cap),f] 36));rw[<-H]at Ka t;rw[<-H];have O:=aa (hx.gr t);have HB:=aa Ka;have Kq:=aa hs;clear H hx Ka hs;(go_loopw [12,4,3] (λiv _ _ wr=>∃(i:Nat) (u:Y0),iv=.int .i64 (i:Int)/\i<=n/\ab (i=0/\u=[]\/∃j,i=j+1/\∃h:j<fs.length,u=fs[j].1)/\ab (cE [] fs=cE u (fs.drop i))/\Gr J wr) (λiv _ _ _=>n-(intOf iv).toNat));(case atStart=>exact⟨0,[],rfl,om,aa (.inl ⟨rfl,rfl⟩),aa rfl,B4 _⟩);case round=>obtain⟨i,u,rfl,hi,HL,HG,hg⟩:=hrel;by_cases hlt:i<n;(. have o:i<fs.length:=om;have Ki:(i:Int)<(n:Int):=om;have hsz:=Kq.o fs[i] (List.getElem_mem o);have Kd:=HG.o;rw[List.drop_eq_getElem_cons o,vp]at Kd;(obtain⟨b,off,rfl,e0,e1,e2⟩:=(O.o.gr hg).cell o);have Kw:ab (∃h:i<fs.length,fs[i].1=fs[i].1):=aa ⟨o,rfl⟩;obtain⟨x,hx⟩:=zq (fs[i]);have C:ab (i+1=0/\x.1=[]\/∃j,i+1=j+1/\∃h:j<fs.length,x.1=fs[j].1):=aa (.inr ⟨i,rfl,o,by rw[hx]⟩);rw[<-hx]at e0 e1 e2 hsz Kd;clear hx Kw;obtain⟨nm,z,v⟩:=x;simp only at e0 e1 e2 hsz Kd C;have N:=aa Kd;have HN:=aa (λw=>lF nm w om);obtain⟨h1,h2,h3⟩:=hsz;have W:=aa o;clear Kd o;have D:=HL.o;rcases D with⟨rfl,rfl⟩|⟨j,hj,B,Kk⟩;(. rw[show((0:Nat):Int)=0 from rfl]at Ki;rw[show((0:Nat):Int)=0 from rfl];simp only[Nat.zero_mul,Nat.add_zero]at e0 e1 e2;cases hnb:em nm with|false=>have HF:ab (cE [] fs=false):=aa zh4;rw[hnb]at HN;clear hnb;exact zcl|true=>rw[hnb]at HN;have Z:aR [] nm=true:=qE (ut hnb);by_cases Lq:z.length<=1048576;(. have q3:decide ((1048576:Int)<(z.length:Int))=false:=decide_eq_false om;by_cases Lz:z.length+v.length<=1048576;(. have q4:decide ((1048576:Int)-(z.length:Int)<(v.length:Int))=false:=decide_eq_false om;have K:ab (cE [] fs=cE nm (fs.drop (0+1))):=aa zgm;clear hnb Z Lq Lz;(go_wp2_with fail);have r:=ag.new wr 70 #[nm,z,v];have a:=((HB.o.gr hg).alloc (.cells #[nm,z,v] 70));have y:=hg.alloc (.cells #[nm,z,v] 70);obtain⟨wx,R⟩:=zq (wr.alloc (.cells #[nm,z,v] 70));obtain⟨q,hq⟩:=zq (wr.heap.size);rw[<-R]at r a y;rw[<-hq]at r;rw[<-R,<-hq];have c:=aa r;have g:=aa a;clear R hq r a e0 e1 e2;refine aU 3 zc0 dc0 zc0 (λwd hwd=>?_);simp only[List.take_succ_cons,List.take_zero,List.drop_succ_cons,List.drop_zero];(have gd:Gr wx wd:=zeS);clear hwd;(have S:wd.cell? (q,0)=nm:=(c.o.gr gd).cell 0);(go_wp2_with(go_at_call 156;refine(HN.o _).mono ?_;rintro e w1 ⟨rfl,I⟩;have l:Gr wx w1:=gd.trans I));(have Kr:w1.cell? (q,0)=nm:=(c.o.gr l).cell 0);(have Kt:w1.cell? (q,1)=z:=(c.o.gr l).cell 1);(have Kv:w1.cell? (q,2)=v:=(c.o.gr l).cell 2);(have s:w1.cell? ⟨w.heap.size,0,none⟩=((b,off),n,cap):=(g.o.gr l).cell 0);simp only[iZ];clear I gd S;(repeat(go_big_quiet_step (fail)));refine wpQuiet_nil ?_;intro _ M;obtain⟨nq,E⟩:=M;subst E;have G:Gr wx (w1.drewN nq):=Gr.drewN l nq;(go_wp2_with fail);(go_roundw);(case rel=>exact⟨0+1,nm,rfl,om,C,K,y.trans G⟩);case measure=>simp[intOf];omega);. have q4:(1048576:Int)-(z.length:Int)<(v.length:Int):=om;have hd:decide (z.length<=1048576/\z.length+v.length<=1048576)=false:=decide_eq_false (λh=>Lz h.2);have HF:ab (cE [] fs=false):=aa zfu;clear hnb Z hd Lq Lz;exact zcl);. have q3:(1048576:Int)<(z.length:Int):=om;have hd:decide (z.length<=1048576/\z.length+v.length<=1048576)=false:=decide_eq_false (λh=>Lq h.1);have HF:ab (cE [] fs=false):=aa zfu;clear hnb Z hd Lq;exact zcl);. have T:(i:Int)-1=(j:Int):=om;have L:0<i:=om;have V:(j:Int)<(n:Int):=om;(have p0:wr.cell? ⟨b,off+j*3,none⟩=u:=by(obtain⟨b',Kl,e,h0,_,_⟩:=(O.o.gr hg).cell B);injection e with e;injection e with e3 e4 _;subst e3 e4;rw[Kk];exact h0);have Q:b<wr.heap.size:=World.block_lt_of_cell? wr _ p0;have m:=aa (And.intro T L);clear Kk T hj L;cases hnb:em nm with|false=>have HF:ab (cE [] fs=false):=aa zh4;rw[hnb]at HN;clear hnb;exact zaa|true=>(rw[hnb]at HN;cases Z:aR u nm with|false=>have HF:ab (cE [] fs=false):=aa (by rw[N.o];unfold ea;rw[Z];simp);have q1:Op.bytesLess u nm=false:=Z;clear hnb Z;exact zaa|true=>have q1:Op.bytesLess u nm=true:=Z;by_cases Lq:z.length<=1048576;(. have q3:decide ((1048576:Int)<(z.length:Int))=false:=decide_eq_false om;by_cases Lz:z.length+v.length<=1048576;(. have q4:decide ((1048576:Int)-(z.length:Int)<(v.length:Int))=false:=decide_eq_false om;have K:ab (cE [] fs=cE nm (fs.drop (i+1))):=aa zgm;clear hnb Z Lq Lz;(go_wp2_with fail);have r:=ag.new wr 70 #[nm,z,v];have a:=((HB.o.gr hg).alloc (.cells #[nm,z,v] 70));have y:=hg.alloc (.cells #[nm,z,v] 70);(have k:=(World.cell?_alloc_lt wr (.cells #[nm,z,v] 70) ⟨b,off+j*3,none⟩ Q).trans p0);(have d:b<(wr.alloc (.cells #[nm,z,v] 70)).heap.size:=by rw[World.size_alloc];omega);obtain⟨wx,R⟩:=zq (wr.alloc (.cells #[nm,z,v] 70));obtain⟨q,hq⟩:=zq (wr.heap.size);rw[<-R]at r a y k d;rw[<-hq]at r;rw[<-R,<-hq];have c:=aa r;have g:=aa a;clear R hq r a e0 e1 e2 p0 Q;refine aU 3 zc0 dc0 zc0 (λwd hwd=>?_);simp only[List.take_succ_cons,List.take_zero,List.drop_succ_cons,List.drop_zero];(have gd:Gr wx wd:=zeS);clear hwd;(have S:wd.cell? (q,0)=nm:=(c.o.gr gd).cell 0);(go_wp2_with(go_at_call 156;refine(HN.o _).mono ?_;rintro e w1 ⟨rfl,I⟩;have l:Gr wx w1:=gd.trans I));(have Kr:w1.cell? (q,0)=nm:=(c.o.gr l).cell 0);(have Kt:w1.cell? (q,1)=z:=(c.o.gr l).cell 1);(have Kv:w1.cell? (q,2)=v:=(c.o.gr l).cell 2);(have s:w1.cell? ⟨w.heap.size,0,none⟩=((b,off),n,cap):=(g.o.gr l).cell 0);obtain⟨T,L⟩:=m.o;(have p:w1.cell? ⟨b,off+j*3,none⟩=u:=(l.cells.1 b _ d).trans k);simp only[iZ];clear I gd S;(repeat(go_big_quiet_step (fail)));refine wpQuiet_nil ?_;intro _ M;obtain⟨nq,E⟩:=M;subst E;have G:Gr wx (w1.drewN nq):=Gr.drewN l nq;clear T L;(go_wp2_with fail);(go_roundw);(case rel=>exact⟨i+1,nm,by go_num,om,C,K,y.trans G⟩);case measure=>simp[intOf];omega);. have q4:(1048576:Int)-(z.length:Int)<(v.length:Int):=om;have hd:decide (z.length<=1048576/\z.length+v.length<=1048576)=false:=decide_eq_false (λh=>Lz h.2);have HF:ab (cE [] fs=false):=aa zfu;clear hnb Z hd Lq Lz;exact zaa);. have q3:(1048576:Int)<(z.length:Int):=om;have hd:decide (z.length<=1048576/\z.length+v.length<=1048576)=false:=decide_eq_false (λh=>Lq h.1);have HF:ab (cE [] fs=false):=aa zfu;clear hnb Z hd Lq;exact zaa));. obtain rfl:i=n:=om;have HF:ab (cE [] fs=true):=aa (by rw[HG.o,List.drop_eq_nil_of_le om];rfl);clear hlt hi;(go_wp2_with fail);go_ret;exact⟨by rw[HF.o];rfl,t.trans hg⟩
 . have Kg:ab (aQ fs=false):=aa (by unfold aQ;rw[decide_eq_false (λh=>Ko om),Bool.false_and]);rw[Kg.o];have F:(400:Int)<(n:Int):=om;clear hx hl;(go_enter Tryz.func113,Tryz.ntmps113);(go_wp2_with fail);go_ret;exact⟨rfl,(B4 w).alloc _⟩
def bJ (name:Y0) (fs:List Fl):Nat:=(fs.takeWhile (λf=>aR f.1 name)).length
def cS (name:Y0) (fs:List Fl):Bool:=fs.any (λf=>f.1==name)
abbrev cd (fs:List Fl):Prop:=fs.Pairwise (λf g=>aR f.1 g.1=true)
theorem oy (name:Y0) (fs:List Fl):bJ name fs<=fs.length:=by
 unfold bJ;exact(List.takeWhile_sublist _).length_le
theorem sI (name:Y0):∀(fs:List Fl) (i:Nat),i<=fs.length->(∀m (hm:m<fs.length),m<i->aR fs[m].1 name=true)->(∀hm:i<fs.length,aR fs[i].1 name=false)->bJ name fs=i
 |[],i,hi,_,_=>by
  have:i=0:=zfh
  subst this;rfl
 |f::r,0,hi,_,h2=>by
  have:=h2 (by simp)
  simp only[List.getElem_cons_zero]at this
  unfold bJ
  rw[List.takeWhile_cons,this];rfl
 |f::r,i+1,hi,h1,h2=>by
  have h0:=h1 0 (by simp) om
  simp only[List.getElem_cons_zero]at h0
  have J:=sI name r i zfh (λm hm hl=>by have:=h1 (m+1) zc4 om;simpa using this)
   (λhm=>by have:=h2 zc4;simpa using this)
  unfold bJ at J⊢
  rw[List.takeWhile_cons,h0]
  simp[J]
theorem cd.get {fs:List Fl} (h:cd fs) {i j:Nat} (hj:j<fs.length) (T:i<j):aR (fs[i]'om).1 fs[j].1=true:=
 List.pairwise_iff_getElem.1 h i j om hj T
theorem cd.below {fs:List Fl} (h:cd fs) {name:Y0} {i j:Nat} (hj:j<fs.length) (T:i<=j) (hl:aR fs[j].1 name=true):aR (fs[i]'om).1 name=true:=by
 exact zbP
theorem cd.above {fs:List Fl} (h:cd fs) {name:Y0} {i j:Nat} (hj:j<fs.length) (T:i<=j) (hl:aR (fs[i]'om).1 name=false):aR fs[j].1 name=false:=by
 exact zbK
theorem I1 {fs:List Fl} (h:cd fs) {name:Y0} {i:Nat} (h1:∀m (hm:m<fs.length),m<i->aR fs[m].1 name=true) (hi:i<fs.length) (h2:aR fs[i].1 name=false):cS name fs=(fs[i].1==name):=by
 unfold cS;exact zaL
theorem Ap {fs:List Fl} {name:Y0} {i:Nat} (h1:∀m (hm:m<fs.length),m<i->aR fs[m].1 name=true) (hi:fs.length<=i):cS name fs=false:=by
 unfold cS;exact zbb
theorem kO {fs:List Fl} {name:Y0} (h:cd fs) (hh:cS name fs=true):∃hi:bJ name fs<fs.length,fs[bJ name fs].1=name:=by
 obtain⟨f,hf,hn⟩:=List.any_eq_true.1 hh
 obtain⟨m,hm,rfl⟩:=List.getElem_of_mem hf;have j:fs[m].1=name:=by simpa using hn
 have:bJ name fs=m:=sI name fs m om (λk hk hl=>by rw[<-j];exact h.get hm hl) (λ_=>by rw[j];exact eY _);refine⟨om,?_⟩;simp only[this];exact j
def xZ (a b:Y0):Int:=Lib.compareBytes a b
theorem sP (nm z v name:Y0) (w:World):Calls Ao 158 #[.agg #[nm,z,v],name] w λe w'=>e=.returned (xZ nm name)/\Gr w w':=by
 go_enter Tryz.func158,Tryz.ntmps158
 exact zbp
theorem yU (fs:List Fl) (name:Y0) (A:Yy) (n cap:Nat) (w:World) (hn:n<=1099511627776) (hx:aO w A n fs) (s:cd fs):Calls Ao 157 #[(A,n,cap),name,.func (.func 158) #[] #[]] w λe w'=>e=.returned (.tuple #[bJ name fs,cS name fs])/\Gr w w':=by
 have hl:=hx.len;have O:=aa hx;have HS:=aa s;have eg:∀args w,(callFunc 158 args).run Ao w=.ok (.enter 158 args) w:=eV Tryz.func158 zc0 rfl
 clear hx s;go_enter Tryz.func157,Tryz.ntmps157
 go_wp2_with fail
 go_loopw [9,10,11] (λiv jv _ wr=>∃i j:Nat,iv=.int .i64 (i:Int)/\jv=.int .i64 (j:Int)/\i<=j/\j<=n/\ab (∀m (hm:m<fs.length),m<i->aR fs[m].1 name=true)/\ab (∀m (hm:m<fs.length),j<=m->aR fs[m].1 name=false)/\Gr w wr) (λiv jv _ _=>(intOf jv).toNat-(intOf iv).toNat)
 case atStart=>exact⟨0,n,rfl,rfl,om,om,aa (λm hm h=>om),aa (λm hm h=>om),B4 _⟩
 case round=>obtain⟨i,j,rfl,rfl,T,hj,f,Y,hg⟩:=hrel;by_cases hlt:i<j;(. have Ki:(i:Int)<(j:Int):=om;obtain⟨h,hh⟩:=zq ((i+j)/2);have q1:((i:Int)+(j:Int))/2=(h:Int):=om;have d:i<=h:=om;have k:h<j:=om;have l:(h:Int)<(n:Int):=om;have hhf:h<fs.length:=om;(obtain⟨b,off,rfl,e0,e1,e2⟩:=(O.o.gr hg).cell hhf);have HH:ab (fs[h]=fs[h]):=aa rfl;have Il:ab (aR fs[h].1 name=true->∀m (hm:m<fs.length),m<h+1->aR fs[m].1 name=true):=aa (λhb m hm hl=>HS.o.below hhf om hb);have c:ab (aR fs[h].1 name=false->∀m (hm:m<fs.length),h<=m->aR fs[m].1 name=false):=aa (λhb m hm hl=>HS.o.above hm hl hb);obtain⟨x,P⟩:=zq (fs[h]);rw[<-P]at e0 e1 e2 Il c;clear P HH hh hhf;obtain⟨nm,z,v⟩:=x;simp only at e0 e1 e2 Il c;have HC:=aa (λw=>sP nm z v name w);(have Kq:=(pO nm name).1);cases hb:aR nm name with|true=>(have q2:xZ nm name<0:=Kq.2 hb);exact zcG|false=>(have q2:¬xZ nm name<0:=λh=>by rw[Kq.1 h]at hb;cases hb);exact zdx);. obtain rfl:i=j:=om;by_cases p:i<n;(. have o:i<fs.length:=om;have Ki:(i:Int)<(n:Int):=om;have HL:ab (bJ name fs=i):=aa (sI name fs i om f.o (λh=>Y.o i h (Dg _)));have HE:ab (cS name fs=(fs[i].1==name)):=aa (I1 HS.o f.o o (Y.o i o (Dg _)));(obtain⟨b,off,rfl,e0,e1,e2⟩:=(O.o.gr hg).cell o);obtain⟨x,P⟩:=zq (fs[i]);rw[<-P]at e0 e1 e2 HE;clear P o hlt;obtain⟨nm,z,v⟩:=x;simp only at e0 e1 e2 HE;have HC:=aa (λw=>sP nm z v name w);(have Kq:=(pO nm name).2);cases hb:nm==name with|true=>(have q2:xZ nm name=0:=Kq.2 zfT);exact zaG|false=>(have q2:(xZ nm name==0)=false:=beq_eq_false_iff_ne.2 (λh=>by rw[Kq.1 h]at hb;simp at hb));exact zaG);. obtain rfl:i=n:=om;have HL:ab (bJ name fs=i):=aa (sI name fs i om f.o (λh=>om));have HE:ab (cS name fs=false):=aa (Ap f.o om);exact zd2
theorem ef (fs:List Fl) (name:Y0) (A:Yy) (n cap:Nat) (f:Int) (w:World) (hn:n<=1099511627776) (hx:aO w A n fs) (s:cd fs):Calls Ao 114 #[aI A n cap f,name] w λe w'=>e=.returned (.tuple #[bJ name fs,cS name fs])/\Gr w w':=by
 unfold aI;have t:=(B4 w).alloc (.cells #[(A,n,cap),f] 36)
 have HC:=aa (yU fs name A n cap _ hn (hx.gr t) s);clear hx s;go_enter Tryz.func114,Tryz.ntmps114
 go_wp2_with(go_at_call 157;refine Bo HC.o ?_;rintro e w1 ⟨rfl,I⟩)
 go_ret2;exact⟨rfl,t.trans I⟩
theorem ew {fs:List Fl} (h:aQ fs=true):cd fs:=by
 unfold aQ at h;rw[Bool.and_eq_true]at h;exact(jq fs [] h.2).2
theorem kZ {fs:List Fl} (h:aQ fs=true):fs.length<=400:=by
 unfold aQ at h;rw[Bool.and_eq_true]at h;exact of_decide_eq_true h.1
theorem iK {fs:List Fl} (h:aQ fs=true):∀f∈fs,em f.1=true/\f.2.1.length<=1048576/\f.2.1.length+f.2.2.length<=1048576:=by
 unfold aQ at h;rw[Bool.and_eq_true]at h;intro f hf;have:=((jq fs [] h.2).1 f hf).2
 unfold ea at this;rw[Bool.and_eq_true]at this;exact⟨this.1,of_decide_eq_true this.2⟩
def uq (name:Y0) (fs:List Fl):Int:=if cS name fs then(bJ name fs:Int)else-1
def du (fs:List Fl) (name:Y0):Y0×Int:=
 if aQ fs then(if cS name fs then((fs.getD (bJ name fs) ([],[],[])).2.1++(fs.getD (bJ name fs) ([],[],[])).2.2,0)else([],7))else([],3)
theorem wX (fs:List Fl) (name:Y0) (A:Yy) (n cap:Nat) (f:Int) (w:World) (hn:n<=1099511627776) (hx:aO w A n fs) (hs:∀f∈fs,f.1.length<=1099511627776/\f.2.1.length<=1099511627776/\f.2.2.length<=1099511627776):Calls Ao 69 #[aI A n cap f,name] w λe w'=>e=.returned (.tuple #[(du fs name).1,.int .i64 (du fs name).2])/\Gr w w':=by
 have t:=(B4 w).alloc (.cells #[(A,n,cap),f] 36)
 have Ka:=ag.new w 36 #[(A,n,cap),f];have HG:=aa (nO fs A n cap f _ hn (hx.gr t) hs);have hl:=hx.len;have O:=aa (hx.gr t);clear hx;obtain⟨J,H⟩:=zq (w.alloc (.cells #[(A,n,cap),f] 36));rw[<-H]at t Ka HG O;obtain⟨p,V⟩:=zq (w.heap.size);rw[<-V]at Ka;have c0:J.cell? (p,0)=(A,n,cap):=Ka.cell 0;have c1:J.cell? (p,1)=f:=Ka.cell 1;have HB:=aa Ka;have Kq:=aa hs;clear Ka hs;unfold aI at HG;unfold aI;cases hgf:aQ fs with|false=>have HR:ab (du fs name=([],3)):=aa (by unfold du;rw[hgf];rfl);rw[HR.o];rw[hgf]at HG;clear hgf;(go_enter Tryz.func69,Tryz.ntmps69);(go_wp2_with(first|(rw[<-H,<-V];clear H V;go_wp2_with fail)|(go_at_call 113;refine Bo HG.o ?_;rintro e w1 ⟨rfl,I⟩)));go_ret2;exact⟨rfl,t.trans I⟩|true=>(have HS:=aa (ew hgf);rw[hgf]at HG;cases hhf:cS name fs with|false=>have HR:ab (du fs name=([],7)):=aa (by unfold du;rw[hgf,hhf];rfl);rw[HR.o];(have Mg:uq name fs=-1:=by unfold uq;rw[hhf];rfl);clear hgf;(go_enter Tryz.func69,Tryz.ntmps69);(go_wp2_with(first|(rw[<-H,<-V];clear H V;go_wp2_with fail)|(go_at_call 113;refine Bo HG.o ?_;rintro e w1 ⟨rfl,I⟩;have Kr:w1.cell? (p,0)=(A,n,cap):=(HB.o.gr I).cell 0;have Kt:w1.cell? (p,1)=f:=(HB.o.gr I).cell 1)|(go_at_call 114;refine Bo (ef fs name A n cap f _ hn (O.o.gr I) HS.o) ?_;rw[hhf];rintro e w2 ⟨rfl,Z⟩)));go_ret2;exact⟨rfl,t.trans (I.trans Z)⟩|true=>(have hlt:=kO HS.o hhf;obtain⟨k,hk⟩:=zq (bJ name fs);(have Mg:uq name fs=k:=by unfold uq;rw[hhf,hk];rfl);rw[<-hk]at hlt;obtain⟨a,La⟩:=hlt;have C:(k:Int)<(n:Int):=om;obtain⟨b,off,rfl,e0,e1,e2⟩:=O.o.cell a;have HR:ab (du fs name=(fs[k].2.1++fs[k].2.2,0)):=aa (by unfold du;rw[hgf,hhf,if_pos rfl,if_pos rfl,<-hk,List.getD_eq_getElem?_getD,List.getElem?_eq_getElem a];rfl);have hsz:=iK hgf fs[k] (List.getElem_mem a);obtain⟨x,P⟩:=zq (fs[k]);rw[<-P]at e0 e1 e2 HR hsz;have HK:=aa hk;clear P a La hgf hk;obtain⟨nm,z,v⟩:=x;simp only at e0 e1 e2 HR hsz;obtain⟨_,M,T⟩:=hsz;have Q:b<J.heap.size:=World.block_lt_of_cell? J _ e1;have E1:ab (∀w2,Gr J w2->w2.cell? (b,off+k*3+1)=z):=aa (λw2 g=>(g.cells.1 b _ Q).trans e1);have E2:ab (∀w2,Gr J w2->w2.cell? (b,off+k*3+2)=v):=aa (λw2 g=>(g.cells.1 b _ Q).trans e2);clear e0 e1 e2 Q;rw[HR.o];(go_enter Tryz.func69,Tryz.ntmps69);(go_wp2_with(first|(rw[<-H,<-V];clear H V;go_wp2_with fail)|(go_at_call 113;refine Bo HG.o ?_;rintro e w1 ⟨rfl,I⟩;have Kr:w1.cell? (p,0)=((b,off),n,cap):=(HB.o.gr I).cell 0;have Kt:w1.cell? (p,1)=f:=(HB.o.gr I).cell 1)|(go_at_call 114;refine Bo (ef fs name (some (b,off)) n cap f _ hn (O.o.gr I) HS.o) ?_;rw[hhf,<-HK.o];rintro e w2 ⟨rfl,Z⟩;have c:Gr J w2:=I.trans Z;have d:w2.cell? (p,0)=((b,off),n,cap):=(HB.o.gr c).cell 0;have h:w2.cell? (b,off+k*3+1)=z:=E1.o w2 c;have Eq:w2.cell? (b,off+k*3+2)=v:=E2.o w2 c)));(go_quiet (fail));(go_wp2_with fail);go_ret2;exact⟨rfl,t.trans (c.drewN _)⟩))
theorem Jq (x:UInt32):(x.toNat:Int)%4294967296=(x.toNat:Int):=by have:=x.toNat_lt;omega
attribute [go_sem] Jq
def bn (fs:List Fl) (f keep:Int):List Fl×Int×Int:=
 if aQ fs=true/\0<=keep then(fs.map (ed keep.toNat),-1,0)else(fs,f,3)
def eG (K i:Nat) (fs:List Fl):List Fl:=(fs.take i).map (ed K)++fs.drop i
theorem wL (K:Nat) (fs:List Fl):eG K 0 fs=fs:=by simp[eG]
theorem zd (K:Nat) (fs:List Fl):eG K fs.length fs=fs.map (ed K):=by simp[eG]
theorem nW (K i:Nat) (fs:List Fl):(eG K i fs).length=fs.length:=by simp[eG];omega
theorem rh (K i:Nat) (fs:List Fl) (h:i<fs.length):(eG K i fs)[i]'(by rw[nW];exact h)=fs[i]:=by
 unfold eG;rw[List.getElem_append_right zf4];rw[List.getElem_drop];congr 1;rw[List.length_map,List.length_take];omega
theorem vJ (K i:Nat) (fs:List Fl) (h:i<fs.length):eG K (i+1) fs=(eG K i fs).set i (ed K fs[i]):=by
 unfold eG;rw[List.set_append_right _ _ zf4];rw[List.take_succ_eq_append_getElem h,List.map_append,List.drop_eq_getElem_cons h];rw[List.length_map,List.length_take,Nat.min_eq_left (Nat.le_of_lt h),Nat.sub_self,List.set_cons_zero,List.append_assoc];rfl
theorem eJ {w:World} {B B' e size n:Nat} {v:Value} {xs:List Value} (h:w.ownsRow B e size v n xs) (z:B'<=B):w.ownsRow B' e size v n xs:=by
 exact zaN
theorem oh {w:World} {B e size n cap g:Nat} {xs:List Value} (h:w.ownsRow B e size ((g,0),n,cap) n xs) (j:Nat) (hj:j<xs.length) (u:Value):(w.setCell (g,j) u).ownsRow B e size ((g,0),n,cap) n (xs.set j u):=by
 have hl:=h.1
 refine⟨by rw[List.length_set];exact hl,?_⟩;rcases h.2 with⟨h0,_⟩|⟨g',D,d,hv,hB,hh,z,hm,hs,ht⟩
 . cases h0
 . injection hv with hv p a;injection hv with hv;injection hv with hv _ _;subst hv a;(refine .inr ⟨g,cap,d.setIfInBounds j u,rfl,hB,?_,z,hm,by rw[Array.size_setIfInBounds];exact hs,?_⟩);(. have:ag w g e d:=hh;exact this.set_ j u);. rw[Array.toList_setIfInBounds,List.take_set,ht]
theorem pd (fs:List Fl):∀(i:Nat) (h:i<fs.length) (j:Nat) (u:Value) (m:Fl),j<3->ap m=(ap fs[i]).set j u->(fs.flatMap ap).set (i*3+j) u=(fs.set i m).flatMap ap:=by
 induction fs with|nil=>intro i h;simp at h|cons f r J=>(intro i h j u m hj he;cases i with|zero=>simp only[List.getElem_cons_zero]at he;rw[List.flatMap_cons,List.set_append_left _ _ zg9,Nat.zero_mul,Nat.zero_add,<-he];rfl|succ i=>simp only[List.getElem_cons_succ]at he;have:=J i zfc j u m hj he;rw[List.flatMap_cons,List.set_append_right _ _ zg9,List.set_cons_succ,List.flatMap_cons,<-this];congr 2;simp[ap];omega)
theorem p8 {w:World} {B e n cap g:Nat} {fs:List Fl} (h:w.ownsRow B e 3 ((g,0),n,cap) n (fs.flatMap ap)) (i:Nat) (nm z v s t:Y0) (hi:fs[i]?=some (nm,z,v)):((w.setCell (g,i*3+1) s).setCell (g,i*3+2) t).ownsRow B e 3 ((g,0),n,cap) n ((fs.set i (nm,s,t)).flatMap ap):=by
 obtain⟨hl,hg⟩:=List.getElem?_eq_some_iff.1 hi
 have T:(fs.flatMap ap).length=fs.length*3:=cW ap 3 (λ_=>rfl) fs
 have o1:=oh h (i*3+1) zfR s;rw[pd fs i hl 1 s (nm,s,v) om (by rw[hg];rfl)]at o1;have a:((fs.set i (nm,s,v)).flatMap ap).length=fs.length*3:=by rw[cW ap 3 (λ_=>rfl),List.length_set]
 have o2:=oh o1 (i*3+2) (by rw[a];omega) t;rw[pd (fs.set i (nm,s,v)) i (by rw[List.length_set];exact hl) 2 t (nm,s,t) om (by rw[List.getElem_set_self];rfl),List.set_set]at o2;exact o2
theorem sF (fs:List Fl) (A:Yy) (n cap:Nat) (f keep:Int) (w:World) (hn:n<=1099511627776) (hx:aO w A n fs) (hA:A=none->n=0/\cap=0) (hs:∀f∈fs,f.1.length<=1099511627776/\f.2.1.length<=1099511627776/\f.2.2.length<=1099511627776):Calls Ao 145 #[aI A n cap f,keep] w λe w'=>∃U D,e=.returned (.tuple #[aI U n D (bn fs f keep).2.1,.int .i64 (bn fs f keep).2.2])/\aO w' U n (bn fs f keep).1/\Gr w w'/\((U=A/\D=cap)\/w'.ownsRow w.heap.size 70 3 (U,n,D) n ((bn fs f keep).1.flatMap ap)):=by
 have t:=((B4 w).alloc (.cells #[(A,n,cap),f] 36)).alloc (.cells #[n_,i0] 36)
 have Ka:=(ag.new w 36 #[(A,n,cap),f]).alloc (.cells #[n_,i0] 36)
 have Kc:=ag.new1 w (.cells #[(A,n,cap),f] 36) 36 #[n_,i0];have HG:=aa (nO fs A n cap f _ hn (hx.gr t) hs);have hl:=hx.len;have O:=aa (hx.gr t);obtain⟨J,H⟩:=zq ((w.alloc (.cells #[(A,n,cap),f] 36)).alloc (.cells #[n_,i0] 36));rw[<-H]at t Ka Kc HG O;obtain⟨p,V⟩:=zq (w.heap.size);have Kd:w.heap.size<=p:=om;rw[<-V]at Ka Kc;have c0:J.cell? (p,0)=(A,n,cap):=Ka.cell 0;have c1:J.cell? (p,1)=f:=Ka.cell 1;have HB:=aa Ka;have Kj:=aa Kc;have Lc:=aa hx;clear Ka Kc hs hx;unfold aI at HG;unfold aI;by_cases Il:aQ fs=true/\0<=keep;. have HR:ab (bn fs f keep=(fs.map (ed keep.toNat),-1,0)):=aa (by unfold bn;rw[if_pos Il]);rw[HR.o];obtain⟨hgf,hk0⟩:=Il;have hsz:=iK hgf;rw[hgf]at HG;have q1:decide (keep<0)=false:=decide_eq_false om;clear hgf;obtain⟨K,rfl⟩:∃K:Nat,keep=(K:Int):=⟨keep.toNat,om⟩;rw[Int.toNat_natCast];(go_enter Tryz.func145,Tryz.ntmps145);(go_wp2_with(first|(rw[<-H,<-V];clear H V;go_wp2_with fail)|(go_at_call 113;refine Bo HG.o ?_;rintro e w1 ⟨rfl,I⟩;have Kr:w1.cell? (p,0)=(A,n,cap):=(HB.o.gr I).cell 0)|(go_at_call 181;refine Bo (qj fs A n cap _ hn (O.o.gr I) hA) ?_;rintro e w2 ⟨U,D,rfl,N,Z⟩)));have y:=I.trans Z;(have Ka:=(HB.o.gr y).alloc (.cells #[(U,n,D),.int .i64 (-1)] 36));(have Kc:=(Kj.o.gr y).alloc (.cells #[(U,n,D),.int .i64 (-1)] 36));have Ks:=ag.new w2 36 #[(U,n,D),.int .i64 (-1)];have G:=y.alloc (.cells #[(U,n,D),.int .i64 (-1)] 36);have Q:=av N ((B4 w2).alloc (.cells #[(U,n,D),.int .i64 (-1)] 36));have m:w.heap.size<=w2.heap.size:=Nat.le_trans t.size y.size;have Kp:w.heap.size<=w1.heap.size:=Nat.le_trans t.size I.size;obtain⟨wb,Kn⟩:=zq (w2.alloc (.cells #[(U,n,D),.int .i64 (-1)] 36));obtain⟨q,hq⟩:=zq (w2.heap.size);rw[<-Kn]at Ka Kc Ks G Q;rw[<-hq]at Ks m;rw[<-Kn,<-hq];have Eq:=t.trans G;obtain⟨B1,C⟩:=zq (w1.heap.size);rw[<-C]at Q Kp;rw[<-wL K fs]at Q;have HO:=aa Q;have Kh:=aa Kc;have W:=aa Ks;have Kq:=aa hsz;clear N Q Ka Kc Ks Kn hq y I Z G O HB c0 c1 Kr C HG t hsz;(go_loopw [24,7,8] (λiv _ _ wr=>∃i:Nat,iv=.int .i64 (i:Int)/\i<=n/\ab (wr.ownsRow B1 70 3 (U,n,D) n ((eG K i fs).flatMap ap))/\ab (ag wr (p+1) 36 #[n_,i0])/\ab (ag wr q 36 #[(U,n,D),.int .i64 (-1)])/\Gr w wr) (λiv _ _ _=>n-(intOf iv).toNat));(case atStart=>exact⟨0,rfl,om,HO,Kh,W,Eq⟩);case round=>obtain⟨i,rfl,hi,c,Y,H3,hg⟩:=hrel;by_cases hlt:i<n;(. have o:i<fs.length:=om;have Ki:(i:Int)<(n:Int):=om;obtain⟨b,off,rfl,e0,e1,e2⟩:=aO.cell (fs:=eG K i fs) (ak.own c.o) (i:=i) (by rw[nW];exact o);rw[rh K i fs o]at e0 e1 e2;(have Kf:off=0/\B1<=b:=by(rcases c.o.2 with⟨h,h0⟩|⟨g,_,_,h,hB,_⟩);(. injection h with h;cases h);. injection h with h;injection h with h;injection h with h h';exact⟨h',om⟩);obtain⟨rfl,R⟩:=Kf;have fz:∀j,wr.frozen? ⟨b,j,none⟩=false:=λj=>c.o.frozenAt j;have f1:wr.frozen? (b,0+i*3+1)=false:=fz _;have f2:wr.frozen? (b,0+i*3+2)=false:=fz _;have hsz:=Kq.o fs[i] (List.getElem_mem o);have X:ab (eG K (i+1) fs=(eG K i fs).set i (ed K fs[i])):=aa (vJ K i fs o);have u:ab ((eG K i fs)[i]?=some fs[i]):=aa (by rw[List.getElem?_eq_getElem (by rw[nW];exact o),rh K i fs o]);obtain⟨x,P⟩:=zq (fs[i]);rw[<-P]at e0 e1 e2 hsz X u;clear P o;obtain⟨nm,z,v⟩:=x;simp only[Nat.zero_add]at e0 e1 e2 hsz X f1 f2;obtain⟨_,M,T⟩:=hsz;(have E:b≠q:=λe=>by have:=bD c.o H3.o dc0;exact this zfq);have d3:wr.cell? (q,0)=((b,0),n,D):=H3.o.cell 0;(have Mh:b≠p+1:=λe=>by have:=bD c.o Y.o dc0;exact this zfq);have L:w.heap.size<=p+1:=om;have Kn:w.heap.size<=b:=om;(have l:∀s:Y0,s=z++v.take K->((wr.setCell (b,i*3+1) (.string (bs s))).setCell (b,i*3+2) s_).ownsRow B1 70 3 ((b,0),n,D) n ((eG K (i+1) fs).flatMap ap):=λs hs=>by have:=p8 c.o i nm z v s [] u.o;rw[X.o,ed,<-hs];exact this);have Kw:=aa l;have Ko:ab (∀s:Y0,ag ((wr.setCell (b,i*3+1) (.string (bs s))).setCell (b,i*3+2) s_) (p+1) 36 #[n_,i0]):=aa (λs=>(Y.o.far (p:=(b,i*3+1)) (Ne.symm Mh) _).far (p:=(b,i*3+2)) (Ne.symm Mh) _);have Oa:ab (∀s:Y0,ag ((wr.setCell (b,i*3+1) (.string (bs s))).setCell (b,i*3+2) s_) q 36 #[((b,0),n,D),.int .i64 (-1)]):=aa (λs=>(H3.o.far (p:=(b,i*3+1)) (Ne.symm E) _).far (p:=(b,i*3+2)) (Ne.symm E) _);have Ke:ab (∀s:Y0,Gr w ((wr.setCell (b,i*3+1) (.string (bs s))).setCell (b,i*3+2) s_)):=aa (λs=>(hg.setCell (p:=(b,i*3+1)) Kn _).setCell (p:=(b,i*3+2)) Kn _);clear l X u fz L Mh E HO Kh W Eq;by_cases S:K<=v.length;(. have q2:(K:Int)<=(v.length:Int):=om;exact zcI);. have q2:¬(K:Int)<=(v.length:Int):=om;have Kx:v.take K=v:=List.take_of_length_le om;rw[Kx]at Kw;clear Kx;exact zcI);. obtain rfl:i=n:=om;have Kg:wr.cell? (q,0)=(U,i,D):=H3.o.cell 0;have Kk:wr.cell? (q,1)=some (.int .i64 (-1)):=H3.o.cell 1;have k:wr.cell? (p+1,0)=n_:=Y.o.cell 0;have r:wr.cell? (p+1,1)=i0:=Y.o.cell 1;have B:wr.frozen? (p+1,0)=false:=Y.o.frozen 0;have Kb:wr.frozen? (p+1,1)=false:=Y.o.frozen 1;clear hlt hi;(go_wp2_with fail);(have d:=(Y.o.set_ 0 (U,i,D)).set_ 1 (.int .i64 (-1)));refine bodyPost_ret (ai rfl _ rfl d cz) rfl ?_;have hne:=bD c.o Y.o dc0;have F:=ownsRow_setCell_other (ownsRow_setCell_other c.o (a:=(p+1,0)) hne (U,i,D)) (a:=(p+1,1)) hne (.int .i64 (-1));rw[<-hl,zd,hl]at F;refine⟨U,D,rfl,ak.own F,(hg.setCell (p:=(p+1,0)) zeL _).setCell (p:=(p+1,1)) zeL _,.inr (eJ F om)⟩
 . have HR:ab (bn fs f keep=(fs,f,3)):=aa (by unfold bn;rw[if_neg Il]);rw[HR.o];(have hW:∀w1,Gr J w1->ag ((w1.setCell (p+1,0) (A,n,cap)).setCell (p+1,1) f) (p+1) 36 #[(A,n,cap),f]:=λw1 I=>((Kj.o.gr I).set_ 0 (A,n,cap)).set_ 1 f);(have hV:∀w1,Gr J w1->Gr w ((w1.setCell (p+1,0) (A,n,cap)).setCell (p+1,1) f):=λw1 I=>((t.trans I).setCell (p:=(p+1,0)) zeL _).setCell (p:=(p+1,1)) zeL _);have HW:=aa hW;have HV:=aa hV;clear hW hV;cases hgf:aQ fs with|false=>rw[hgf]at HG;exact zas|true=>rw[hgf]at HG;have q1:decide (keep<0)=true:=decide_eq_true (by have:¬0<=keep:=λh=>Il ⟨hgf,h⟩;omega);exact zas
theorem mG {w J w1:World} {A A1:Yy} {n cap cap1:Nat} {xs:List Value} (hA:A=none->n=0/\cap=0) (ha:(A1=A/\cap1=cap)\/w1.ownsRow J.heap.size 70 3 (A1,n,cap1) n xs) (hs:w.heap.size<=J.heap.size):kQ w A n cap A1 n cap1:=by
 rcases ha with⟨rfl,rfl⟩|ho;. exact kQ.same hA
 . exact⟨kq ho,λ_=>jI ho,((fq.own ho).low hs).fa⟩
theorem ak.lit {w:World} {g:Nat} {t:TypeId} {cs:Array Value} (h:ag w g t cs):ak w cs.size (some (g,0)) 1 cs.toList:=
 ⟨by simp,λ_=>⟨g,0,rfl,λi v hv=>by rw[Nat.zero_add,h.cell];simpa using hv⟩⟩
abbrev Rf:=Y0×Y0
def bB (f:Rf):List Value:=[.string (bs f.1),.string (bs f.2)]
theorem E.ref:cC 58 75 (.agg #[s_,s_]) 2 32:=⟨Tryz.underlying58,by kernel_rfl,rfl,om⟩
def cQ (w:World) (A:Yy) (n:Nat) (fs:List Rf):Prop:=ak w 2 A n (fs.flatMap bB)
theorem cQ.gr {w w':World} {A:Yy} {n:Nat} {fs:List Rf} (h:cQ w A n fs) (g:Gr w w'):cQ w' A n fs:=ak.gr h g
theorem cQ.len {w:World} {A:Yy} {n:Nat} {fs:List Rf} (h:cQ w A n fs):fs.length=n:=ak.flen bB (λ_=>rfl) om h
theorem cQ.cell {w:World} {A:Yy} {n:Nat} {fs:List Rf} (h:cQ w A n fs) {i:Nat} (hi:i<fs.length):∃b off,A=some ⟨b,off,none⟩/\w.cell? ⟨b,off+i*2,none⟩=some (.string (bs fs[i].1))/\w.cell? ⟨b,off+i*2+1,none⟩=some (.string (bs fs[i].2)):=by
 obtain⟨b,off,e,_,hc⟩:=ak.fcell bB (λ_=>rfl) om h hi;exact⟨b,off,e,hc 0 _ rfl,hc 1 _ rfl⟩
theorem rO {fs:List Rf}:∀u∈fs.flatMap bB,u.oneCell'=true:=by
 intro u hu;obtain⟨f,_,h⟩:=List.mem_flatMap.1 hu
 simp only[bB,List.mem_cons,List.not_mem_nil,or_false]at h;rcases h with rfl|rfl<;>rfl
def rI (f:Rf):Bool:=fo f.1&&decide (f.2.length=32)
def jF:Y0->List Rf->Bool
 |_,[]=>true
 |last,f::r=>rI f&&aR last f.1&&jF f.1 r
def mz (fs:List Rf):Bool:=decide (fs.length<=32)&&jF [] fs
theorem GJ {s:Y0} (h:fo s=true):s≠[]:=by
 rintro rfl;exact absurd h dc0
theorem y9 (u:Y0) (f:Rf) (r:List Rf):jF u (f::r)=(rI f&&aR u f.1&&jF f.1 r):=rfl
theorem py:∀(fs:List Rf) (u:Y0),jF u fs=true->(∀f∈fs,aR u f.1=true/\rI f=true)/\fs.Pairwise (λf g=>aR f.1 g.1=true)
 |[],_,_=>⟨λf hf=>by simp at hf,List.Pairwise.nil⟩
 |f::r,u,h=>by
  rw[y9,Bool.and_eq_true,Bool.and_eq_true]at h
  obtain⟨⟨h1,h2⟩,h3⟩:=h
  have J:=py r f.1 h3
  refine⟨λg hg=>?_,List.Pairwise.cons (λg hg=>(J.1 g hg).1) J.2⟩
  rcases List.mem_cons.1 hg with rfl|hg
  . exact⟨h2,h1⟩
  . exact⟨gA _ _ _ h2 (J.1 g hg).1,(J.1 g hg).2⟩
theorem wT {fs:List Rf} (h:mz fs=true):fs.length<=32/\(∀f∈fs,fo f.1=true/\f.2.length=32)/\fs.Pairwise (λf g=>aR f.1 g.1=true):=by
 unfold mz at h;rw[Bool.and_eq_true,decide_eq_true_eq]at h;obtain⟨a,b⟩:=py fs [] h.2
 refine⟨h.1,λf hf=>?_,b⟩;have:=(a f hf).2
 unfold rI at this;rw[Bool.and_eq_true,decide_eq_true_eq]at this;exact this
def kX (fs:List Rf) (i:Nat) (last:Y0):Prop:=jF [] fs=jF last (fs.drop i)/\(i=0->last=[])/\∀h:0<i/\i<=fs.length,last=(fs[i-1]'om).1
theorem Hb (fs:List Rf):kX fs 0 []:=⟨rfl,λ_=>rfl,λh=>absurd h.1 om⟩
theorem kX.here {fs:List Rf} {i:Nat} {u:Y0} (h:kX fs i u) (hi:i<fs.length):jF [] fs=(rI fs[i]&&aR u fs[i].1&&jF fs[i].1 (fs.drop (i+1))):=by
 rw[h.1,List.drop_eq_getElem_cons hi];rfl
theorem kX.next {fs:List Rf} {i:Nat} {u:Y0} (h:kX fs i u) (hi:i<fs.length) (h1:rI fs[i]=true) (h2:aR u fs[i].1=true):kX fs (i+1) fs[i].1:=by
 refine⟨?_,λe=>absurd e om,λ_=>rfl⟩;rw[h.here hi,h1,h2];rfl
theorem kX.done {fs:List Rf} {i:Nat} {u:Y0} (h:kX fs i u) (hi:fs.length<=i):jF [] fs=true:=by
 rw[h.1,List.drop_eq_nil_of_le hi];rfl
theorem Ea {s:Y0} (h:s≠[]):aR [] s=true:=by
 exact zcf
def fd (name:Y0) (fs:List Rf):Nat:=(fs.takeWhile (λf=>aR f.1 name)).length
def fE (name:Y0) (fs:List Rf):Bool:=fs.any (λf=>f.1==name)
def eD (fs:List Rf) (name:Y0):Y0:=((fs.find? (λf=>f.1==name)).map (·.2)).getD []
def ku (i:Nat) (f:Rf) (fs:List Rf):List Rf:=fs.take i++f::fs.drop i
def fj (fs:List Rf) (name old id:Y0):List Rf×Int:=
 if mz fs=true then
  (if fo name=true/\ip old=true/\ip id=true then
   (if eD fs name=old then
    (if fE name fs=true then(if id=[]then(fs.eraseIdx (fd name fs),0)else(fs.set (fd name fs) (name,id),0))
    else if id=[]then(fs,0)else if 32<=fs.length then([],6)else(ku (fd name fs) (name,id) fs,0))
   else([],9))
  else([],2))
 else([],3)
section
structure da (w:World) (B:Nat) (A:Yy) (n cap:Nat) (xs:List Value):Prop where
 len:xs.length=n
 le:n<=cap
 max:cap<=maxLen
 lies:(A=none/\cap=0)\/∃g off,A=some ⟨g,off,none⟩/\(0<cap->B<=g/\g<w.heap.size)/\(∀j v,xs[j]?=some v->w.cell? ⟨g,off+j,none⟩=some v)∧
  (∀j,j<cap->(w.cell? ⟨g,off+j,none⟩).isSome=true/\w.frozen? ⟨g,off+j,none⟩=false)
section
variable{w w':World} {B n cap:Nat} {A:Yy} {xs:List Value}
theorem da.nil (w:World) (B:Nat):da w B none 0 0 []:=⟨rfl,Dg _,by unfold maxLen;omega,.inl ⟨rfl,rfl⟩⟩
theorem da.row (h:da w B A n cap xs):ak w 1 A n xs:=by
 refine⟨by rw[h.len,Nat.mul_one],λhn=>?_⟩;rcases h.lies with⟨_,h0⟩|⟨g,off,e,_,hc,_⟩;. have:=h.le;omega
 . exact⟨g,off,e,hc⟩
theorem da.own {e:TypeId} (h:w.ownsRow B e 1 (A,n,cap) n xs):da w B A n cap xs:=by
 have hl:xs.length=n:=by have:=h.1;rwa [Nat.mul_one]at this
 rcases h.2 with⟨hv,h0⟩|⟨g,D,d,hv,hb,hg,Lg,Kq,I,ht⟩
 . injection hv with hA hn hc;subst hA hn hc;exact⟨hl,Dg _,by unfold maxLen;omega,.inl ⟨rfl,rfl⟩⟩
 . injection hv with hA hn hc;subst hA hc;rw[Nat.mul_one]at I;refine⟨hl,Lg,Kq,.inr ⟨g,0,rfl,λ_=>⟨hb,(h.lt g rfl).2⟩,λj v hv=>?_,λj hj=>?_⟩⟩;(. have:=h.cells (g:=g) rfl j v hv;exact zcj);. have hb:ag w g e d:=hg;rw[Nat.zero_add,hb.cell,hb.frozen];exact⟨by rw[Array.getElem?_eq_getElem om];rfl,rfl⟩
theorem da.gr (h:da w B A n cap xs) (g:Gr w w'):da w' B A n cap xs:=by
 refine⟨h.len,h.le,h.max,?_⟩;rcases h.lies with h0|⟨b,off,e,h1,h2,h3⟩;. exact .inl h0
 . (refine .inr ⟨b,off,e,λhc=>⟨(h1 hc).1,Nat.lt_of_lt_of_le (h1 hc).2 g.size⟩,λj v hv=>?_,λj hj=>?_⟩);(. exact(g.below.cell (p:=⟨b,off+j,none⟩) (World.block_lt_of_cell? w _ (h2 j v hv))).trans (h2 j v hv));. (have hb:=(h1 om).2);rw[g.below.cell (p:=⟨b,off+j,none⟩) hb,g.below.frozen (p:=⟨b,off+j,none⟩) hb];exact h3 j hj
theorem da.apart {row:Option Nat} (h:da w B A n cap xs) (k:w.grownBy w' row) (hr:∀b,row=some b->b<B):da w' B A n cap xs:=by
 refine⟨h.len,h.le,h.max,?_⟩;rcases h.lies with h0|⟨b,off,e,h1,h2,h3⟩;. exact .inl h0
 . (have hx:0<cap->w'.heap[b]?=w.heap[b]?:=λhc=>k.block b (h1 hc).2 (λe=>by have:=hr b e.symm;have:=(h1 hc).1;omega));(have o:0<cap->∀j,w'.cell? ⟨b,j,none⟩=w.cell? ⟨b,j,none⟩:=λhc j=>by simp[World.cell?,hx hc]);(have a:0<cap->∀j,w'.frozen? ⟨b,j,none⟩=w.frozen? ⟨b,j,none⟩:=λhc j=>by simp[World.frozen?,hx hc]);(refine .inr ⟨b,off,e,λhc=>⟨(h1 hc).1,Nat.lt_of_lt_of_le (h1 hc).2 k.size⟩,λj v hv=>?_,λj hj=>?_⟩);(. (have hj:=(List.getElem?_eq_some_iff.1 hv).1);have:=h.len;have:=h.le;rw[o om];exact h2 j v hv);. rw[o om,a om];exact h3 j hj
theorem da.pop (h:da w B A (n+1) cap xs):da w B A n cap (xs.take n):=by
 have hl:=h.len;have z:=h.le;refine⟨by rw[List.length_take];omega,om,h.max,?_⟩;rcases h.lies with h0|⟨b,off,e,h1,h2,h3⟩;. exact .inl h0
 . (refine .inr ⟨b,off,e,h1,λj v hv=>h2 j v ?_,h3⟩);(have hj:=(List.getElem?_eq_some_iff.1 hv).1);rw[List.length_take]at hj;rwa [List.getElem?_take_of_lt om]at hv
theorem da.shift {g off:Nat} (h:da w B (some (g,off)) (n+1) (cap+1) xs):da w B (some (g,off+1)) n cap (xs.drop 1):=by
 have hl:=h.len;have z:=h.le;have hm:=h.max;refine⟨by rw[List.length_drop];omega,om,om,?_⟩;rcases h.lies with⟨h0,_⟩|⟨b,o,e,h1,h2,h3⟩;. cases h0
 . injection e with e;injection e with e1 e2;subst e1 e2;(refine .inr ⟨g,off+1,rfl,λ_=>h1 om,λj v hv=>?_,λj hj=>?_⟩);(. rw[List.getElem?_drop]at hv;rw[Nat.add_assoc];exact h2 _ _ hv);. rw[Nat.add_assoc];exact h3 _ om
theorem da.bare {g off:Nat} (w:World) (B:Nat):da w B (some (g,off)) 0 0 []:=
 ⟨rfl,Dg _,by unfold maxLen;omega,.inr ⟨g,off,rfl,λh=>absurd h om,λj v h=>by simp at h,λj h=>absurd h om⟩⟩
end
theorem jQ (g:Nat):∀(vs:List Value) (o:Nat) (w:World),(w.setCells g o vs).heap.size=w.heap.size
 |[],_,_=>rfl
 |v::r,o,w=>(jQ g r (o+1) (w.setCell (g,o) v)).trans zgl
theorem nL {B:Nat} (g:Nat) (hg:B<=g) (vs:List Value) (o:Nat) (w:World):Below B w (w.setCells g o vs):=by
 induction vs generalizing o w with|nil=>exact Below.refl _ _|cons v r J=>exact((Below.refl B w).setCell (p:=(g,o)) hg v).trans (J (o+1) (w.setCell (g,o) v))
theorem AO {t e ty:TypeId} {z:Value} {f:Nat} (E:cC t e z 1 f) {w:World} {B n cap:Nat} {A:Yy} {xs:List Value} (h:da w B A n cap xs) {U:Yy} {m c:Nat} {vs:List Value} (C:ak w 1 U m vs) (X:U=none->m=0/\c=0) (h1:∀u∈vs,u.oneCell'=true) (i:(n+m)*f<=140737488355328) (q:n+m<=maxLen) (hB:B<=w.heap.size):∃A2 r w',(Builtin.append_ #[t,t] ty #[(A,n,cap),(U,m,c)]).run Ao w=.ok (A2,n+m,r) w'/\da w' B A2 (n+m) r (xs++vs)/\Below B w w':=by
 have J:vs.length=m:=zhR
 have Kk:=h.len;rcases h.lies with⟨rfl,h0⟩|⟨g,off,rfl,H,y,N⟩;. (have hn:n=0:=by have:=h.le;omega);subst h0 hn;have hx:xs=[]:=List.eq_nil_of_length_eq_zero Kk;subst hx;obtain⟨A2,r,w',hr,ho,F⟩:=iH (ty:=ty) E (B:=B) (World.ownsRow_nil w B e 1) C X h1 i q hB;refine⟨A2,r,w',hr,da.own ho,⟨F.os,F.tape,F.output,F.size,λk hk=>F.block k om (by simp[Value.ownBlock])⟩⟩
 . obtain⟨Y,L,O,M,T⟩:=info_parts E.info;(have l:Src Ao Y.size t (U,m,c) m vs w:=zaB);by_cases a:n+m<=cap;(. have hr:=run_append_room_src (P:=Ao) w t t ty e Y E.under L g off n cap _ m vs l a (λj hj=>by rw[M,Nat.mul_one,Nat.add_assoc];exact(N (n+j) om).1) (λj hj=>by rw[M,Nat.mul_one,Nat.add_assoc];exact(N (n+j) om).2);rw[M,Nat.mul_one]at hr;refine⟨_,_,_,hr,⟨by rw[List.length_append];omega,a,h.max,.inr ⟨g,off,rfl,λhc=>?_,λj v hv=>?_,λj hj=>?_⟩⟩,?_⟩;(. rw[jQ];exact H hc);(. exact zcv);(. exact zep);. exact zeh);. (have hold:(Builtin.firstCells Y.size n ((g,off),n,cap)).run Ao w.drew=.ok xs.toArray w.drew:=zd9);have hr:=run_append_grow_src (P:=Ao) w t t ty e Y z E.under L O (some (g,off)) n cap xs hold _ m vs l om (by unfold maxLen at q;omega) (growslice_fits om (by rw[T];exact i));have Q:=grownCap_ge w (n+m) cap e;have Kq:=grownCap_le_maxLen w (n+m) cap e q;refine⟨_,_,_,hr,⟨by rw[List.length_append];omega,Q,Kq,.inr ⟨w.heap.size,0,rfl,λ_=>⟨hB,by simp⟩,λj v hv=>?_,λj hj=>?_⟩⟩,?_⟩;(. exact zdU);(. exact zdv);. exact(Below.drew (Below.refl B w)).alloc hB _
theorem mn {ops:Array Oper} {rest:List Oper} {o:Oper} {a:Act} {Q:Exit->Act->World->Prop} {t e:TypeId} {z:Value} {f:Nat} (E:cC t e z 1 f) (G:o.guard=none) (s x:Operand)
 (ho:o.op=.call {callee:=.builtin .append,args:=#[s,x],argTypes:=#[t,t]}) {B:Nat} {w:World}
 {A:Yy} {n cap:Nat} {xs:List Value} (hs:a.eval s=.slice A n cap) (h:da w B A n cap xs)
 {U:Yy} {m c:Nat} {vs:List Value} (hx:a.eval x=.slice U m c) (C:ak w 1 U m vs) (X:U=none->m=0/\c=0) (h1:∀u∈vs,u.oneCell'=true)
 (i:(n+m)*f<=140737488355328) (q:n+m<=maxLen) (hB:B<=w.heap.size)
 (K:∀A2 r w',da w' B A2 (n+m) r (xs++vs)->Below B w w'->wpList Ao ops Q rest (a.put o.dst (A2,n+m,r)) w'):wpList Ao ops Q (o::rest) a w:=by
 refine wpList_plain G λK' hK'=>?_
 obtain⟨A2,r,w',hr,h2,h3⟩:=AO (ty:=o.type) E h C X h1 i q hB
 unfold Oper.wp execOp
 simp only[ho,resolve,invoke,builtin,Sem.run_bind,Sem.run_pure,Result.andThen_ok,List.map_toArray,List.map_cons,List.map_nil,hs,hx,hr]
 exact hK' _ _ (K A2 r w' h2 h3)
end
end Go.Proofs.YtdpombnelangjaaGreatDoor
