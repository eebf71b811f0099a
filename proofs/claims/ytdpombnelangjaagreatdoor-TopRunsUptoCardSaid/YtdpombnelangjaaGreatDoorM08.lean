/- Lemmas for TopRuns; each states its conditions. -/
import Derived.Test.YtdpombnelangjaaGreatDoorM04
namespace Go.Proofs.YtdpombnelangjaaGreatDoor
open Go.RowKit
set_option maxRecDepth 100000
set_option maxHeartbeats 64000000
open Go.Proofs.Tryz renaming prog → Ao
open Calls renaming mono → Bo
open Gr renaming refl → B4
open Nat renaming le_refl → Dg
abbrev dP (fs:List Rf):Prop:=fs.Pairwise (λf g=>aR f.1 g.1=true)
theorem tn (name:Y0):∀(fs:List Rf) (i:Nat),i<=fs.length->(∀m (hm:m<fs.length),m<i->aR fs[m].1 name=true)->(∀hm:i<fs.length,aR fs[i].1 name=false)->fd name fs=i
 |[],i,hi,_,_=>by
  have:i=0:=zfh
  subst this;rfl
 |f::r,0,hi,_,h2=>by
  have:=h2 (by simp)
  simp only[List.getElem_cons_zero]at this
  unfold fd
  rw[List.takeWhile_cons,this];rfl
 |f::r,i+1,hi,h1,h2=>by
  have h0:=h1 0 (by simp) om
  simp only[List.getElem_cons_zero]at h0
  have J:=tn name r i zfh (λm hm hl=>by have:=h1 (m+1) zc4 om;simpa using this)
   (λhm=>by have:=h2 zc4;simpa using this)
  unfold fd at J⊢
  rw[List.takeWhile_cons,h0]
  simp[J]
theorem dP.get {fs:List Rf} (h:dP fs) {i j:Nat} (hj:j<fs.length) (T:i<j):aR (fs[i]'om).1 fs[j].1=true:=
 List.pairwise_iff_getElem.1 h i j om hj T
theorem dP.below {fs:List Rf} (h:dP fs) {name:Y0} {i j:Nat} (hj:j<fs.length) (T:i<=j) (hl:aR fs[j].1 name=true):aR (fs[i]'om).1 name=true:=by
 exact zbP
theorem dP.above {fs:List Rf} (h:dP fs) {name:Y0} {i j:Nat} (hj:j<fs.length) (T:i<=j) (hl:aR (fs[i]'om).1 name=false):aR fs[j].1 name=false:=by
 exact zbK
theorem Hx {fs:List Rf} (h:dP fs) {name:Y0} {i:Nat} (h1:∀m (hm:m<fs.length),m<i->aR fs[m].1 name=true) (hi:i<fs.length) (h2:aR fs[i].1 name=false):fE name fs=(fs[i].1==name):=by
 unfold fE;exact zaL
theorem y8 {fs:List Rf} {name:Y0} {i:Nat} (h1:∀m (hm:m<fs.length),m<i->aR fs[m].1 name=true) (hi:fs.length<=i):fE name fs=false:=by
 unfold fE;exact zbb
theorem Gf {fs:List Rf} {name:Y0} (h:dP fs) (hh:fE name fs=true):∃hi:fd name fs<fs.length,fs[fd name fs].1=name:=by
 obtain⟨f,hf,hn⟩:=List.any_eq_true.1 hh
 obtain⟨m,hm,rfl⟩:=List.getElem_of_mem hf;have j:fs[m].1=name:=by simpa using hn
 have:fd name fs=m:=tn name fs m om (λk hk hl=>by rw[<-j];exact h.get hm hl) (λ_=>by rw[j];exact eY _);refine⟨om,?_⟩;simp only[this];exact j
def wP (a b:Y0):Int:=Lib.compareBytes a b
theorem qY (nm z name:Y0) (w:World):Calls Ao 167 #[.agg #[nm,z],name] w λe w'=>e=.returned (wP nm name)/\Gr w w':=by
 go_enter Tryz.func167,Tryz.ntmps167
 exact zbp
theorem xD (fs:List Rf) (name:Y0) (A:Yy) (n cap:Nat) (w:World) (hn:n<=1099511627776) (hx:cQ w A n fs) (s:dP fs):Calls Ao 166 #[(A,n,cap),name,.func (.func 167) #[] #[]] w λe w'=>e=.returned (.tuple #[fd name fs,fE name fs])/\Gr w w':=by
 have hl:=hx.len;have O:=aa hx;have HS:=aa s;have eg:∀args w,(callFunc 167 args).run Ao w=.ok (.enter 167 args) w:=eV Tryz.func167 zc0 rfl
 clear hx s;go_enter Tryz.func166,Tryz.ntmps166
 go_wp2_with fail
 go_loopw [9,10,11] (λiv jv _ wr=>∃i j:Nat,iv=.int .i64 (i:Int)/\jv=.int .i64 (j:Int)/\i<=j/\j<=n/\ab (∀m (hm:m<fs.length),m<i->aR fs[m].1 name=true)/\ab (∀m (hm:m<fs.length),j<=m->aR fs[m].1 name=false)/\Gr w wr) (λiv jv _ _=>(intOf jv).toNat-(intOf iv).toNat)
 case atStart=>exact⟨0,n,rfl,rfl,om,om,aa (λm hm h=>om),aa (λm hm h=>om),B4 _⟩
 case round=>obtain⟨i,j,rfl,rfl,T,hj,f,Y,hg⟩:=hrel;by_cases hlt:i<j;(. have Ki:(i:Int)<(j:Int):=om;obtain⟨h,hh⟩:=zq ((i+j)/2);have q1:((i:Int)+(j:Int))/2=(h:Int):=om;have d:i<=h:=om;have k:h<j:=om;have l:(h:Int)<(n:Int):=om;have hhf:h<fs.length:=om;(obtain⟨b,off,rfl,e0,e1⟩:=(O.o.gr hg).cell hhf);have HH:ab (fs[h]=fs[h]):=aa rfl;have Il:ab (aR fs[h].1 name=true->∀m (hm:m<fs.length),m<h+1->aR fs[m].1 name=true):=aa (λhb m hm hl=>HS.o.below hhf om hb);have c:ab (aR fs[h].1 name=false->∀m (hm:m<fs.length),h<=m->aR fs[m].1 name=false):=aa (λhb m hm hl=>HS.o.above hm hl hb);obtain⟨x,P⟩:=zq (fs[h]);rw[<-P]at e0 e1 Il c;clear P HH hh hhf;obtain⟨nm,z⟩:=x;simp only at e0 e1 Il c;have HC:=aa (λw=>qY nm z name w);(have Kq:=(pO nm name).1);cases hb:aR nm name with|true=>(have q2:wP nm name<0:=Kq.2 hb);exact zcG|false=>(have q2:¬wP nm name<0:=λh=>by rw[Kq.1 h]at hb;cases hb);exact zdx);. obtain rfl:i=j:=om;by_cases p:i<n;(. have o:i<fs.length:=om;have Ki:(i:Int)<(n:Int):=om;have HL:ab (fd name fs=i):=aa (tn name fs i om f.o (λh=>Y.o i h (Dg _)));have HE:ab (fE name fs=(fs[i].1==name)):=aa (Hx HS.o f.o o (Y.o i o (Dg _)));(obtain⟨b,off,rfl,e0,e1⟩:=(O.o.gr hg).cell o);obtain⟨x,P⟩:=zq (fs[i]);rw[<-P]at e0 e1 HE;clear P o hlt;obtain⟨nm,z⟩:=x;simp only at e0 e1 HE;have HC:=aa (λw=>qY nm z name w);(have Kq:=(pO nm name).2);cases hb:nm==name with|true=>(have q2:wP nm name=0:=Kq.2 zfT);exact zaG|false=>(have q2:(wP nm name==0)=false:=beq_eq_false_iff_ne.2 (λh=>by rw[Kq.1 h]at hb;simp at hb));exact zaG);. obtain rfl:i=n:=om;have HL:ab (fd name fs=i):=aa (tn name fs i om f.o (λh=>om));have HE:ab (fE name fs=false):=aa (y8 f.o om);exact zd2
theorem uZ (fs:List Rf) (name:Y0) (A:Yy) (n cap:Nat) (w:World) (hn:n<=1099511627776) (hx:cQ w A n fs) (s:dP fs):Calls Ao 124 #[(A,n,cap),name] w λe w'=>e=.returned (.tuple #[fd name fs,fE name fs])/\Gr w w':=by
 have HC:=aa (xD fs name A n cap w hn hx s);clear hx s;go_enter Tryz.func124,Tryz.ntmps124
 go_wp2_with(go_at_call 166;refine Bo HC.o ?_;rintro e w1 ⟨rfl,I⟩)
 go_ret2;exact⟨rfl,I⟩
theorem wC {fs:List Rf} (h:dP fs) {name:Y0} (hh:fE name fs=true):∃hi:fd name fs<fs.length,fs[fd name fs].1=name/\eD fs name=fs[fd name fs].2:=by
 obtain⟨hi,h1⟩:=Gf h hh;refine⟨hi,h1,?_⟩;have:fs.find? (λf=>f.1==name)=some fs[fd name fs]:=by rw[List.find?_eq_some_iff_getElem];refine⟨by simpa using h1,fd name fs,hi,rfl,λj hj=>?_⟩;have:=h.get hi hj;rw[h1]at this;simp only[Bool.not_eq_true',beq_eq_false_iff_ne,ne_eq];intro e;rw[e,eY]at this;cases this
 unfold eD;rw[this];rfl
theorem FZ {fs:List Rf} {name:Y0} (hh:fE name fs=false):eD fs name=[]:=by
 have:fs.find? (λf=>f.1==name)=none:=by rw[List.find?_eq_none];intro f hf;(have:=List.any_eq_false.1 hh f hf);simpa using this
 unfold eD;rw[this];rfl
theorem uk (fs:List Rf) (name:Y0) (A:Yy) (n cap:Nat) (w:World) (hn:n<=1099511627776) (hx:cQ w A n fs) (s:dP fs):Calls Ao 86 #[(A,n,cap),name] w λe w'=>e=.returned (eD fs name)/\Gr w w':=by
 have HC:=aa (uZ fs name A n cap w hn hx s);have hl:=hx.len;have O:=aa hx;cases hh:fE name fs with|true=>(obtain⟨hi,h1,h2⟩:=wC s hh;rw[hh]at HC;obtain⟨k,hk,S,HG⟩:∃k,k=fd name fs/\∃h:k<fs.length,ab (eD fs name=fs[k].2):=⟨_,rfl,hi,aa h2⟩;rw[<-hk]at HC;clear h2 h1 hi;clear hk hh hx s;obtain⟨Kb,hV⟩:=zq (eD fs name);rw[<-hV];have C:(k:Int)<(n:Int):=om;(go_enter Tryz.func86,Tryz.ntmps86);(go_upto_region 2 with(go_at_call 124;refine Bo HC.o ?_;rintro e w1 ⟨rfl,I⟩));(obtain⟨b,off,rfl,e0,e1⟩:=(O.o.gr I).cell S);rw[<-HG.o,hV.symm]at e1;clear e0 hV;clear HG S;(go_wp2_with fail);go_ret;exact⟨rfl,I⟩)|false=>have h2:=aa (FZ hh);rw[hh]at HC;clear hx s hh;(go_enter Tryz.func86,Tryz.ntmps86);(go_wp2_with(go_at_call 124;refine Bo HC.o ?_;rintro e w1 ⟨rfl,I⟩));go_ret;exact⟨by rw[h2.o];rfl,I⟩
theorem qP:(Ao.info? 75).map (·.size)=some 2:=by
 obtain⟨Y,L,_,h1,_⟩:=info_parts E.ref.info;rw[L];simp[h1]
theorem C3:∀w,(Go.sizeOf 75).run Ao w=.ok 2 w:=by
 intro w;obtain⟨Y,L,_,h1,_⟩:=info_parts E.ref.info;simp[sizeOf,typeInfo,L,h1]
theorem AK (g cap n i gv vc:Nat) (d x:List Value) (w:World) (hi:i<n) (a:n+1<=cap) (q:cap<=maxLen) (m:gv≠g) (hg:ag w g 75 d.toArray) (hs:d.length=cap*2) (hv:ag w gv 75 x.toArray) (hx:x.length=2) (h1:∀v∈d.take (n*2),v.oneCell'=true) (c:∀v∈x,v.oneCell'=true):Calls Ao 130 #[.slice (some ⟨g,0,none⟩) n cap,.int .i64 (i:Int),.slice (some ⟨gv,0,none⟩) 1 vc] w λe w'=>e=.returned (.slice (some ⟨g,0,none⟩) (n+1) cap)/\ag w' g 75 (Go.splice (Go.splice d (i*2+2) ((d.take (n*2)).drop (i*2))) (i*2) x).toArray/\w.grownBy w' (some g):=by
 have I:(d.take (n*2)).length=n*2:=zeA
 obtain⟨xs,h⟩:=zq (d.take (n*2));have t:∀lb cb,(callFunc 168 #[.slice (some ⟨gv,0,none⟩) 1 vc,.slice (some ⟨g,(i+1)*2,none⟩) lb cb]).run Ao w=.ok (.value (.bool false)) w:=λlb cb=>by rw[run_callFunc_extern Tryz.func168 zc0 zc0 zc0 (e:=Extern.SlicesOverlaps.overlaps #[58,58] #[4]) zc0,Lib.run_overlaps_apart w 58 4 75 E.ref.under 2 C3 ⟨gv,0,none⟩ ⟨g,(i+1)*2,none⟩ 1 vc lb cb m 75 75 2 (cap*2) zhx zhy om (hv.frozen 0) (hv.frozen 2)];rfl
 have r:((d.take (n*2)).drop (i*2)).length=n*2-i*2:=zgb
 have b:∀ty l sc,(Builtin.copy_ #[58,58] ty #[.slice (some ⟨g,(i+1)*2,none⟩) (n-i) l,.slice (some ⟨g,i*2,none⟩) (n+1-i) sc]).run Ao w.drew=.ok (goInt ((n-i:Nat):Int)) (w.drew.setRow g (Go.splice d ((i+1)*2) ((d.take (n*2)).drop (i*2))).toArray):=λty l sc=>by have:=fb (P:=Ao) w.drew 58 58 ty 75 g ((i+1)*2) (n-i) l ⟨g,i*2,none⟩ (n+1-i) sc 2 d.toArray 75 ((d.take (n*2)).drop (i*2)) E.ref.under qP hg.drew zfw (λj v hj=>by rw[Addr.add_lit];rw[List.getElem?_drop,List.getElem?_take]at hj;split at hj;(. exact(hg.drew.cell _).trans ze2);. cases hj) zhL (λv hv=>h1 v (List.mem_of_mem_drop hv));exact zcZ
 obtain⟨c1,f⟩:=zq (Go.splice d ((i+1)*2) ((d.take (n*2)).drop (i*2)));rw[<-f]at b;have p:c1.length=cap*2:=zgQ
 have H:ag (w.drew.setRow g c1.toArray) g 75 c1.toArray:=hg.drew.of_setRow _;have o:ag (w.drew.setRow g c1.toArray) gv 75 x.toArray:=hv.drew.only (iF w.drew g _) m;have z:∀ty l,(Builtin.copy_ #[58,58] ty #[.slice (some ⟨g,i*2,none⟩) (n+1-i) l,.slice (some ⟨gv,0,none⟩) 1 vc]).run Ao (w.drew.setRow g c1.toArray)=.ok (goInt 1) ((w.drew.setRow g c1.toArray).setRow g (Go.splice c1 (i*2) x).toArray):=λty l=>by have:=fb (P:=Ao) (w.drew.setRow g c1.toArray) 58 58 ty 75 g (i*2) (n+1-i) l ⟨gv,0,none⟩ 1 vc 2 c1.toArray 75 x E.ref.under qP H zeO (λj v hj=>by rw[Addr.add_lit,Nat.zero_add];exact(o.cell _).trans ze2) zhM c;exact za1
 have HE:ab (Go.splice (Go.splice d (i*2+2) ((d.take (n*2)).drop (i*2))) (i*2) x=Go.splice c1 (i*2) x):=aa (by rw[f,show(i+1)*2=i*2+2 by omega]);have HB:ab (ag ((w.drew.setRow g c1.toArray).setRow g (Go.splice c1 (i*2) x).toArray) g 75 (Go.splice c1 (i*2) x).toArray):=aa (H.of_setRow _);have Ku:ab (w.grownBy ((w.drew.setRow g c1.toArray).setRow g (Go.splice c1 (i*2) x).toArray) (some g)):=aa ⟨rfl,rfl,rfl,by simp[World.setRow],λk hk hne=>by rw[setRow_other _ g k _ (λe=>hne (by rw[e])),setRow_other _ g k _ (λe=>hne (by rw[e]))];rfl⟩;have T:¬((i:Int)=(n:Int)):=om;have Kp:IntKind.i64.wrap ((i:Int)+1)=(i:Int)+1:=zg1
 have Mk:((i:Int)+1).toNat=i+1:=om
 have Ka:(0:Int)<=(i:Int)+1:=om;have Ks:(i:Int)<=(n:Int):=om;have Kv:(i:Int)<=(n:Int)+1:=om;have Kc:¬(cap=i+1):=om;have Lb:¬(cap=i):=om;have Q:¬(cap<n+1):=om;have hm:cap<=9223372036854775807:=zhV
 clear f p H o r h h1 c hg hv hs I;go_enter Tryz.func130,Tryz.ntmps130
 go_wp2_with(simp only[t])
 go_region_law (refine step_copy_run rfl _ _ 58 58 rfl _ _ zeZ zeZ (b _ _ _) ?_)
 go_wp2_with(at_builtin;refine wpList_copy_run _ rfl _ _ 58 58 rfl _ _ rfl rfl (z _ _) ?_)
 exact zdQ
theorem EO (A:Yy) (n cap gv vc B:Nat) (xs x:List Value) (w:World) (N:w.ownsRow B 75 2 (A,n,cap) n xs) (hv:ag w gv 75 x.toArray) (hx:x.length=2) (c:∀v∈x,v.oneCell'=true) (hn:n<=1099511627776) (hB:B<=w.heap.size):Calls Ao 130 #[(A,n,cap),n,((gv,0),1,vc)] w λe w'=>∃U D,e=.returned (U,n+1,D)/\w'.ownsRow B 75 2 (.slice U (n+1) D) (n+1) (xs++x)/\w.grownBy w' (Value.ownBlock (A,n,cap)):=by
 have Ka:(n+1)*32<=140737488355328:=om;have Kc:n+1<=maxLen:=zc1
 have C:ak w 2 (some (gv,0)) 1 x:=zhl
 have Lg:n<=cap:=zdI
 have HO:=aa N;have HR:=aa C;have f:=aa c;clear N C hv c;cases A with|none=>((have:n=0/\cap=0:=zcT);obtain⟨rfl,rfl⟩:=this;(go_enter Tryz.func130,Tryz.ntmps130);(go_wp2_with(refine bQ E.ref rfl (.tmp 23) (.tmp 24) rfl (B:=B) (A0:=none) (n0:=0) (cap0:=0) (xs:=xs) rfl HO.o rfl HR.o ze4 f.o Ka Kc hB ?_;intro U c' w' p d));go_ret;exact⟨U,c',rfl,p,d⟩)|some ad=>(obtain⟨g,hg⟩:∃g,ad=⟨g,0,none⟩:=zbm);subst hg;(go_enter Tryz.func130,Tryz.ntmps130);(go_wp2_with(refine bQ E.ref rfl (.tmp 23) (.tmp 24) rfl (B:=B) (A0:=some ⟨g,0,none⟩) (n0:=n) (cap0:=cap) (xs:=xs) rfl HO.o rfl HR.o ze4 f.o Ka Kc hB ?_;intro U c' w' p d));all_goals go_ret;exact⟨U,c',rfl,p,d⟩
theorem AF (g cap n i gv vc:Nat) (d x:List Value) (w:World) (hi:i<n) (a:cap<n+1) (Lg:n<=cap) (hn:n<=1099511627776) (hg:ag w g 75 d.toArray) (hs:d.length=cap*2) (hv:ag w gv 75 x.toArray) (hx:x.length=2) (h1:∀v∈d.take (n*2),v.oneCell'=true) (c:∀v∈x,v.oneCell'=true):Calls Ao 130 #[((g,0),n,cap),i,((gv,0),1,vc)] w λe w'=>∃(G:Nat) (R:List Value),e=.returned ((w.heap.size,0),n+1,G)/\n+1<=G/\G<=maxLen/\R.length=G*2/\R.take (i*2)=(d.take (n*2)).take (i*2)∧ag w' w.heap.size 75 (Go.splice (Go.splice R (i*2) x) (i*2+2) ((d.take (n*2)).drop (i*2))).toArray/\w.grownBy w' none:=by
 have I:(d.take (n*2)).length=n*2:=zeA
 obtain⟨xs,h⟩:=zq (d.take (n*2));rw[<-h]at I h1;rw[<-h];obtain⟨Y,L,O,M,T⟩:=info_parts E.ref.info;obtain⟨k,hk⟩:=zq (n+1-i);have Kj:i+k=n+1:=om;obtain⟨G,hG⟩:=zq (grownCap w (n+1) cap 75);have V:n+1<=G:=zin
 have K:G<=maxLen:=ziO
 have o:∀j v,xs[j]?=some v->w.cell? ⟨g,j,none⟩=some v:=λj v hj=>by rw[h,List.getElem?_take]at hj;exact zcL
 have hold:(Builtin.firstCells Y.size i ((g,0),i,cap)).run Ao w.drew=.ok (xs.take (i*2)).toArray w.drew:=by rw[M];exact run_firstCells_some w.drew 2 i (g,0) i cap (xs.take (i*2)) zio (λj v hj=>by rw[Addr.add_lit,Nat.zero_add];rw[List.getElem?_take]at hj;split at hj;(. exact o j v hj);. cases hj)
 obtain⟨R,hR⟩:∃R:List Value,R=((xs.take (i*2)).toArray++Builtin.zeroCells (Value.agg #[s_,s_]).cells k++Builtin.zeroCells (Value.agg #[s_,s_]).cells (G-(i+k))).toList:=⟨_,rfl⟩
 have q:∀ty,(Builtin.append_ #[58,3] ty #[((g,0),i,cap),.int .i64 (k:Int)]).run Ao w=.ok ((w.heap.size,0),n+1,G) (w.drew.alloc (.cells R.toArray 75)):=λty=>by(have:=Lib.run_append_grow_zeros (P:=Ao) w 58 3 ty 75 Y _ .i64 .i64 E.ref.under Tryz.underlying3 L O (some (g,0)) i cap (xs.take (i*2)) hold k om om om om zfR zhN);exact zet
 have C:R.length=G*2:=by rw[hR];(have X:(Value.agg #[s_,s_]).cells.size=2:=E.ref.zcells);exact zd0
 have H:R.take (i*2)=xs.take (i*2):=zdE
 have Lr:=hg.lt;have J:=hv.lt;obtain⟨u,s⟩:=zq (w.drew.alloc (.cells R.toArray 75));have F:ag u w.heap.size 75 R.toArray:=by rw[s];exact ag.new w.drew _ _
 have t:ag u g 75 d.toArray:=by rw[s];exact hg.drew.alloc _
 have U:ag u gv 75 x.toArray:=by rw[s];exact hv.drew.alloc _
 have S:w.grownBy u none:=zfN
 rw[<-s]at q;obtain⟨Z,y⟩:=zq (w.heap.size);rw[<-y]at q F Lr J;rw[<-y];have b:∀ty l,(Builtin.copy_ #[58,58] ty #[.slice (some (Z,i*2)) (n+1-i) l,((gv,0),1,vc)]).run Ao u=.ok (goInt 1) (u.setRow Z (Go.splice R (i*2) x).toArray):=λty l=>by have:=fb (P:=Ao) u 58 58 ty 75 Z (i*2) (n+1-i) l (gv,0) 1 vc 2 R.toArray 75 x E.ref.under qP F zeO (λj v hj=>by rw[Addr.add_lit,Nat.zero_add];exact(U.cell _).trans ze2) zhO c;exact za1
 obtain⟨c1,f⟩:=zq (Go.splice R (i*2) x);rw[<-f]at b;have p:c1.length=G*2:=zgV
 obtain⟨D,A⟩:=zq (u.setRow Z c1.toArray);have B:ag D Z 75 c1.toArray:=by rw[A];exact F.of_setRow _
 have N:ag D g 75 d.toArray:=ziq
 have m:w.grownBy D none:=zec
 rw[<-A]at b;have r:(xs.drop (i*2)).length=n*2-i*2:=zgb
 have z:∀ty l sc,(Builtin.copy_ #[58,58] ty #[.slice (some (Z,(i+1)*2)) (n-i) l,.slice (some (g,i*2)) (n-i) sc]).run Ao D.drew=.ok (goInt ((n-i:Nat):Int)) (D.drew.setRow Z (Go.splice c1 ((i+1)*2) (xs.drop (i*2))).toArray):=λty l sc=>by have:=fb (P:=Ao) D.drew 58 58 ty 75 Z ((i+1)*2) (n-i) l (g,i*2) (n-i) sc 2 c1.toArray 75 (xs.drop (i*2)) E.ref.under qP B.drew zfC (λj v hj=>by rw[Addr.add_lit];rw[List.getElem?_drop,h,List.getElem?_take]at hj;split at hj;(. exact(N.drew.cell _).trans ze2);. cases hj) zhW (λv hv=>h1 v (List.mem_of_mem_drop hv));exact zej
 have HB:ab (ag (D.drew.setRow Z (Go.splice c1 ((i+1)*2) (xs.drop (i*2))).toArray) Z 75 (Go.splice (Go.splice R (i*2) x) (i*2+2) (xs.drop (i*2))).toArray):=aa (by rw[<-f,show i*2+2=(i+1)*2 by omega];exact B.drew.of_setRow _);have Ku:ab (w.grownBy (D.drew.setRow Z (Go.splice c1 ((i+1)*2) (xs.drop (i*2))).toArray) none):=aa ⟨m.os,m.tape,m.output,by simpa[World.setRow]using m.size,λk hk hne=>by rw[setRow_other _ Z k _ om];exact m.block k hk hne⟩;have Lh:=aa C;have Eq:=aa H;have La:(n:Int)+1-(i:Int)=(k:Int):=om;have W:¬((i:Int)=(n:Int)):=om;have Kp:IntKind.i64.wrap ((i:Int)+1)=(i:Int)+1:=by rw[IntKind.wrap_i64];omega
 have Mk:((i:Int)+1).toNat=i+1:=om
 have Ka:(0:Int)<=(i:Int)+1:=om;have Ks:(i:Int)<=(n:Int):=om;have Kv:(i:Int)<=(n:Int)+1:=om;have Kc:¬(G=i+1):=om;have Lb:¬(G=i):=om;have Q:¬(cap=i):=om;clear f p B N m r h h1 c hg hv hs I F t U S H C A s hR hold o hG O M T L Lr J y hk Kj;go_enter Tryz.func130,Tryz.ntmps130
 go_wp2_with(first|(at_builtin;refine lX _ rfl (.tmp 34) (.tmp 39) 58 3 rfl _ _ rfl rfl (q _) ?_)|(at_builtin;refine wpList_copy_run _ rfl (.tmp 43) (.tmp 44) 58 58 rfl _ _ rfl rfl (b _ _) ?_))
 go_region_law (refine step_copy_run rfl _ _ 58 58 rfl _ _ zeZ zeZ (z _ _ _) ?_)
 exact zeq
theorem tA (fs:List Rf):∀i,(fs.flatMap bB).take (i*2)=(fs.take i).flatMap bB:=by
 induction fs with|nil=>intro i;simp|cons f r J=>(intro i;cases i with|zero=>simp|succ i=>(have e:(i+1)*2=(bB f).length+i*2:=zhe);exact zbJ)
theorem sK (fs:List Rf):∀i,(fs.flatMap bB).drop (i*2)=(fs.drop i).flatMap bB:=by
 induction fs with|nil=>intro i;simp|cons f r J=>(intro i;cases i with|zero=>simp|succ i=>(have e:(i+1)*2=(bB f).length+i*2:=zhe);exact zbY)
theorem pW (fs:List Rf) (i:Nat) (f:Rf):(fs.flatMap bB).take (i*2)++(bB f++(fs.flatMap bB).drop (i*2))=(ku i f fs).flatMap bB:=by
 rw[tA,sK,ku,List.flatMap_append,List.flatMap_cons]
theorem Cn (fs:List Rf) (i:Nat):(fs.flatMap bB).take (i*2)++(fs.flatMap bB).drop (i*2+2)=(fs.eraseIdx i).flatMap bB:=by
 rw[tA,show i*2+2=(i+1)*2 by omega,sK,List.eraseIdx_eq_take_drop_succ,List.flatMap_append]
theorem yP (A:Yy) (n cap i gv vc B:Nat) (fs:List Rf) (f:Rf) (w:World) (N:w.ownsRow B 75 2 (A,n,cap) n (fs.flatMap bB)) (hi:i<=n) (hn:n<=1099511627776) (hv:ag w gv 75 (bB f).toArray) (hne:(Value.slice A n cap).ownBlock≠some gv) (hB:B<=w.heap.size):Calls Ao 130 #[(A,n,cap),i,((gv,0),1,vc)] w λe w'=>∃U D,e=.returned (U,n+1,D)/\w'.ownsRow B 75 2 (.slice U (n+1) D) (n+1) ((ku i f fs).flatMap bB)/\w.grownBy w' (Value.ownBlock (A,n,cap)):=by
 have c:∀v∈bB f,v.oneCell'=true:=by intro v hv;simp[bB]at hv;rcases hv with rfl|rfl<;>rfl
 have hl:(fs.flatMap bB).length=n*2:=N.1
 have T:fs.length=n:=zih
 rcases Nat.lt_or_eq_of_le hi with hlt|rfl;. (rcases N.2 with⟨_,h0⟩|⟨g,D,d,b,h,hg,Lg,Kq,I,ht⟩);(. omega);. injection b with hA _ hc;subst hA hc;have m:gv≠g:=λe=>hne zfq;(have hg':ag w g 75 d.toList.toArray:=zfs);(have Kd:d.toList.length=cap*2:=zhG);(have h1:∀v∈d.toList.take (n*2),v.oneCell'=true:=by rw[ht];exact rO);by_cases a:n+1<=cap;(. (refine(AK g cap n i gv vc d.toList (bB f) w hlt a Kq m hg' Kd hv rfl h1 c).mono ?_);rintro e w' ⟨rfl,hb,F⟩;refine⟨_,_,rfl,⟨?_,.inr ⟨g,cap,_,rfl,h,hb,a,Kq,?_,?_⟩⟩,F⟩;(. rw[cW bB 2 (λ_=>rfl)];simp[ku];omega);(. rw[ht,List.size_toArray];(have hd:((fs.flatMap bB).drop (i*2)).length=n*2-i*2:=zfj);(have h3:(bB f).length=2:=rfl);have h4:=Go.length_splice d.toList (i*2+2) ((fs.flatMap bB).drop (i*2)) zgO;exact zca);. rw[ht,List.toList_toArray,show(n+1)*2=n*2+2 by omega,wI d.toList _ (bB f) (i*2) (n*2) 2 ht hl om rfl zhk,pW]);. (refine(AF g cap n i gv vc d.toList (bB f) w hlt om Lg hn hg' Kd hv rfl h1 c).mono ?_);rintro e w' ⟨G,R,rfl,V,K,C,H,hb,F⟩;refine⟨_,_,rfl,⟨?_,.inr ⟨w.heap.size,G,_,rfl,hB,hb,V,K,?_,?_⟩⟩,⟨F.os,F.tape,F.output,F.size,λk hk _=>F.block k hk (by simp)⟩⟩;(. rw[cW bB 2 (λ_=>rfl)];simp[ku];omega);(. rw[ht,List.size_toArray];(have hd:((fs.flatMap bB).drop (i*2)).length=n*2-i*2:=zfj);(have h3:(bB f).length=2:=rfl);have h4:=Go.length_splice R (i*2) (bB f) (by rw[h3,C];omega);exact zdk);. rw[ht]at H;rw[ht,List.toList_toArray,show(n+1)*2=n*2+2 by omega,xF R _ (bB f) (i*2) (n*2) 2 H hl om rfl (by rw[C];omega),pW]
 . (refine(EO A i cap gv vc B _ (bB f) w N hv rfl c hn hB).mono ?_);rintro e w' ⟨U,D,rfl,ho,F⟩;refine⟨U,D,rfl,?_,F⟩;rw[<-pW,List.take_of_length_le om,List.drop_eq_nil_of_le om,List.append_nil];exact ho
theorem Hk:∀w,(zeroValue 75).run Ao w=.ok (.agg #[s_,s_]) w:=by
 intro w;obtain⟨Y,L,h0,h1,_⟩:=info_parts E.ref.info;simp[zeroValue,typeInfo,L,h0]
theorem DD (g cap n i:Nat) (d:List Value) (w:World) (hi:i<n) (Lg:n<=cap) (q:cap<=maxLen) (hn:n<=1099511627776) (hg:ag w g 75 d.toArray) (hs:d.length=cap*2) (h1:∀v∈d.take (n*2),v.oneCell'=true):Calls Ao 129 #[.slice (some ⟨g,0,none⟩) n cap,.int .i64 (i:Int),.int .i64 ((i:Int)+1)] w λe w'=>e=.returned (.slice (some ⟨g,0,none⟩) (n-1) cap)/\ag w' g 75 (Go.splice (Go.splice d (i*2) ((d.take (n*2)).drop (i*2+2))) (n*2-2) [.string (bs []),.string (bs [])]).toArray/\w.grownBy w' (some g):=by
 have I:(d.take (n*2)).length=n*2:=zeA
 obtain⟨Y,L,O,M,T⟩:=info_parts E.ref.info;obtain⟨b,l⟩:=zq ((d.take (n*2)).drop (i*2+2));have y:b.length=(n-(i+1))*2:=ziL
 have r:∀v∈b,v.oneCell'=true:=λv hv=>h1 v zha;have a:∀j v,b[j]?=some v->w.cell? ⟨g,i*2+2+j,none⟩=some v:=λj v hj=>by exact zel
 rw[<-l];obtain⟨c1,f⟩:=zq (Go.splice d (i*2) b);have p:c1.length=cap*2:=zgP
 have o:∀ad ty c,(0<n-(i+1)->ad=⟨g,(i+1)*2,none⟩)->(Builtin.append_ #[58,58] ty #[.slice (some ⟨g,0,none⟩) i cap,.slice (some ad) (n-(i+1)) c]).run Ao w.drew=.ok (.slice (some ⟨g,0,none⟩) (n-1) cap) (w.drew.setRow g c1.toArray):=λad ty c had=>by have:=run_append_room (P:=Ao) w.drew 58 ty 75 Y E.ref.under L g i cap d.toArray hg.drew ad (n-(i+1)) c b (by rw[M];exact y) (λj u hu=>by(have h0:0<n-(i+1):=zef);rw[had h0,Addr.add_lit];exact(by simpa using a j u hu:w.drew.cell? ⟨g,i*2+2+j,none⟩=some u)|>λh=>by rw[show(i+1)*2+j=i*2+2+j by omega];exact h) r om zhD;exact zd3
 have H:ag (w.drew.setRow g c1.toArray) g 75 c1.toArray:=hg.drew.of_setRow _;obtain⟨D,A⟩:=zq (w.drew.setRow g c1.toArray);have m:w.grownBy D (some g):=zdH
 rw[<-A]at o H;have Kd:∀ty c,(Builtin.clear_ #[58] ty #[.slice (some ⟨g,(n-1)*2,none⟩) 1 c]).run Ao D=.ok (.tuple #[]) (D.setRow g (Go.splice c1 (n*2-2) [.string (bs []),.string (bs [])]).toArray):=λty c=>by have:=oG (P:=Ao) D 58 75 ty _ E.ref.under Hk g ((n-1)*2) c c1.toArray 75 H (by(have:(Value.agg #[.string (bs []),.string (bs [])]).cells.size=2:=E.ref.zcells);rw[this,List.size_toArray,p];omega) zgU;rw[this,show(n-1)*2=n*2-2 by omega];rfl
 have HB:ab (ag (D.setRow g (Go.splice c1 (n*2-2) [.string (bs []),.string (bs [])]).toArray) g 75 (Go.splice (Go.splice d (i*2) b) (n*2-2) [.string (bs []),.string (bs [])]).toArray):=aa ziD;have Ku:ab (w.grownBy (D.setRow g (Go.splice c1 (n*2-2) [.string (bs []),.string (bs [])]).toArray) (some g)):=aa ⟨m.os,m.tape,m.output,by simpa[World.setRow]using m.size,λk hk hne=>by rw[setRow_other _ g k _ (λe=>hne (by rw[e]))];exact m.block k hk hne⟩;have W:¬((i:Int)=(i:Int)+1):=om;have Mk:((i:Int)+1).toNat=i+1:=om
 have Ka:(0:Int)<=(i:Int)+1:=om;have Ks:(i:Int)+1<=(n:Int):=om;have Lb:¬(cap=i):=om;have Q:¬(cap=n-1):=om;have Kv:(i:Int)<=(n:Int):=om;have Kq:(i:Int)<=(cap:Int):=om;have Nn:(n:Int)<=(cap:Int):=om;have Lt:n-(n-1)=1:=om;have s:(i:Int)<=(i:Int)+1:=om;clear f p H h1 hg hs I A O M T L m l y r a;by_cases My:cap=i+1;. subst My;(go_enter Tryz.func129,Tryz.ntmps129);(go_wp2_with fail);(go_region_law (refine jm (v:=.slice (some ⟨g,0,none⟩) i (i+1)) (u:=.slice (some ⟨g,0,none⟩) (n-(i+1)) 0) rfl (.tmp 22) (.tmp 25) 58 58 rfl ?hd ?hx (o ⟨g,0,none⟩ _ _ ?had) ?_;(case hd=>simp[Act.eval,Act.put]);(case hx=>simp[Act.eval,Act.put];try omega);(case had=>intro h;omega)));exact zbr
 . (go_enter Tryz.func129,Tryz.ntmps129);(go_wp2_with fail);(go_region_law (refine jm (v:=.slice (some ⟨g,0,none⟩) i cap) (u:=.slice (some ⟨g,(i+1)*2,none⟩) (n-(i+1)) (cap-(i+1))) rfl (.tmp 22) (.tmp 25) 58 58 rfl ?hd ?hx (o ⟨g,(i+1)*2,none⟩ _ _ ?had) ?_;(case hd=>simp[Act.eval,Act.put]);(case hx=>simp[Act.eval,Act.put];try omega);(case had=>intro h;rfl)));exact zbr
theorem yV (A:Yy) (n cap i B:Nat) (fs:List Rf) (w:World) (N:w.ownsRow B 75 2 (.slice A n cap) n (fs.flatMap bB)) (hi:i<n) (hn:n<=1099511627776):Calls Ao 129 #[.slice A n cap,.int .i64 (i:Int),.int .i64 ((i:Int)+1)] w λe w'=>e=.returned (.slice A (n-1) cap)/\w'.ownsRow B 75 2 (.slice A (n-1) cap) (n-1) ((fs.eraseIdx i).flatMap bB)/\w.grownBy w' (Value.ownBlock (.slice A n cap)):=by
 have hl:(fs.flatMap bB).length=n*2:=N.1
 have T:fs.length=n:=zih
 rcases N.2 with⟨_,h0⟩|⟨g,D,d,b,h,hg,Lg,Kq,I,ht⟩
 . omega
 . injection b with hA _ hc;subst hA hc;(have hg':ag w g 75 d.toList.toArray:=zfs);(have Kd:d.toList.length=cap*2:=zhG);(have h1:∀v∈d.toList.take (n*2),v.oneCell'=true:=by rw[ht];exact rO);(refine(DD g cap n i d.toList w hi Lg Kq hn hg' Kd h1).mono ?_);rintro e w' ⟨rfl,hb,F⟩;(have hd:((fs.flatMap bB).drop (i*2+2)).length=n*2-(i*2+2):=zfj);refine⟨rfl,⟨?_,.inr ⟨g,cap,_,rfl,h,hb,om,Kq,?_,?_⟩⟩,F⟩;(. rw[cW bB 2 (λ_=>rfl),List.length_eraseIdx_of_lt om];omega);(. rw[ht,List.size_toArray];have h4:=Go.length_splice d.toList (i*2) ((fs.flatMap bB).drop (i*2+2)) zgO;exact zb7);. rw[ht,List.toList_toArray,show(n-1)*2=n*2-2 by omega,xl d.toList _ (i*2) (n*2) 2 ht hl om zhk _ rfl,Cn]
theorem Bn (fs:List Rf) (A:Yy) (n cap:Nat) (w:World) (hn:n<=1099511627776) (hx:cQ w A n fs) (hA:A=none->n=0/\cap=0):Calls Ao 128 #[(A,n,cap)] w λe w'=>∃U D,e=.returned (U,n,D)/\w'.ownsRow w.heap.size 75 2 (.slice U n D) n (fs.flatMap bB)/\Gr w w':=by
 cases A with|none=>(obtain⟨rfl,rfl⟩:=hA rfl;have hl:=hx.len;obtain rfl:fs=[]:=List.eq_nil_of_length_eq_zero hl;(have hq:∀w,(eqGuard .eql 58 (.tmp 3) (.const n_) n_ n_).run Ao w=.ok () w:=zgN);(have hz:∀w,(binOp .eql 58 n_ n_).run Ao w=.ok true w:=λw=>Lib.run_eql_slice_nil w _ _ none 0 0 0 0 Tryz.underlying58);(go_enter Tryz.func128,Tryz.ntmps128);exact zcJ)|some ad=>(have hq:∀w,(eqGuard .eql 58 (.tmp 3) (.const n_) (.slice (some ad) n cap) n_).run Ao w=.ok () w:=zgN);(have hz:∀w,(binOp .eql 58 (.slice (some ad) n cap) n_).run Ao w=.ok false w:=λw=>Lib.run_eql_slice_nil w _ _ (some ad) n cap 0 0 Tryz.underlying58);have Ka:(0+n)*32<=140737488355328:=om;(have Kc:0+n<=maxLen:=zc1);have O:=aa hx;clear hx;(go_enter Tryz.func128,Tryz.ntmps128);(go_wp2_with(refine bQ E.ref rfl (.tmp 5) (.tmp 6) rfl (B:=w.heap.size) (A0:=some ⟨w.heap.size,0,none⟩) (n0:=0) (cap0:=0) (xs:=[]) rfl (World.ownsRow_lit w #[] 0 (Dg _) (by simp) rfl) rfl (cQ.gr O.o ((B4 w).alloc _)) hA rO Ka Kc (by simp) ?_;intro U c' w' N d));exact zaY
end Go.Proofs.YtdpombnelangjaaGreatDoor
