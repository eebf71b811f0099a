/- Lemmas, each with its conditions. -/
import Derived.Test.YtdpombnelangjaaGreatDoorP12
import Derived.Test.YtdpombnelangjaaGreatDoorP18
import Derived.Shelf.Sort.Plain
import Derived.Shelf.Slices.In.SortNone
import Derived.Sort.OwnSorted
namespace Go.Proofs.YtdpombnelangjaaGreatDoor
open Go.RowKit
set_option maxRecDepth 100000
set_option maxHeartbeats 64000000
open Go.Proofs.Tryz renaming prog → Ao
open Calls renaming mono → Bo
open Gr renaming refl → B4
open Nat renaming le_refl → Dg
section
open Go.Shelf
def Gx:Go.Shelf.Ren:=⟨fun|190=>112|125=>155|258=>154|128=>191|129=>192|302=>182|303=>183|304=>184|305=>185|306=>186|307=>187|308=>188|309=>189|310=>190|333=>212|329=>213|330=>214|334=>215|335=>216|336=>217|344=>228|n=>n,fun|31=>48|9=>9|3=>3|46=>155|0=>0|51=>137|53=>203|4=>4|183=>265|182=>264|131=>193|5=>5|218=>283|222=>287|228=>294|229=>295|n=>n,λn=>n⟩
theorem xM:Lays.n190 Ao Gx:={
 mixed:=zc0
 f125:=Tryz.func155.trans (congrArg some zc0)
 f128:=Tryz.func191.trans (congrArg some zc0)
 f129:=Tryz.func192.trans (congrArg some zc0)
 f190:=Tryz.func112.trans (congrArg some zc0)
 f258:=Tryz.func154.trans (congrArg some zc0)
 f302:=Tryz.func182.trans (congrArg some zc0)
 f303:=Tryz.func183.trans (congrArg some zc0)
 f304:=Tryz.func184.trans (congrArg some zc0)
 f305:=Tryz.func185.trans (congrArg some zc0)
 f306:=Tryz.func186.trans (congrArg some zc0)
 f307:=Tryz.func187.trans (congrArg some zc0)
 f308:=Tryz.func188.trans (congrArg some zc0)
 f309:=Tryz.func189.trans (congrArg some zc0)
 f310:=Tryz.func190.trans (congrArg some zc0)
 f329:=Tryz.func213.trans (congrArg some zc0)
 f330:=Tryz.func214.trans (congrArg some zc0)
 f333:=Tryz.func212.trans (congrArg some zc0)
 f334:=Tryz.func215.trans (congrArg some zc0)
 f335:=Tryz.func216.trans (congrArg some zc0)
 f336:=Tryz.func217.trans (congrArg some zc0)
 f344:=Tryz.func228.trans (congrArg some zc0)
 t0:=Tryz.underlying0
 a0:=Tryz.isAgg0
 z0:=Tryz.sizeOf0
 v0:=Tryz.zeroValue0
 t3:=Tryz.underlying3
 a3:=Tryz.isAgg3
 z3:=Tryz.sizeOf3
 v3:=Tryz.zeroValue3
 t4:=Tryz.underlying4
 a4:=Tryz.isAgg4
 z4:=Tryz.sizeOf4
 v4:=Tryz.zeroValue4
 t5:=Tryz.underlying5
 a5:=Tryz.isAgg5
 z5:=Tryz.sizeOf5
 v5:=Tryz.zeroValue5
 t9:=Tryz.underlying9
 a9:=Tryz.isAgg9
 z9:=Tryz.sizeOf9
 v9:=Tryz.zeroValue9
 t31:=Tryz.underlying48
 a31:=Tryz.isAgg48
 z31:=Tryz.sizeOf48
 v31:=Tryz.zeroValue48
 t46:=Tryz.underlying155
 a46:=Tryz.isAgg155
 z46:=Tryz.sizeOf155
 v46:=Tryz.zeroValue155
 t51:=Tryz.underlying137
 a51:=Tryz.isAgg137
 z51:=Tryz.sizeOf137
 v51:=Tryz.zeroValue137
 t53:=Tryz.underlying203
 a53:=Tryz.isAgg203
 z53:=Tryz.sizeOf203
 v53:=Tryz.zeroValue203
 t131:=Tryz.underlying193
 a131:=Tryz.isAgg193
 z131:=Tryz.sizeOf193
 v131:=Tryz.zeroValue193
 t182:=Tryz.underlying264
 a182:=Tryz.isAgg264
 z182:=Tryz.sizeOf264
 v182:=Tryz.zeroValue264
 t183:=Tryz.underlying265
 a183:=Tryz.isAgg265
 z183:=Tryz.sizeOf265
 v183:=Tryz.zeroValue265
 t218:=Tryz.underlying283
 a218:=Tryz.isAgg283
 z218:=Tryz.sizeOf283
 v218:=Tryz.zeroValue283
 t222:=Tryz.underlying287
 a222:=Tryz.isAgg287
 z222:=Tryz.sizeOf287
 v222:=Tryz.zeroValue287
 t228:=Tryz.underlying294
 a228:=Tryz.isAgg294
 z228:=Tryz.sizeOf294
 v228:=Tryz.zeroValue294
 t229:=Tryz.underlying295
 a229:=Tryz.isAgg295
 z229:=Tryz.sizeOf295
 v229:=Tryz.zeroValue295}
end
theorem Di (L:List (Y0)) (A:Yy) (n c B:Nat) (w:World) (h:w.ownsRow B 9 1 (.slice A n c) n (L.map aC)) (hn:n<=1099511627776):Calls Ao 112 #[.slice A n c] w λe w'=>e=.returned (.tuple #[])/\w'.ownsRow B 9 1 (.slice A n c) n ((L.mergeSort λx y=>decide (x<=y)).map aC)/\w.grownBy w' (Value.slice A n c).ownBlock:=by
 have hl:L.length=n:=zgT
 rcases h.2 with⟨hv,h0⟩|⟨g,cap,d,hv,hB,hg,Lg,Kq,I,ht⟩
 . injection hv with hA Ki hc;subst hA Ki hc;obtain rfl:L=[]:=List.eq_nil_of_length_eq_zero hl;refine Bo (show Calls Ao 112 #[.slice none 0 0] w _ from Go.Proofs.Any.slices_Sort_string_none xM none 0 w) ?_;rintro e w' ⟨rfl,rfl⟩;exact⟨rfl,by rw[List.mergeSort_nil];exact h,⟨rfl,rfl,rfl,Dg _,λ_ _ _=>rfl⟩⟩
 . injection hv with hA _ hc;subst hA hc;subst hl;rw[Nat.mul_one]at ht;have a:Go.Sort.Holds encStr w g 0 L.toArray:=holds_of_block hg ht;(have hlt:g<w.heap.size:=(Array.getElem?_eq_some_iff.1 hg).1);refine Bo (show Calls Ao 112 #[.slice (some ⟨g,0,none⟩) L.length c] w _ from Go.Proofs.Any.slices_Sort_string xM g 0 c L w a hlt om) ?_;rintro e w' ⟨rfl,k,os,rfl⟩;exact⟨rfl,ownsRow_sorted (by simp) hB hg Lg Kq I,grownBy_sorted _⟩
def sy (w:World) (G:Tl) (ids:List (Y0)) (e:Ending) (w':World):Prop:=
 ∃L A n c er,jc G ids (L,er)/\e=.returned (.tuple #[(A,n,c),.int .i64 er])/\aE w' A n L/\(A=none->n=0/\c=0)/\n<=c/\L.length<=400/\Gr w w'
theorem da.last {w:World} {B m cap:Nat} {A:Yy} {ys:List (Y0)} {x:Y0} (h:da w B A (m+1) cap ((ys++[x]).map aC)) (hy:ys.length=m):∃g off,A=some ⟨g,off,none⟩/\w.cell? ⟨g,off+m,none⟩=x/\da w B A m cap (ys.map aC):=by
 rcases h.lies with⟨_,h0⟩|⟨g,off,e,_,h2,_⟩;. have:=h.le;omega
 . have V:=h.pop;refine⟨g,off,e,h2 m _ ?_,?_⟩;(. rw[List.map_append,List.getElem?_append_right zfm,List.length_map,hy,Nat.sub_self];rfl);. rw[List.map_append,List.take_append_of_le_length zfm,List.take_of_length_le zfm]at V;exact V
theorem a6.below {α:Type} {k e:TypeId} {mk:α->Lit} {w w':World} {B b c:Nat} {f:Y0->Option α} (h:a6 k e mk w b c f) (g:Below B w w') (hb:b<B):a6 k e mk w' b c f:=by
 obtain⟨Ke,⟨es,i,e1,e2⟩,h2⟩:=h;exact⟨Ke,⟨es,i,by rw[g.block b hb];exact e1,e2⟩,h2⟩
theorem DV {w:World} {b o:Nat} {es:Array MapEntry} {k:Nat} (h:w.heap[b]?=some (.map es k)):w.cell? (b,o)=none:=by simp[World.cell?,h]
theorem ak.aside {α:Type} {k e:TypeId} {mk:α->Lit} {w w':World} {b c size n:Nat} {A:Yy} {f:Y0->Option α} {vs:List Value} (h:ak w size A n vs) (hm:a6 k e mk w b c f) (hg:w.grownBy w' (some b)):ak w' size A n vs:=by
 obtain⟨Ke,⟨es,i,e1,_⟩,_⟩:=hm;refine h.keep λb' o v hv _=>?_;have hne:b'≠b:=λe=>by subst e;rw[DV e1]at hv;cases hv
 have hlt:=World.block_lt_of_cell? w _ hv;rw[World.cell?_of_block (a:=(b',o)) (hg.block b' hlt (λe=>hne zgR))];exact hv
theorem eC.aside {α:Type} {k e:TypeId} {mk:α->Lit} {w w':World} {b c':Nat} {f:Y0->Option α} {o:Ob} {A:Yy} {c:Nat} {B:Yy} {d:Nat} (h:eC w o A c B d) (hm:a6 k e mk w b c' f) (hg:w.grownBy w' (some b)):eC w' o A c B d:=
 ⟨ak.aside h.ents hm hg,ak.aside h.pars hm hg,h.en,h.pn,h.ec,h.pc⟩
theorem Gr.low {B:Nat} {a b c:World} (h:Gr a b) (g:Below B b c) (hB:a.heap.size<=B):Gr a c:=Below.trans h (Below.mono g hB)
theorem vb (g:Nat) (M:Array Value) (G:Tl) (eg:∀args w,(callFunc g args).run Ao w=.ok (.enter g args) w) (ids:List (Y0)) (A:Yy) (n c:Nat) (w:World) (hT:lD g M G w) (hG:∀x,(G x).1.length<=1048576) (hx:aE w A n ids) (hn:n<=1099511627776) (hA:A=none->n=0/\c=0) (hs:∀x∈ids,x.length<=1099511627776):Calls Ao 67 #[.func (.func g) #[] M,(A,n,c)] w (sy w G ids):=by
 have Lb:=hx.len;obtain⟨J,H⟩:=zq (w.alloc (.map #[] 0));have Lm:(Instr.makeMap 188 none).run Ao w=.ok (.map (some w.heap.size)) J:=by rw[H];rfl
 have M0:a6 9 4 Lit.bool J w.heap.size 0 (eM []):=ziK
 have g0:Gr w J:=zc5
 have Kl:w.heap.size<J.heap.size:=zhF
 obtain⟨b,hb⟩:=zq (w.heap.size);rw[<-hb]at Lm M0 Kl;have O:=aa (hx.gr g0);have HA:=aa hA;have HT:=aa hT;have Kq:=aa hs;have Ky:=aa hG;have Km:=aa Kl;have HB:=aa hb;clear hx hA hT hs hG H Kl hb;go_enter Tryz.func67,Tryz.ntmps67
 go_wp2_with(first|(go_at_call 110;(with_reducible refine Bo (Bh ids A n c _ hn O.o HA.o) ?_);rintro e w1 ⟨A1,c1,rfl,o1,I⟩))
 have D:=aa (da.own o1);have M1:=aa (M0.gr I);have G1:=aa (And.intro (g0.trans I) I.size);clear M0 g0 I o1;go_loopg [7,8,9] (n+65*400) (λfuel wv lv gv wr=>∃(W S:List (Y0)) (m:Nat) (B:Yy) (d:Nat) (lk wg:Bool),wv=.slice B m d/\lv=.bool lk/\gv=.bool wg/\m+65*(400-S.length)<=fuel/\S.length<=400/\m<=n+64*S.length∧ab (Rc G ids S W.reverse lk wg/\W.length=m/\(∀x∈W,x.length<=1099511627776)/\(∀x∈S,x.length<=1099511627776))/\ab (da wr J.heap.size B m d (W.map aC)/\a6 9 4 Lit.bool wr b S.length (eM S)/\Gr w wr/\J.heap.size<=wr.heap.size))
 case atStart=>exact⟨ids,[],n,A1,c1,false,false,rfl,rfl,rfl,by simp,by simp,by simp,aa ⟨(Rc.start G ids).perm (λx=>by simp),Lb,Kq.o,by simp⟩,aa ⟨D.o,M1.o,G1.o⟩⟩
 case round=>clear D M1 G1;obtain⟨W,S,m,B,d,lk,wg,rfl,rfl,rfl,hf,hS,j,HR,HM⟩:=hrel;by_cases hm:0<m;(. obtain⟨m',rfl⟩:∃m',m=m'+1:=⟨m-1,om⟩;obtain⟨ys,x,rfl⟩:∃ys x,W=ys++[x]:=⟨W.dropLast,W.getLast (by intro e;have:=HR.o.2.1;rw[e]at this;simp at this),(List.dropLast_concat_getLast _).symm⟩;(have Kb:ys.length=m':=by have:=HR.o.2.1;rw[List.length_append]at this;simpa using this);(obtain⟨q,off,rfl,e0,u⟩:=da.last HM.o.1 Kb);have HW:=aa u;have Mb:(0:Int)<(m':Int)+1:=om;(have R:IntKind.i64.wrap ((m':Int)+1-1)=(m':Int):=by rw[IntWalk.i64_in _ om];omega);have Mc:m'<=d:=u.le;(have Kp:x.length<=1099511627776:=HR.o.2.2.1 x (by simp));(have Kk:x.length<=maxLen:=zc1);have Kf:ab (Rc G ids S (x::ys.reverse) lk wg):=aa (by have:=HR.o.1;rwa [List.reverse_append,List.reverse_singleton,List.singleton_append]at this);have Eq:ab (∀y∈ys,y.length<=1099511627776):=aa (λy hy=>HR.o.2.2.1 y (List.mem_append_left _ hy));(have Il:ab (∀y∈S,y.length<=1099511627776):=aa HR.o.2.2.2);have z:=aa Kb;clear u HR Kb;by_cases p:x∈S;(. (have Lw:(eM S x).getD false=true:=by rw[nQ,decide_eq_true p]);have HV:ab (uG G S lk wg x):=aa (.inl p);clear p;(go_wp2_with(refine dB MB rfl (.tmp 33) (.tmp 34) rfl rfl HM.o.2.1 rfl Kk Lw ?_));(go_roundg (gk-1));(case rel=>exact⟨ys,S,m',_,d,lk,wg,rfl,rfl,rfl,om,hS,om,aa ⟨Kf.o.pop HV.o,z.o,Eq.o,Il.o⟩,aa ⟨HW.o,HM.o.2⟩⟩);case measure=>omega);(have Lw:(eM S x).getD false=false:=by rw[nQ,decide_eq_false p]);have Ng:=aa p;have Ka:ab (∀W,Gr w W->Calls Ao g (#[.string (bs x)]++M) W λe w'=>e=.returned (.tuple #[(G x).1,.int .i64 (G x).2])/\Gr W w'):=aa (λW h=>HT.o W x h Kp);have Ld:=Ky.o x;obtain⟨⟨s,Y⟩,La⟩:=zq (G x);rw[<-La]at Ka Ld;simp only at Ka Ld;have HE:ab (G x=(s,Y)):=aa La.symm;clear La p;by_cases Ku:Y=0;(case neg=>(have Lq:(Y !=0)=true:=by rw[bne_iff_ne];exact Ku);have HL:ab ((G x).2≠0):=aa (by rw[HE.o];exact Ku);clear Ku;(go_wp2_with(first|(refine dB MB rfl (.tmp 33) (.tmp 34) rfl rfl HM.o.2.1 rfl Kk Lw ?_)|(refine Bo (Ka.o wr HM.o.2.2.1) ?_;rintro e w2 ⟨rfl,Z⟩)));(go_roundg (gk-1));(case rel=>exact⟨ys,S,m',_,d,true,wg,rfl,rfl,rfl,om,hS,om,aa ⟨Kf.o.lack HL.o,z.o,Eq.o,Il.o⟩,aa ⟨HW.o.gr Z,HM.o.2.1.gr Z,HM.o.2.2.1.trans Z,Nat.le_trans HM.o.2.2.2 Z.size⟩⟩);case measure=>omega);subst Ku;have Lq:((0:Int)!=0)=false:=dc0;have HD:ab (∀W,Calls Ao 43 #[s] W (jR W (cO s))):=aa (λW=>lG s W om);(have HZ:ab (ju 1099511627776 (cO s).1):=aa (xA s om).1);have f:ab ((G x).2=0/\(cO (G x).1)=cO s):=aa (by rw[HE.o];exact⟨rfl,rfl⟩);have Lc:ab ((cO s).2=0->uA G x=mg (cO s).1/\(mg (cO s).1).length<=64/\∀y∈mg (cO s).1,y.length<=32):=aa (λh=>by have h1:=IS (G:=G) (x:=x) ⟨f.o.1,by rw[f.o.2];exact h⟩;unfold uA at h1⊢;rw[f.o.2]at h1⊢;exact⟨rfl,h1⟩);obtain⟨⟨o,oe⟩,hO⟩:=zq (cO s);rw[<-hO]at HD HZ f Lc;simp only at HZ Lc;clear hO HE;have Ma:ab (True):=aa trivial;by_cases i:oe=0;(case neg=>(have Me:(oe !=0)=true:=by rw[bne_iff_ne];exact i);have P:ab ((cO (G x).1).2≠0):=aa (by rw[f.o.2];exact i);clear i Lc;(go_wp2_with(first|(refine dB MB rfl (.tmp 33) (.tmp 34) rfl rfl HM.o.2.1 rfl Kk Lw ?_)|(go_at_call 43;(with_reducible refine Bo (HD.o _) ?_);rintro e w3 ⟨A3,c3,B3,d3,rfl,r3,g3⟩)|(refine ah rfl 97 (.tmp 13) (.tmp 47) rfl (g:=w3.heap.size) (cs':=bh o A3 c3 B3 d3) rfl rfl (ag.new w3 _ _) aK rfl (bx _ _ _ _ _) ?_;intro w4 h4 Q)|(refine Bo (Ka.o wr HM.o.2.2.1) ?_;rintro e w2 ⟨rfl,Z⟩)));(have g4:Gr wr w4:=(Z.trans g3).trans (Gr.only ((B4 w3).alloc _) Q (Dg _)));(go_roundg (gk-1));(case rel=>exact⟨ys,S,m',_,d,lk,true,rfl,rfl,rfl,om,hS,om,aa ⟨Kf.o.wrongd f.o.1 P.o,z.o,Eq.o,Il.o⟩,aa ⟨HW.o.gr g4,HM.o.2.1.gr g4,HM.o.2.2.1.trans g4,Nat.le_trans HM.o.2.2.2 g4.size⟩⟩);case measure=>omega);subst i;have K:ab (Dj G x):=aa ⟨f.o.1,by rw[f.o.2]⟩;by_cases Kx:400<=S.length;(. have Mf:(400:Int)<=(S.length:Int):=om;have Mg:ab (vS G ids):=aa ((Kf.o.seen Ng.o K.o).big (by rw[List.length_append];simp;omega));clear Kx Lc;(go_wp2_with(first|(refine dB MB rfl (.tmp 33) (.tmp 34) rfl rfl HM.o.2.1 rfl Kk Lw ?_)|(go_at_call 43;(with_reducible refine Bo (HD.o _) ?_);rintro e w3 ⟨A3,c3,B3,d3,rfl,r3,g3⟩)|(refine ah rfl 97 (.tmp 13) (.tmp 47) rfl (g:=w3.heap.size) (cs':=bh o A3 c3 B3 d3) rfl rfl (ag.new w3 _ _) aK rfl (bx _ _ _ _ _) ?_;intro w4 h4 Q)|(refine qR MB rfl (.tmp 51) rfl rfl (HM.o.2.1.gr ((Z.trans g3).trans (Gr.only ((B4 w3).alloc _) Q (Dg _)))) ?_)|(refine Bo (Ka.o wr HM.o.2.2.1) ?_;rintro e w2 ⟨rfl,Z⟩)));(have g4:Gr wr w4:=(Z.trans g3).trans (Gr.only ((B4 w3).alloc _) Q (Dg _)));go_ret2;exact⟨[],none,0,0,6,.inl ⟨Mg.o,rfl⟩,rfl,ak.nil _ _ _,λ_=>⟨rfl,rfl⟩,Dg _,by simp,HM.o.2.2.1.trans g4⟩);have Mf:¬(400:Int)<=(S.length:Int):=om;obtain⟨Kg,Ke,Lr⟩:=Lc.o rfl;have Kw:=aa Kg;have Li:=aa Lr;(have Ks:S.length<maxLen:=zc1);obtain⟨Lk,Le⟩:=zq (mg o);have Mh:ab (∀A c B d W,eC W o A c B d->Calls Ao 111 #[.agg (bh o A c B d)] W (xE W Lk)):=aa (λA c B d W h=>by rw[Le];exact yO o A c B d W h HZ.o);rw[<-Le]at Ke Kw Li;have Mj:m'<=1099511627776+64*401:=om;clear Kg Lr Le Lc Kx;(go_wp2_with(first|(refine dB MB rfl (.tmp 33) (.tmp 34) rfl rfl HM.o.2.1 rfl Kk Lw ?_)|(go_at_call 43;(with_reducible refine Bo (HD.o _) ?_);rintro e w3 ⟨A3,c3,B3,d3,rfl,r3,g3⟩)|(refine ah rfl 97 (.tmp 13) (.tmp 47) rfl (g:=w3.heap.size) (cs':=bh o A3 c3 B3 d3) rfl rfl (ag.new w3 _ _) aK rfl (bx _ _ _ _ _) ?_;intro w4 h4 Q;have Kc:Gr w3 w4:=Gr.only ((B4 w3).alloc _) Q (Dg _);have g4:Gr wr w4:=(Z.trans g3).trans Kc;have M4:=aa (HM.o.2.1.gr g4))|(refine qR MB rfl (.tmp 51) rfl rfl M4.o ?_)|(refine ir MB rfl (.tmp 54) (.tmp 55) (.const true) rfl rfl M4.o Ks rfl Kk (y:=true) rfl trivial ?_;intro w5 m5 h5;have M5:=aa m5;clear m5;have H4:=aa (And.intro h4 (r3.gr Kc));have Lt:w3.heap.size≠b:=(by have:=HM.o.2.1.lt;have:=(Z.trans g3).size;omega))|(refine az rfl 97 (.tmp 13) rfl (g:=w3.heap.size) rfl (cs:=bh o A3 c3 B3 d3) (H4.o.1.only h5 Lt) aK ?_)|(go_at_call 111;(with_reducible refine Bo (Mh.o A3 c3 B3 d3 _ (H4.o.2.aside M4.o h5)) ?_);rintro e w6 ⟨A6,c6,n6,rfl,rfl,r6,Mi,Mo,g6⟩;have W6:=((HW.o.gr g4).apart h5 zgz).gr g6;have S6:J.heap.size<=w6.heap.size:=Nat.le_trans HM.o.2.2.2 (Nat.le_trans g4.size (Nat.le_trans h5.size g6.size));have Kv:(m'+Lk.length)*16<=140737488355328:=om;have Lf:m'+Lk.length<=maxLen:=zc1)|(at_builtin;refine mn E.str rfl (.tmp 56) (.tmp 58) rfl rfl W6 rfl r6 Mi (λv hv=>by obtain⟨l,_,rfl⟩:=List.mem_map.1 hv;rfl) Kv Lf S6 ?_;intro A7 c7 w7 W7 b7)|(refine Bo (Ka.o wr HM.o.2.2.1) ?_;rintro e w2 ⟨rfl,Z⟩)));(go_roundg (gk-1));(case rel=>refine⟨ys++Lk,S++[x],m'+Lk.length,A7,c7,lk,wg,rfl,rfl,rfl,?_,?_,?_,aa ⟨?_,?_,?_,?_⟩,aa ⟨?_,?_,?_,?_⟩⟩;(. exact zcA);(. exact zcA);(. exact zcA);(. have h1:=Kf.o.seen Ng.o K.o;rw[Kw.o]at h1;exact h1.perm (λy=>by simp only[List.reverse_append,List.mem_append,List.mem_reverse];exact Or.comm));(. rw[List.length_append,z.o]);(. intro y hy;(rcases List.mem_append.1 hy with hy|hy);(. exact Eq.o y hy);. have:=Li.o y hy;omega);(. intro y hy;(rcases List.mem_append.1 hy with hy|hy);(. exact Il.o y hy);. simp only[List.mem_singleton]at hy;subst hy;exact Kp);(. rw[List.map_append];exact W7);(. (have h1:=(M5.o.gr g6).below b7 Km.o);rw[vj,uo Ng.o]at h1;exact h1);(. exact Gr.low (Gr.trans (Gr.only (HM.o.2.2.1.trans g4) h5 zfB) g6) b7 (Nat.le_of_lt zho));. exact Nat.le_trans S6 b7.size);case measure=>omega);. obtain rfl:m=0:=om;(obtain rfl:W=[]:=List.eq_nil_of_length_eq_zero HR.o.2.1);have Ki:ab (jc G ids (if lk=true then([],7)else if wg=true then([],2)else(S.mergeSort λx y=>decide (x<=y),0))):=aa (by(have h1:=nX HR.o.1.nd);exact HR.o.1.spec hS h1.1 h1.2.1);have Il:ab (∀y∈S,y.length<=maxLen):=aa (λy hy=>by have:=HR.o.2.2.2 y hy;unfold maxLen;omega);(have Ms:=aa HR.o.1.nd);clear HR hm;cases lk with|true=>have HQ:ab (jc G ids ([],7)):=aa (by have:=Ki.o;rwa [if_pos rfl]at this);(go_wp2_with fail);go_ret2;exact⟨[],none,0,0,7,HQ.o,rfl,ak.nil _ _ _,λ_=>⟨rfl,rfl⟩,Dg _,by simp,HM.o.2.2.1⟩|false=>(cases wg with|true=>have HQ:ab (jc G ids ([],2)):=aa (by have:=Ki.o;rwa [if_neg dc0,if_pos rfl]at this);(go_wp2_with fail);go_ret2;exact⟨[],none,0,0,2,HQ.o,rfl,ak.nil _ _ _,λ_=>⟨rfl,rfl⟩,Dg _,by simp,HM.o.2.2.1⟩|false=>(have Lo:ab (∀L:List (Y0),L.Nodup->(∀y,y∈L↔y∈S)->jc G ids (L.mergeSort λx y=>decide (x<=y),0)/\L.length=S.length):=aa (λL hn hm=>by have h1:=nX hn;have h2:=nX Ms.o;have h3:=Ki.o;rw[if_neg dc0,if_neg dc0]at h3;rw[<-oX _ _ h1.1 h2.1 (λy=>by rw[h1.2.1,h2.2.1];exact hm y)]at h3;exact⟨h3,Nat.le_antisymm (lQ L S hn (λy hy=>(hm y).1 hy)) (lQ S L Ms.o (λy hy=>(hm y).2 hy))⟩);clear Ki Ms;(have Kz:=aa HM.o.2.1);(have Lj:=aa HM.o.2.2.1);clear HM;(go_upto_region 24 with(refine vn MB rfl (.tmp 62) rfl rfl Kz.o ?_;intro w2 m2 Z z2));(go_frame);have Kj:=aa m2;have G2:=aa (Lj.o.trans Z);obtain⟨r,hr⟩:=zq (wr.heap.size);rw[<-hr]at Kj;rw[<-hr];(have Lu:b<w2.heap.size:=by have:=Kz.o.lt;omega);have Kh:r<w2.heap.size:=om;(have Lg:w.heap.size<=r:=by rw[hr];exact Lj.o.size);clear hr z2 m2 Z Kz Lj;obtain⟨B2,a⟩:=zq (w2.heap.size);rw[<-a]at Lu Kh;have Lv:=aa (show B2<=w2.heap.size by omega);clear a;(go_loopg [14] (S.length+1) (λfuel lv wx=>∃(L:List (Y0)) (m:Nat) (C:Yy) (d2:Nat) (left:Y0->Bool) (Lh:Nat),lv=.slice C m d2/\Lh+1<=fuel/\ab (lA S L left/\m=L.length)∧ab (pg 9 4 Lit.bool wx b r S.length (eM S) left Lh/\wx.ownsRow B2 9 1 (C,m,d2) m (L.map aC)/\Gr w wx/\B2<=wx.heap.size)));(case atStart=>exact⟨[],0,none,0,_,_,rfl,Dg _,aa ⟨lA.start Il.o,rfl⟩,aa ⟨Kj.o,World.ownsRow_nil _ _ _ _,G2.o,Lv.o⟩⟩);case round=>clear Kj G2 Lv;obtain⟨L,m,C,d2,left,Lh,rfl,hf,HO,HM⟩:=hrel;(have Kn:m<=400:=by have:=HO.o.1.le;have:=HO.o.2;omega);(have Lx:=aa HM.o.1);(go_wp2_with(refine xv MB rfl (.tmp 63) rfl rfl Lx.o ?_ ?_));(. intro Kt;(have Ly:=HO.o.1.done Kt);have Lz:ab (∀W,W.ownsRow B2 9 1 (C,m,d2) m (L.map aC)->Calls Ao 112 #[(C,m,d2)] W λe w'=>e=.returned (.tuple #[])/\w'.ownsRow B2 9 1 (C,m,d2) m ((L.mergeSort λx y=>decide (x<=y)).map aC)/\W.grownBy w' (Value.slice C m d2).ownBlock):=aa (λW h=>Di L C m d2 B2 W h om);have Ko:=aa (Lo.o L HO.o.1.nd Ly);obtain⟨t,Ke⟩:=zq (L.mergeSort λx y=>decide (x<=y));have U:ab (t.length=L.length):=aa (by rw[Ke];simp);rw[<-Ke]at Lz Ko;clear Ke Kt Ly Lo;(go_wp2_with(go_at_call 112;(with_reducible refine Bo (Lz.o _ HM.o.2.1) ?_);rintro e w3 ⟨rfl,o3,k3⟩));go_ret2;exact⟨t,C,m,d2,0,Ko.o.1,rfl,ak.own o3,vF o3,wH o3,by have:=U.o;have:=HO.o.2;omega,HM.o.2.2.1.grown k3 (λk hk=>Nat.le_trans Lg (Nat.le_of_lt (Nat.lt_of_lt_of_le Kh (o3.lt k hk).1)))⟩);. intro l;refine And.intro (λw3 N _ _ T=>?_) ?_;(. unfold eM at T;split at T;(. injection T with T;cases T);. cases T);intro w3 N V Ll T Lp hlt F hsz Ln;have Kd:=aa Ln;have Mv:=aa Lp;have o3:=aa (HM.o.2.1.kept F (.inr (λe=>row_ne_low HM.o.2.1 Kh e.symm)));have Kv:(m+1)*16<=140737488355328:=om;(have Lf:m+1<=maxLen:=zc1);(have X:B2<=w3.heap.size:=by rw[hsz];exact HM.o.2.2.2);(have G3:Gr w w3:=HM.o.2.2.1.grown F (λk hk=>by injection hk with hk;omega));clear Lp F hsz;(go_wp2_with(at_builtin;refine fL E.str rfl (.tmp 68) (.tmp 70) rfl rfl o3.o rfl rfl Kv Lf X ?_;intro g5 c5 w5 o5 Kr));(go_roundg (gk-1));(case rel=>(have h1:=BM HO.o.1.nd (HO.o.1.fresh Ll));refine⟨L++[l],m+1,some (g5,0),c5,_,N,rfl,om,aa ⟨HO.o.1.put V Ll h1.1 h1.2,by rw[HO.o.2,List.length_append];rfl⟩,aa ⟨Mv.o.kept Kr (row_ne_low o3.o Lu) (row_ne_low o3.o Kh),?_,G3.grown Kr (λk hk=>?_),Nat.le_trans X Kr.size⟩⟩;(. rw[List.map_append];exact o5);. exact Nat.le_trans Lg (Nat.le_of_lt (Nat.lt_of_lt_of_le Kh (o3.o.lt k hk).1)));case measure=>omega))
def Iy (w:World) (G:Tl) (id frm:Y0) (e:Ending) (w':World):Prop:=∃b,Ds G frm [] [id] b/\e=.returned (.bool b)/\Gr w w'
theorem da.first {w:World} {B m cap:Nat} {A:Yy} {ys:List (Y0)} {x:Y0} (h:da w B A (m+1) cap ((x::ys).map aC)):∃g off,A=some ⟨g,off,none⟩/\w.cell? ⟨g,off,none⟩=x/\da w B (if cap=1 then some ⟨g,off,none⟩else some ⟨g,off+1,none⟩) m (cap-1) (ys.map aC):=by
 have z:=h.le;have hl:=h.len;rcases h.lies with⟨_,h0⟩|⟨g,off,e,_,h2,_⟩;. omega
 . refine⟨g,off,e,h2 0 _ rfl,?_⟩;subst e;by_cases hc:cap=1;(. subst hc;obtain rfl:m=0:=om;rw[if_pos rfl];have:ys=[]:=List.eq_nil_of_length_eq_zero zgn;subst this;exact da.bare w B);. rw[if_neg hc];obtain⟨c',rfl⟩:∃c',cap=c'+1:=⟨cap-1,om⟩;exact h.shift
theorem a6.len {α:Type} {t k e:TypeId} {mk:α->Lit} {vl:α->Value} {ok:α->Prop} {z:α} {w:World} {b c:Nat} {f:Y0->Option α} (M:kH t k e mk vl ok z) (h:a6 k e mk w b c f) (ty:TypeId):(Builtin.len_ #[t] ty #[.map (some b)]).run Ao w=.ok c w:=by
 obtain⟨Ke,h1,h2,h3⟩:=h;rw[h1.len M.under ty,h2]
theorem Fo (g:Nat) (M:Array Value) (G:Tl) (eg:∀args w,(callFunc g args).run Ao w=.ok (.enter g args) w) (id frm:Y0) (w:World) (hT:lD g M G w) (hG:∀x,(G x).1.length<=1048576) (Kn:id.length<=1099511627776):Calls Ao 180 #[.func (.func g) #[] M,.string (bs id),.string (bs frm)] w (Iy w G id frm):=by
 obtain⟨J,H⟩:=zq (w.alloc (.map #[] 0));have Lm:(Instr.makeMap 188 none).run Ao w=.ok (.map (some w.heap.size)) J:=by rw[H];rfl
 have M0:a6 9 4 Lit.bool J w.heap.size 0 (eM []):=ziK
 have g0:Gr w J:=zc5
 have Kl:w.heap.size<J.heap.size:=zhF
 obtain⟨b,hb⟩:=zq (w.heap.size);rw[<-hb]at Lm M0 Kl;have HT:=aa hT;have Ky:=aa hG;have Km:=aa Kl;have HB:=aa hb;have HI:=aa Kn;clear hT hG H Kl hb Kn;have M1:=aa (M0.gr ((B4 J).alloc (.cells #[.string (bs id)] 9)));have G1:=aa (And.intro (g0.alloc (.cells #[.string (bs id)] 9)) ((B4 J).alloc (.cells #[.string (bs id)] 9)).size);have D:ab (da (J.alloc (.cells #[.string (bs id)] 9)) J.heap.size (some ⟨J.heap.size,0,none⟩) 1 1 ([id].map aC)):=aa (da.own (e:=9) (World.ownsRow_lit J #[.string (bs id)] 1 (Dg _) (by first|(unfold maxLen;omega)|simp) rfl));clear M0 g0;go_enter Tryz.func180,Tryz.ntmps180
 go_wp2_with fail
 go_outline
 go_loopg [8] (1+65*400) (λfuel wv wr=>∃(W S:List (Y0)) (m:Nat) (B:Yy) (d:Nat),wv=.slice B m d/\m+65*(400-S.length)<=fuel/\S.length<=400/\m<=1+64*S.length∧ab ((∀b,Ds G frm S W b->Ds G frm [] [id] b)/\W.length=m/\(∀x∈W,x.length<=1099511627776))/\ab (da wr J.heap.size B m d (W.map aC)/\a6 9 4 Lit.bool wr b S.length (eM S)/\Gr w wr/\J.heap.size<=wr.heap.size))
 case atStart=>exact⟨[id],[],1,_,1,rfl,by simp,by simp,by simp,aa ⟨λb h=>h,rfl,λx hx=>by simp only[List.mem_singleton]at hx;subst hx;exact HI.o⟩,aa ⟨D.o,M1.o,G1.o⟩⟩
 case round=>clear D M1 G1;obtain⟨W,S,m,B,d,rfl,hf,hS,j,HR,HM⟩:=hrel;cases W with|nil=>(obtain rfl:m=0:=by have:=HR.o.2.1;simpa using this.symm);have HQ:=aa (HR.o.1 false .nil);exact zdO|cons x ys=>(obtain⟨m',rfl⟩:∃m',m=m'+1:=⟨m-1,by have:=HR.o.2.1;simp only[List.length_cons]at this;omega⟩;have z:ab (ys.length=m'):=aa (by have:=HR.o.2.1;simpa using this);(obtain⟨q,off,rfl,e0,u⟩:=da.first HM.o.1);have Mb:(0:Int)<(m':Int)+1:=om;(have Mc:m'+1<=d:=HM.o.1.le);obtain⟨U,X⟩:∃U,U=(if d=1 then some (⟨q,off,none⟩:Addr)else some ⟨q,off+1,none⟩):=⟨_,rfl⟩;rw[<-X]at u;have Kr:=X.symm;have HW:=aa u;clear u X;(have Kd:=HM.o.2.1.len MB 3);by_cases Kx:400<=S.length;(. have hlt:¬(S.length:Int)<400:=om;have HQ:=aa (HR.o.1 false (.full Kx));clear Kx;exact zdO);have hlt:(S.length:Int)<400:=om;have C:S.length<400:=om;by_cases n:x=frm;(. (have qx:(x==frm)=true:=by rw[n,beq_self_eq_true]);have HQ:=aa (HR.o.1 true (by rw[n];exact .hit C));clear n Kx;(go_wp2_with fail);go_ret;exact⟨true,HQ.o,rfl,HM.o.2.2.1⟩);(have qx:(x==frm)=false:=by rw[beq_eq_false_iff_ne];exact n);(have Kp:x.length<=1099511627776:=HR.o.2.2 x (by simp));(have Kk:x.length<=maxLen:=zc1);have Eq:ab (∀y∈ys,y.length<=1099511627776):=aa (λy hy=>HR.o.2.2 y (List.mem_cons_of_mem _ hy));have F:=aa n;(have HK:=aa HR.o.1);clear n Kx HR;by_cases p:x∈S;(. (have Lw:(eM S x).getD false=true:=by rw[nQ,decide_eq_true p]);have Kq:ab (∀b,Ds G frm S ys b->Ds G frm [] [id] b):=aa (λb h=>HK.o b (.skip C F.o p h));clear p HK;(go_wp2_with(first|(refine dB MB rfl (.tmp 33) (.tmp 34) rfl rfl HM.o.2.1 rfl Kk Lw ?_)));(go_roundg (gk-1));(case rel=>exact⟨ys,S,m',U,d-1,rfl,om,hS,om,aa ⟨Kq.o,z.o,Eq.o⟩,aa ⟨HW.o,HM.o.2⟩⟩);case measure=>omega);(have Lw:(eM S x).getD false=false:=by rw[nQ,decide_eq_false p]);have Mu:ab (∀b,Ds G frm (S++[x]) (ys++sJ G x) b->Ds G frm [] [id] b):=aa (λb h=>HK.o b (.more C F.o p h));have Ng:=aa p;(have Ks:S.length<maxLen:=zc1);have t:ab (∀w5,wr.grownBy w5 (some b)->da w5 J.heap.size U m' (d-1) (ys.map aC)):=aa (λw5 h5=>HW.o.apart h5 zgz);have A:ab (∀w5,a6 9 4 Lit.bool w5 b (lC (eM S) x S.length) (iO (eM S) x true)->∀w6,Gr w5 w6->a6 9 4 Lit.bool w6 b (S++[x]).length (eM (S++[x]))):=aa (λw5 h w6 g=>by rw[vj,uo Ng.o]at h;exact h.gr g);have r:ab (∀w5,wr.grownBy w5 (some b)->J.heap.size<=w5.heap.size):=aa (λw5 h5=>Nat.le_trans HM.o.2.2.2 h5.size);have Ka:ab (∀W,Gr w W->Calls Ao g (#[.string (bs x)]++M) W λe w'=>e=.returned (.tuple #[.string (bs (G x).1),.int .i64 (G x).2])/\Gr W w'):=aa (λW h=>HT.o W x h Kp);have Ld:=Ky.o x;have Kw:ab ((sJ G x).length<=4/\∀y∈sJ G x,y.length<=32):=aa IJ;have a:ab (sJ G x=if(G x).2=0/\(cO (G x).1).2=0/\(cO (G x).1).1.kind=3 then(cO (G x).1).1.pars else[]):=aa rfl;obtain⟨N,hN⟩:=zq (sJ G x);rw[<-hN]at Kw a Mu;obtain⟨⟨s,Y⟩,La⟩:=zq (G x);rw[<-La]at Ka Ld a;simp only at Ka Ld a;clear La p HK hN;by_cases Ku:Y=0;(case neg=>(have Lq:(Y==0)=false:=by rw[beq_eq_false_iff_ne];exact Ku);have Kq:ab (∀b,Ds G frm (S++[x]) ys b->Ds G frm [] [id] b):=aa (λb h=>Mu.o b (by rw[a.o,if_neg (λh=>Ku h.1),List.append_nil];exact h));clear Ku a Mu;(go_wp2_with(first|(refine dB MB rfl (.tmp 33) (.tmp 34) rfl rfl HM.o.2.1 rfl Kk Lw ?_)|(refine ir MB rfl (.tmp 36) (.tmp 37) (.const (.bool true)) rfl rfl HM.o.2.1 Ks rfl Kk (y:=true) rfl trivial ?_;intro w5 m5 h5;have M5:=aa m5;clear m5;have V:Gr w w5:=Gr.only HM.o.2.2.1 h5 zfB)|(refine Bo (Ka.o w5 V) ?_;rintro e w6 ⟨rfl,g6⟩)));have f:Gr w5 w6:=g6;(go_roundg (gk-1));(case rel=>exact⟨ys,S++[x],m',U,d-1,rfl,by rw[List.length_append];simp only[List.length_cons,List.length_nil];omega,by rw[List.length_append];simp only[List.length_cons,List.length_nil];omega,by rw[List.length_append];simp only[List.length_cons,List.length_nil];omega,aa ⟨Kq.o,z.o,Eq.o⟩,aa ⟨(t.o w5 h5).gr f,A.o w5 M5.o _ f,V.trans f,Nat.le_trans (r.o w5 h5) f.size⟩⟩);case measure=>omega);subst Ku;have Lq:((0:Int)==0)=true:=dc0;have HD:ab (∀W,Calls Ao 43 #[.string (bs s)] W (jR W (cO s))):=aa (λW=>lG s W om);obtain⟨⟨o,oe⟩,hO⟩:=zq (cO s);rw[<-hO]at HD a;simp only[true_and]at a;clear hO;by_cases i:oe=0;(case neg=>(have Me:(oe==0)=false:=by rw[beq_eq_false_iff_ne];exact i);have Kq:ab (∀b,Ds G frm (S++[x]) ys b->Ds G frm [] [id] b):=aa (λb h=>Mu.o b (by rw[a.o,if_neg (λh=>i h.1),List.append_nil];exact h));clear i a Mu;exact zal);subst i;by_cases Li:o.kind=3;(case neg=>(have qk:(o.kind==3)=false:=by rw[beq_eq_false_iff_ne];exact Li);have Kq:ab (∀b,Ds G frm (S++[x]) ys b->Ds G frm [] [id] b):=aa (λb h=>Mu.o b (by rw[a.o,if_neg (λh=>Li h.2),List.append_nil];exact h));clear Li a Mu;exact zal);(have qk:(o.kind==3)=true:=by rw[Li];rfl);have Lp:ab (N=o.pars):=aa (by rw[a.o,if_pos ⟨rfl,Li⟩]);(have Kz:o.pars.length<=4:=by have:=Kw.o.1;rw[Lp.o]at this;exact this);have Kv:(m'+o.pars.length)*16<=140737488355328:=om;(have Lf:m'+o.pars.length<=maxLen:=zc1);clear Li a;(go_wp2_with(first|(refine dB MB rfl (.tmp 33) (.tmp 34) rfl rfl HM.o.2.1 rfl Kk Lw ?_)|(refine ir MB rfl (.tmp 36) (.tmp 37) (.const (.bool true)) rfl rfl HM.o.2.1 Ks rfl Kk (y:=true) rfl trivial ?_;intro w5 m5 h5;have M5:=aa m5;clear m5;have V:Gr w w5:=Gr.only HM.o.2.2.1 h5 zfB)|(go_at_call 43;(with_reducible refine Bo (HD.o _) ?_);rintro e w3 ⟨A3,c3,B3,d3,rfl,r3,g3⟩)|(refine ah rfl 97 (.tmp 12) (.tmp 49) rfl (g:=w3.heap.size) (cs':=bh o A3 c3 B3 d3) rfl rfl (ag.new w3 _ _) aK rfl (bx _ _ _ _ _) ?_;intro w4 h4 Q;have Kc:Gr w3 w4:=Gr.only ((B4 w3).alloc _) Q (Dg _);have c:Gr w5 w4:=(g6.trans g3).trans Kc;have k0:w4.cell? ⟨w3.heap.size,0,none⟩=some (.int .i64 o.kind):=h4.cell 0;have k4:w4.cell? ⟨w3.heap.size,4,none⟩=some (.slice B3 o.pars.length d3):=h4.cell 4)|(at_builtin;refine mn E.str rfl (.tmp 58) (.tmp 60) rfl rfl ((t.o w5 h5).gr c) rfl (r3.pars.gr Kc) r3.pn (λv hv=>by obtain⟨l,_,rfl⟩:=List.mem_map.1 hv;rfl) Kv Lf (Nat.le_trans (r.o w5 h5) c.size) ?_;intro A7 c7 w7 W7 b7)|(refine Bo (Ka.o w5 V) ?_;rintro e w6 ⟨rfl,g6⟩)));(go_roundg (gk-1));(case rel=>refine⟨ys++o.pars,S++[x],m'+o.pars.length,A7,c7,rfl,?_,?_,?_,aa ⟨?_,?_,?_⟩,aa ⟨?_,?_,?_,?_⟩⟩;(. exact zcA);(. exact zcA);(. exact zcA);(. intro b' h';refine Mu.o b' ?_;rw[Lp.o];exact h');(. rw[List.length_append,z.o]);(. intro y hy;(rcases List.mem_append.1 hy with hy|hy);(. exact Eq.o y hy);. have:=Kw.o.2 y (by rw[Lp.o];exact hy);omega);(. rw[List.map_append];exact W7);(. exact(A.o w5 M5.o _ c).below b7 Km.o);(. exact Gr.low (V.trans c) b7 (Nat.le_of_lt zho));. exact Nat.le_trans (Nat.le_trans (r.o w5 h5) c.size) b7.size);case measure=>omega)
def lg (A A':Yy) (cap cap':Nat):Prop:=0<cap->0<cap'->∀g o g' o',A=some ⟨g,o,none⟩->A'=some ⟨g',o',none⟩->g≠g'
theorem lg.symm {A U:Yy} {cap D:Nat} (h:lg A U cap D):lg U A D cap:=λh1 h2 g o g' o' e e' k=>h h2 h1 g' o' g o e' e k.symm
theorem da.low {w:World} {B B' n cap:Nat} {A:Yy} {xs:List Value} (h:da w B A n cap xs) (hB:B'<=B):da w B' A n cap xs:=by
 refine⟨h.len,h.le,h.max,?_⟩;rcases h.lies with h0|⟨g,off,e,h1,h2⟩;. exact .inl h0
 . exact .inr ⟨g,off,e,λhc=>⟨Nat.le_trans hB (h1 hc).1,(h1 hc).2⟩,h2⟩
theorem yE {t e ty:TypeId} {z:Value} {f:Nat} (E:cC t e z 1 f) {w:World} {B n cap:Nat} {A:Yy} {xs:List Value} (h:da w B A n cap xs) {U:Yy} {m c:Nat} {vs:List Value} (C:ak w 1 U m vs) (X:U=none->m=0/\c=0) (h1:∀u∈vs,u.oneCell'=true) (i:(n+m)*f<=140737488355328) (q:n+m<=maxLen) (hB:B<=w.heap.size):∃A2 r w',(Builtin.append_ #[t,t] ty #[(A,n,cap),(U,m,c)]).run Ao w=.ok (A2,n+m,r) w'/\da w' B A2 (n+m) r (xs++vs)/\Below B w w'∧∀B' U n' D ys,da w B' U n' D ys->lg A U cap D->da w' B' U n' D ys/\lg A2 U r D:=by
 have J:vs.length=m:=zhR
 have Kk:=h.len;rcases h.lies with⟨rfl,h0⟩|⟨g,off,rfl,H,y,N⟩;. (have hn:n=0:=by have:=h.le;omega);subst h0 hn;have hx:xs=[]:=List.eq_nil_of_length_eq_zero Kk;subst hx;obtain⟨A2,r,w',hr,ho,F⟩:=iH (ty:=ty) E (B:=w.heap.size) (World.ownsRow_nil w w.heap.size e 1) C X h1 i q (Dg _);have hG:Gr w w':=⟨F.os,F.tape,F.output,F.size,λk hk=>F.block k om (by simp[Value.ownBlock])⟩;refine⟨A2,r,w',hr,(da.own ho).low hB,Below.mono hG hB,λB' A3 n' D ys h' ha=>⟨h'.gr hG,λc1 c2 g o g' o' e1 e2=>?_⟩⟩;have w2:=da.own ho;rcases w2.lies with⟨e3,_⟩|⟨g3,o3,e3,h3,_⟩;(. rw[e1]at e3;cases e3);. rw[e1]at e3;injection e3 with e3;injection e3 with e3 e4;rcases h'.lies with⟨e5,_⟩|⟨g5,o5,e5,h5,_⟩;(. rw[e2]at e5;cases e5);. rw[e2]at e5;injection e5 with e5;injection e5 with e5 e6;(have:=(h3 c1).1);(have:=(h5 c2).2);omega
 . obtain⟨Y,L,O,M,T⟩:=info_parts E.info;(have l:Src Ao Y.size t (U,m,c) m vs w:=zaB);by_cases a:n+m<=cap;(. have hr:=run_append_room_src (P:=Ao) w t t ty e Y E.under L g off n cap _ m vs l a (λj hj=>by rw[M,Nat.mul_one,Nat.add_assoc];exact(N (n+j) om).1) (λj hj=>by rw[M,Nat.mul_one,Nat.add_assoc];exact(N (n+j) om).2);rw[M,Nat.mul_one]at hr;refine⟨_,_,_,hr,⟨by rw[List.length_append];omega,a,h.max,.inr ⟨g,off,rfl,λhc=>?_,λj v hv=>?_,λj hj=>?_⟩⟩,?_,λB' A3 n' D ys h' ha=>⟨?_,ha⟩⟩;(. rw[jQ];exact H hc);(. exact zcv);(. exact zep);(. exact zeh);. by_cases hc:0<cap;(. refine⟨h'.len,h'.le,h'.max,?_⟩;rcases h'.lies with h0|⟨g5,o5,e5,k1,k2,k3⟩;(. exact .inl h0);. have hne:0<D->g5≠g:=λhc' e=>ha hc hc' g off g5 o5 rfl e5 e.symm;(refine .inr ⟨g5,o5,e5,λhc'=>by rw[jQ];exact k1 hc',λj v hv=>?_,λj hj=>?_⟩);(. (have hj:=(List.getElem?_eq_some_iff.1 hv).1);have x:=h'.len;have s:=h'.le;rw[World.cell?_setCells_out g vs (off+n) w ⟨g5,o5+j,none⟩ (λe _=>absurd e (hne om))];exact k2 j v hv);. refine⟨World.isSome_setCells g vs (off+n) w _ (k3 j hj).1,?_⟩;rw[World.frozen?_setCells];exact(k3 j hj).2);. have hv:vs=[]:=List.eq_nil_of_length_eq_zero om;subst hv;exact h');. (have hold:(Builtin.firstCells Y.size n ((g,off),n,cap)).run Ao w.drew=.ok xs.toArray w.drew:=zd9);have hr:=run_append_grow_src (P:=Ao) w t t ty e Y z E.under L O (some (g,off)) n cap xs hold _ m vs l om (by unfold maxLen at q;omega) (growslice_fits om (by rw[T];exact i));have Q:=grownCap_ge w (n+m) cap e;have Kq:=grownCap_le_maxLen w (n+m) cap e q;refine⟨_,_,_,hr,⟨by rw[List.length_append];omega,Q,Kq,.inr ⟨w.heap.size,0,rfl,λ_=>⟨hB,by simp⟩,λj v hv=>?_,λj hj=>?_⟩⟩,?_,λB' A3 n' D ys h' ha=>⟨?_,?_⟩⟩;(. exact zdU);(. exact zdv);(. exact(Below.drew (Below.refl B w)).alloc hB _);(. exact h'.gr ((B4 w).drew.alloc _));. intro c1 c2 ga G gb ob e1 e2;injection e1 with e1;injection e1 with e1 _;rcases h'.lies with⟨e5,_⟩|⟨g5,o5,e5,h5,_⟩;(. rw[e2]at e5;cases e5);. rw[e2]at e5;injection e5 with e5;injection e5 with e5 _;(have:=(h5 c2).2);omega
theorem lW {ops:Array Oper} {rest:List Oper} {o:Oper} {a:Act} {Q:Exit->Act->World->Prop} {t e:TypeId} {z:Value} {f:Nat} (E:cC t e z 1 f) (G:o.guard=none) (s x:Operand)
 (ho:o.op=.call {callee:=.builtin .append,args:=#[s,x],argTypes:=#[t,t]}) {B:Nat} {w:World}
 {A:Yy} {n cap:Nat} {xs:List Value} (hs:a.eval s=.slice A n cap) (h:da w B A n cap xs)
 {U:Yy} {m c:Nat} {vs:List Value} (hx:a.eval x=.slice U m c) (C:ak w 1 U m vs) (X:U=none->m=0/\c=0) (h1:∀u∈vs,u.oneCell'=true)
 (i:(n+m)*f<=140737488355328) (q:n+m<=maxLen) (hB:B<=w.heap.size)
 {g:Nat} {d:Yy} {no b:Nat} {ys:List Value} (hO:da w g d no b ys) (Kx:lg A d cap b)
 (K:∀A2 r w',da w' B A2 (n+m) r (xs++vs)->Below B w w'->da w' g d no b ys->lg A2 d r b->wpList Ao ops Q rest (a.put o.dst (A2,n+m,r)) w'):wpList Ao ops Q (o::rest) a w:=by
 refine wpList_plain G λK' hK'=>?_
 obtain⟨A2,r,w',hr,h2,h3,h4⟩:=yE (ty:=o.type) E h C X h1 i q hB
 obtain⟨h5,h6⟩:=h4 _ _ _ _ _ hO Kx
 unfold Oper.wp execOp
 simp only[ho,resolve,invoke,builtin,Sem.run_bind,Sem.run_pure,Result.andThen_ok,List.map_toArray,List.map_cons,List.map_nil,hs,hx,hr]
 exact hK' _ _ (K A2 r w' h2 h3 h5 h6)
end Go.Proofs.YtdpombnelangjaaGreatDoor
