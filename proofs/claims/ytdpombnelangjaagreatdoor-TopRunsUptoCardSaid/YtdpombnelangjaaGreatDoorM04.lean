/- Lemmas for TopRuns; each states its conditions. -/
import Derived.Test.YtdpombnelangjaaGreatDoorM03
import Derived.Maps.RangeWalk
import Derived.Maps.StringElems
import Derived.Lib.Overlaps
import Derived.Lib.AppendZerosOnto
import Derived.Lib.DecodeN
namespace Go.Proofs.YtdpombnelangjaaGreatDoor
open Go.RowKit
set_option maxRecDepth 100000
set_option maxHeartbeats 64000000
set_option linter.unusedVariables false
open Go.Proofs.Tryz renaming prog → Ao
open Calls renaming mono → Bo
open Gr renaming refl → B4
open Nat renaming le_refl → Dg
section
structure kH (t k e:TypeId) {α:Type} (mk:α->Lit) (vl:α->Value) (ok:α->Prop) (z:α):Prop where
 under:Ao.underlying t=some (.map k e)
 key:Ao.underlying k=some .string
 zero:∀w,(zeroValue e).run Ao w=.ok (vl z) w
 rd:∀x,ok x->plainElem (H:=Unit) Ao e (vl x)=some (.lit (mk x),[])
 inv:∀v y,plainElem (H:=Unit) Ao e v=some y->∃x,ok x/\v=vl x/\y=(.lit (mk x),[])
 inj:∀x y,mk x=mk y->x=y
 okz:ok z
theorem yt {t k e:TypeId} (h:Ao.underlying t=some (.map k e)) (hk:Ao.underlying k=some .string) (he:Ao.underlying e=some .string)
 (hz:∀w,(zeroValue e).run Ao w=.ok s_ w):kH t k e (α:=Y0) Lit.string (λx=>.string (bs x)) (λx=>x.length<=maxLen) []where
 under:=h
 key:=hk
 zero:=hz
 rd:=λx hx=>by have:=plainElem_string (H:=Unit) he (s:=bs x) (by rw[co];exact hx);rwa [jM]at this
 inv:=λv y hv=>by
  obtain⟨s,rfl,rfl,hs⟩:=plainElem_string_inv he hv
  obtain⟨l,rfl⟩:=BF s
  exact⟨l,by rwa [co]at hs,rfl,by rw[jM]⟩
 inj:=λx y h=>by injection h
 okz:=by simp
theorem pB {H:Type} {P:Program} {e:TypeId} (he:P.underlying e=some .bool) {v:Value} {z:DataW H×List MemPlace} (h:plainElem P e v=some z):∃b,v=.bool b/\z=(.lit (.bool b),[]):=by
 unfold plainElem at h;rw[he]at h;cases v<;>simp at h;exact⟨_,rfl,h.symm⟩
theorem Dk {t k e:TypeId} (h:Ao.underlying t=some (.map k e)) (hk:Ao.underlying k=some .string) (he:Ao.underlying e=some .bool)
 (hz:∀w,(zeroValue e).run Ao w=.ok false w):kH t k e (α:=Bool) Lit.bool Value.bool (λ_=>True) false where
 under:=h
 key:=hk
 zero:=hz
 rd:=λx _=>plainElem_bool he x
 inv:=λv y hv=>by obtain⟨b,rfl,rfl⟩:=pB he hv;exact⟨b,trivial,rfl,rfl⟩
 inj:=λx y h=>by injection h
 okz:=trivial
def EW {α:Type} (mk:α->Lit) (D:DataW Unit) (f:Y0->Option α):Prop:=
 ∀l z,l.length<=maxLen->D.atKey (.string l) z=(match f l with|some x=>.lit (mk x)|none=>z)
def a6 (k e:TypeId) {α:Type} (mk:α->Lit) (w:World) (b c:Nat) (f:Y0->Option α):Prop:=
 ∃D:DataW Unit,w.ownsMap Ao k (plainElem Ao e) b c D/\Maps.size D=c/\EW mk D f
theorem sh {α:Type} {mk:α->Lit} {Ke:DataW Unit} {f:Y0->Option α} (h:EW mk Ke f) (l:Y0) (hl:l.length<=maxLen):Maps.has Ke (.string l)=(f l).isSome:=by
 cases hf:f l with|none=>exact Maps.has_false_of_atKey λz=>by rw[h l z hl,hf]|some x=>exact Maps.has_true_of_atKey (y:=.lit (mk x)) λz=>by rw[h l z hl,hf]
section
variable{α:Type} {t k e:TypeId} {mk:α→Lit} {vl:α→Value} {ok:α→Prop} {z:α} {w w':World} {b c:Nat} {f:Y0→Option α}
theorem a6.lt (h:a6 k e mk w b c f):b<w.heap.size:=by obtain⟨Ke,h,_⟩:=h;exact h.lt
theorem a6.made (w:World) (k e:TypeId) (mk:α->Lit):a6 k e mk (w.alloc (.map #[] 0)) w.heap.size 0 (λ_=>none):=
 ⟨_,World.ownsMap_made w _ _ _,rfl,λl z _=>rfl⟩
theorem a6.kept {row:Option Nat} (h:a6 k e mk w b c f) (hg:w.grownBy w' row) (hne:some b≠row):a6 k e mk w' b c f:=by
 obtain⟨Ke,h1,h2⟩:=h;exact⟨Ke,h1.kept hg hne,h2⟩
theorem a6.gr (h:a6 k e mk w b c f) (g:Gr w w'):a6 k e mk w' b c f:=
 h.kept (row:=none) ⟨g.below.os,g.below.tape,g.below.output,g.below.size,λk hk _=>g.below.block k hk⟩ (by simp)
theorem a6.alloc (h:a6 k e mk w b c f) (o:Obj):a6 k e mk (w.alloc o) b c f:=h.gr ((B4 w).alloc o)
def iO {α:Type} (f:Y0->Option α) (l:Y0) (x:α):Y0->Option α:=λy=>if y=l then some x else f y
def lC {α:Type} (f:Y0->Option α) (l:Y0) (c:Nat):Nat:=if(f l).isSome then c else c+1
theorem ny {k:TypeId} (hk:Ao.underlying k=some .string) {l:Y0} (hl:l.length<=maxLen):keyOf Ao k l=some (.string l):=by
 have:=WideMaps.keyOf_string_mk hk (s:=bs l) (by rw[co];exact hl);rwa [jM]at this
theorem eX {ops:Array Oper} {rest:List Oper} {o:Oper} {a:Act} {Q:Exit->Act->World->Prop} (M:kH t k e mk vl ok z) (hg:o.guard=none) (m x:Operand) (Kf:o.op=Op.lookup t m x true) (hm:a.eval m=.map (some b)) (h:a6 k e mk w b c f) {l:Y0} (hx:a.eval x=.string (bs l)) (hl:l.length<=maxLen) {r:α} {q:Bool} (hr:(f l).getD z=r) (hq:(f l).isSome=q) (hK:wpList Ao ops Q rest (a.put o.dst (.tuple #[vl r,q])) w):wpList Ao ops Q (o::rest) a w:=by
 obtain⟨Ke,h1,h2,h3⟩:=h;refine wpList_lookup_own_ok w hg m x t Kf k e (Maps.string_keyed M.key) M.under _ (M.zero w) _ _ (M.rd z M.okz) b c Ke hm h1 _ _ hx (ny M.key hl) λv ps hv=>?_;obtain⟨y,_,rfl,hy⟩:=M.inv v _ hv;rw[sh h3 l hl];have:y=(f l).getD z:=za7
 rw[this,hr,hq];exact hK
theorem dB {ops:Array Oper} {rest:List Oper} {o:Oper} {a:Act} {Q:Exit->Act->World->Prop} (M:kH t k e mk vl ok z) (hg:o.guard=none) (m x:Operand) (Kf:o.op=Op.lookup t m x false) (hm:a.eval m=.map (some b)) (h:a6 k e mk w b c f) {l:Y0} (hx:a.eval x=.string (bs l)) (hl:l.length<=maxLen) {r:α} (hr:(f l).getD z=r) (hK:wpList Ao ops Q rest (a.put o.dst (vl r)) w):wpList Ao ops Q (o::rest) a w:=by
 obtain⟨Ke,h1,h2,h3⟩:=h;refine wpList_plain hg λK' hK'=>?_;obtain⟨v,ps,q,hv⟩:=h1.lookup (Maps.string_keyed M.key) M.under (M.zero w) (M.rd z M.okz) (ny M.key hl);obtain⟨y,_,rfl,hy⟩:=M.inv v _ hv;have:y=(f l).getD z:=za7
 rw[this,hr]at q;unfold Oper.wp;simp[execOp,Kf,hm,hx,q,Result.andThen];exact hK' _ _ hK
theorem a6.put (M:kH t k e mk vl ok z) (h:a6 k e mk w b c f) (hc:c<maxLen) {l:Y0} (hl:l.length<=maxLen) {y:α} (hy:ok y):∃w',(Instr.mapUpdate t (.map (some b)) l (vl y)).run Ao w=.ok () w'/\a6 k e mk w' b (lC f l c) (iO f l y)/\w.grownBy w' (some b):=by
 obtain⟨Ke,h1,h2,h3⟩:=h;have K:=Maps.string_keyed M.key;obtain⟨w',q,h4,h5⟩:=h1.update K M.under hc (ny M.key hl) (M.rd y hy);have S:=K.key (ny M.key hl);have hsz:Maps.size (Ke.put (.string l) (.lit (mk y)))=lC f l c:=by rw[Maps.size_put (h1.tidy K),sh h3 l hl,h2];rfl
 refine⟨w',q,⟨_,?_,hsz,λu d hu=>?_⟩,h5⟩;. obtain⟨es,i,e1,e2,e3,e4⟩:=h4;refine⟨es,i,e1,e2,?_,e4⟩;(have:Maps.size (Ke.put (.string l) (.lit (mk y)))=es.size:=by rw[e4];simp[Maps.size,length_sorted]);omega
 . by_cases a:u=l;(. subst a;rw[Maps.atKey_put_same (h1.isMap) S];simp[iO]);. have hne:Lit.string u≠Lit.string l:=λe=>a zgR;rw[Maps.atKey_put_other hne,h3 u d hu];simp[iO,a]
theorem ir {ops:Array Oper} {rest:List Oper} {o:Oper} {a:Act} {Q:Exit->Act->World->Prop} (M:kH t k e mk vl ok z) (hg:o.guard=none) (m x v:Operand) (Kf:o.op=Op.mapUpdate t m x v) (hm:a.eval m=.map (some b)) (h:a6 k e mk w b c f) (hc:c<maxLen) {l:Y0} (hx:a.eval x=.string (bs l)) (hl:l.length<=maxLen) {y:α} (hv:a.eval v=vl y) (hy:ok y) (hK:∀w',a6 k e mk w' b (lC f l c) (iO f l y)->w.grownBy w' (some b)->wpList Ao ops Q rest (a.put o.dst undef) w'):wpList Ao ops Q (o::rest) a w:=by
 refine wpList_plain hg λK' hK'=>?_;obtain⟨w',q,h1,h2⟩:=h.put M hc hl hy;unfold Oper.wp;simp[execOp,Kf,hm,hx,hv,q,Result.andThen];exact hK' _ _ (hK w' h1 h2)
theorem qR {ops:Array Oper} {rest:List Oper} {o:Oper} {a:Act} {Q:Exit->Act->World->Prop} (M:kH t k e mk vl ok z) (hg:o.guard=none) (m:Operand) (Kf:o.op=Op.call {callee:=Callee.builtin Builtin.len,args:=#[m],argTypes:=#[t]})
 (hm:a.eval m=.map (some b)) (h:a6 k e mk w b c f)
 (hK:wpList Ao ops Q rest (a.put o.dst c) w):wpList Ao ops Q (o::rest) a w:=by
 obtain⟨Ke,h1,h2,h3⟩:=h
 refine wpList_len_own w hg m t Kf k e M.under _ b c Ke hm h1 ?_
 rw[h2]
 exact hK
def pg (k e:TypeId) {α:Type} (mk:α->Lit) (w:World) (b r c:Nat) (f:Y0->Option α) (left:Y0->Bool) (cnt:Nat):Prop:=
 ∃(D:DataW Unit) (lft:Lit->Bool),w.ranges Ao k (plainElem Ao e) b r c D lft cnt/\Maps.size D=c/\EW mk D f/\∀l,l.length<=maxLen->lft (.string l)=left l
theorem pg.kept {r Lh:Nat} {left:Y0->Bool} {row:Option Nat} (h:pg k e mk w b r c f left Lh) (hg:w.grownBy w' row) (h1:some b≠row) (h2:some r≠row):pg k e mk w' b r c f left Lh:=by
 obtain⟨Ke,d,h3,h4⟩:=h;exact⟨Ke,d,h3.kept hg h1 h2,h4⟩
theorem vn {ops:Array Oper} {rest:List Oper} {o:Oper} {a:Act} {Q:Exit->Act->World->Prop} (M:kH t k e mk vl ok z) (hg:o.guard=none) (m:Operand) (Kf:o.op=Op.range t m) (hm:a.eval m=.map (some b)) (h:a6 k e mk w b c f) (hK:∀w',pg k e mk w' b w.heap.size c f (λl=>(f l).isSome) c->Gr w w'->w'.heap.size=w.heap.size+1->wpList Ao ops Q rest (a.put o.dst (w.heap.size,0)) w'):wpList Ao ops Q (o::rest) a w:=by
 obtain⟨Ke,h1,h2,h3⟩:=h;refine wpList_range_own w hg m t Kf k e (Maps.string_keyed M.key) M.under _ b c Ke hm h1 λw' h4 h5 h6=>hK w' ?_ ((B4 w).grown h5 zeI) h6;rw[h2]at h4;exact⟨Ke,_,h4,h2,h3,λl hl=>sh h3 l hl⟩
theorem xv {ops:Array Oper} {rest:List Oper} {o:Oper} {a:Act} {Q:Exit->Act->World->Prop} {r Lh:Nat} {left:Y0->Bool} (M:kH t k e mk vl ok z) (hg:o.guard=none) (q:Operand) (Kf:o.op=Op.next q false) (hit:a.eval q=.pointer (some (r,0))) (h:pg k e mk w b r c f left Lh) (g:(∀l,l.length<=maxLen->left l=false)->wpList Ao ops Q rest (a.put o.dst (.tuple #[false])) w) (i:∀(l:Y0) (x:α) (w':World) (N:Nat),l.length<=maxLen->left l=true->f l=some x->pg k e mk w' b r c f (λy=>left y&&!(decide (y=l))) N->N<Lh→w.grownBy w' (some r)->w'.heap.size=w.heap.size->(Instr.entry (r,0)).run Ao w'=.ok (.tuple #[.string (bs l),vl x]) w'->wpList Ao ops Q rest (a.put o.dst (.tuple #[true,.string (bs l),vl x])) w'):wpList Ao ops Q (o::rest) a w:=by
 obtain⟨Ke,d,h1,h2,h3,h4⟩:=h;have K:=Maps.string_keyed M.key;have j:∀key p,keyOf Ao k key=some p->∃x:Y0,key=.string (bs x):=by intro key p hk;rw[keyOf_string M.key]at hk;unfold mapKey at hk;rw[M.key]at hk;cases key<;>simp at hk;rename_i s;obtain⟨l,rfl⟩:=BF s;exact⟨l,rfl⟩
 have m:∀v y,plainElem (H:=Unit) Ao e v=some y->∃x:α,v=vl x:=λv y hv=>by obtain⟨x,_,hx,_⟩:=M.inv v y hv;exact⟨x,hx⟩
 refine wpList_next_ranges w hg q Kf k K (plainElem Ao e) (λx:Y0=>.string (bs x)) vl j m b r c Ke d Lh hit h1 (λ_ hl=>g λl V=>by rw[<-h4 l V];exact hl _) ?_;intro l x p y w' N X Lw hv hat A hlt F hsz Ln;have V:l.length<=maxLen:=by rw[keyOf_string M.key]at X;unfold mapKey at X;rw[M.key]at X;simp at X;(have:=X.1);rwa [co]at this
 have S:p=.string l:=by have:=ny M.key V;rw[X]at this;injection this
 subst S;obtain⟨B,hx',n,rfl⟩:=M.inv _ _ hv;have C:f l=some B:=by have ha:=hat;cases hf:f l with|none=>(have h5:=ha (.agg []);rw[h3 l _ V,hf]at h5;cases h5)|some u=>(have h5:=ha (.agg []);rw[h3 l _ V,hf]at h5;injection h5 with h5;rw[M.inj _ _ h5])
 rw[n]at Ln;rw[n];refine i l B w' N V (by rw[<-h4 l V];exact Lw) C ⟨Ke,_,A,h2,h3,λy hy=>?_⟩ hlt F hsz Ln;have e1:(Lit.string y).sameKey (.string l)=decide (y=l):=by by_cases Kb:y=l;(. subst Kb;rw[decide_eq_true rfl];exact WideAt.sameKey_self (K.key X));. rw[decide_eq_false Kb];exact Maps.sameKey_ne (λe=>Kb zgR)
 rw[e1,h4 y hy]
end
end
theorem JB {l:Y0} (h:gE l=0):0<gK l:=by
 exact zbE
theorem lB (q:St):aD q<4611686018427387904:=by
 unfold aD;split;. exact vB _
 . omega
theorem fU (q:St):(ao q).1.length<=q.1.length:=by
 exact zbT
theorem AB {q:St} (h2:(ao q).2=0):(ao q).1.length<q.1.length:=by
 unfold ao at h2⊢;split at h2;. rename_i h;rw[if_pos h];have:=JB h2;(have:=(tp q.1).1);simp;omega
 . rename_i h;exact absurd h2 h
theorem kn (n:Int) (q:St):(aN n q).1.length<=q.1.length:=by
 exact zbS
theorem Eu {n:Int} {q:St} (h:(aN n q).2=0):q.2=0:=by
 exact zci
theorem AN {q:St} (h:(aN 32 q).2=0):(aN 32 q).1.length<q.1.length:=by
 unfold aN at h⊢;split at h;. rename_i h0;rw[if_pos h0];split at h;(. rename_i h1;rw[if_pos h1];simp;omega);. cases h
 . rename_i h0;exact absurd h h0
theorem ly (q:St):(cu 32 q).length<=32:=by
 exact zbX
theorem mQ (q:St):(aS q).1.length<=q.1.length:=by
 exact zck
theorem iu (q:St):(cx q).length<=q.1.length:=by
 exact zbw
def mX:Nat->St->Option (List eI×St)
 |0,q=>some ([],q)
 |n+1,q=>
  if q.2=0 then
   (if 1<aD (aS q)then none else(mX n (aN 32 (ao (aS q)))).map λr=>(⟨cx q,decide (aD (aS q)=1),cu 32 (ao (aS q))⟩::r.1,r.2))
  else some ([],q)
def lP:Nat->St->List (Y0)×St
 |0,q=>([],q)
 |n+1,q=>if q.2=0 then(cu 32 q::(lP n (aN 32 q)).1,(lP n (aN 32 q)).2)else([],q)
theorem F3 {n:Nat} {q:St} (h:¬q.2=0):mX n q=some ([],q):=by
 cases n with|zero=>rfl|succ n=>rw[mX,if_neg h]
theorem Gl {n:Nat} {q:St} (h:¬q.2=0):lP n q=([],q):=by
 cases n with|zero=>rfl|succ n=>rw[lP,if_neg h]
structure kz (k n0:Nat) (q0:St) (i n:Nat) (q:St) (F:List eI):Prop where
 all:mX n0 q0=(mX n q).map λr=>(F++r.1,r.2)
 fl:F.length=i
 le:i<=k+1
 left:q.2=0->q.1.length+i<=k
 len:q.1.length<=k
 each:∀x∈F,x.nm.length<=k/\x.id.length<=32
theorem kz.start {k n0:Nat} {q0:St} (h:q0.1.length<=k):kz k n0 q0 0 n0 q0 []:=
 ⟨by cases mX n0 q0<;>rfl,rfl,om,λ_=>om,h,by simp⟩
theorem kz.next {k n0:Nat} {q0:St} {i n:Nat} {q:St} {F:List eI} (h:kz k n0 q0 i (n+1) q F) (h0:q.2=0) (h1:¬1<aD (aS q)):kz k n0 q0 (i+1) n (aN 32 (ao (aS q))) (F++[⟨cx q,decide (aD (aS q)=1),cu 32 (ao (aS q))⟩]):=by
 have hl:=h.left h0;have a1:=kn 32 (ao (aS q));have a2:=fU (aS q);have a3:=mQ q;have a4:=iu q;refine⟨?_,by rw[List.length_append,h.fl];rfl,om,λe=>?_,om,λx hx=>?_⟩;. have:=h.all;rw[mX,if_pos h0,if_neg h1]at this;rw[this];cases mX n (aN 32 (ao (aS q)))with|none=>rfl|some r=>simp
 . have:=AB (Eu e);omega
 . (rcases List.mem_append.1 hx with hx|hx);(. exact h.each x hx);. simp at hx;subst hx;exact⟨by simp only;omega,ly _⟩
theorem kz.high {k n0:Nat} {q0:St} {i n:Nat} {q:St} {F:List eI} (h:kz k n0 q0 i (n+1) q F) (h0:q.2=0) (h1:1<aD (aS q)):mX n0 q0=none:=by
 have:=h.all;rw[mX,if_pos h0,if_pos h1]at this;exact this
theorem kz.bad {k n0:Nat} {q0:St} {i n:Nat} {q:St} {F:List eI} (h:kz k n0 q0 i n q F) (h0:¬q.2=0):mX n0 q0=some (F,q):=by
 have:=h.all;rw[F3 h0]at this;simpa using this
theorem kz.done {k n0:Nat} {q0:St} {i:Nat} {q:St} {F:List eI} (h:kz k n0 q0 i 0 q F):mX n0 q0=some (F,q):=by
 have:=h.all;simpa[mX]using this
structure lx (k n0:Nat) (q0:St) (i n:Nat) (q:St) (G:List (Y0)):Prop where
 all:lP n0 q0=(G++(lP n q).1,(lP n q).2)
 gl:G.length=i
 le:i<=k+1
 left:q.2=0->q.1.length+i<=k
 len:q.1.length<=k
 each:∀x∈G,x.length<=32
theorem lx.start {k n0:Nat} {q0:St} (h:q0.1.length<=k):lx k n0 q0 0 n0 q0 []:=⟨rfl,rfl,om,λ_=>om,h,by simp⟩
theorem lx.next {k n0:Nat} {q0:St} {i n:Nat} {q:St} {G:List (Y0)} (h:lx k n0 q0 i (n+1) q G) (h0:q.2=0):lx k n0 q0 (i+1) n (aN 32 q) (G++[cu 32 q]):=by
 have hl:=h.left h0;have a1:=kn 32 q;refine⟨?_,by rw[List.length_append,h.gl];rfl,om,λe=>?_,om,λx hx=>?_⟩;. have:=h.all;rw[lP,if_pos h0]at this;rw[this];simp
 . have:=AN e;omega
 . (rcases List.mem_append.1 hx with hx|hx);(. exact h.each x hx);. simp at hx;subst hx;exact ly _
theorem lx.bad {k n0:Nat} {q0:St} {i n:Nat} {q:St} {G:List (Y0)} (h:lx k n0 q0 i n q G) (h0:¬q.2=0):lP n0 q0=(G,q):=by
 have:=h.all;rw[Gl h0]at this;simpa using this
theorem lx.done {k n0:Nat} {q0:St} {i:Nat} {q:St} {G:List (Y0)} (h:lx k n0 q0 i 0 q G):lP n0 q0=(G,q):=by
 have:=h.all;simpa[lP]using this
def JK (q:St):Ob:=⟨1,cx q,[],[],[],[],[],0,[]⟩
def jS (F:List eI):Ob:=⟨2,[],F,[],[],[],[],0,[]⟩
def Ju (q:St) (G:List (Y0)) (q4:St):Ob:=⟨3,[],[],cu 32 q,G,cx q4,cx (ao (aS q4)),(aD (aS q4):Int),[]⟩
def JQ (q:St):Ob:=⟨4,[],[],[],[],cx (aN 32 q),cx (aS (aN 32 q)),0,cu 32 q⟩
def lO (k:Nat):Ob:=⟨(k:Int),[],[],[],[],[],[],0,[]⟩
def iz (o:Ob) (q:St):Ob×Int:=if q.2=0/\q.1.length=0 then(if eZ o=0 then(o,0)else(cg,eZ o))else(cg,2)
def uJ (k:Nat) (q:St):Ob×Int:=
 if k=1 then iz (JK q) (aS q)
 else if k=2 then(match mX (aD q) (ao q)with|none=>(cg,2)|some r=>iz (jS r.1) r.2)
 else if k=3 then iz (Ju q (lP (aD (aN 32 q)) (ao (aN 32 q))).1 (lP (aD (aN 32 q)) (ao (aN 32 q))).2) (aS (ao (aS (lP (aD (aN 32 q)) (ao (aN 32 q))).2)))
 else if k=4 then iz (JQ q) (aS (aS (aN 32 q)))
 else if q.2=0 then(cg,4)else(cg,2)
def cO (b:Y0):Ob×Int:=if 8192<b.length then(cg,1)else uJ (aD (b,0)) (ao (b,0))
theorem El {k:Nat} (h:¬(1<=k/\k<=4)):eZ (lO k)=4:=by
 unfold eZ;rw[if_pos];simp only[lO];omega
theorem xA (b:Y0) (hb:b.length<=1099511627776):ju 1099511627776 (cO b).1/\((cO b).2=0->wJ (cO b).1):=by
 have hz:∀e:Int,e≠0->ju 1099511627776 ((cg,e):Ob×Int).1/\(((cg,e):Ob×Int).2=0->wJ ((cg,e):Ob×Int).1):=λe he=>⟨ju.z _,λh=>absurd h he⟩
 have hf:∀o q,ju 1099511627776 (iz o q).1/\((iz o q).2=0->wJ (iz o q).1):=by intro o q;unfold iz;split;(. split;(. rename_i h;have h1:=wu h;refine⟨⟨?_,?_,λx hx=>?_,?_,?_,λx hx=>?_,?_,?_,?_⟩,λ_=>h1⟩;(. have:=h1.data;simp only;omega);(. have:=h1.ents;simp only;omega);(. have:=h1.each x hx;omega);(. have:=h1.tree;simp only;omega);(. have:=h1.pars;simp only;omega);(. have:=h1.peach x hx;omega);(. have:=h1.who;simp only;omega);(. have:=h1.note;simp only;omega);. have:=h1.target;simp only;omega);. rename_i h;exact hz _ h);. exact hz 2 dc0
 unfold cO;split;. exact hz 1 dc0
 . unfold uJ;split;(. exact hf _ _);. split;(. split;(. exact hz 2 dc0);. exact hf _ _);. split;(. exact hf _ _);. split;(. exact hf _ _);. split;(. exact hz 4 dc0);. exact hz 2 dc0
theorem Dy (l:Y0) (w:World) (hl:l.length<=1152921504606846976):Calls Ao 117 #[l] w λe w'=>e=.returned (.tuple #[tS l,tK l,tE l])/\w=w':=by
 have hk:=tp l;have hn:=vB l;rcases vx l with he|he;. by_cases h1:4096<gN l;(. have ht:tS l=[]/\tK l=0:=xg (λh=>by have:=h.2.1;omega);(have s:tE l=1:=by unfold tE;rw[if_neg om,if_pos h1]);exact zaQ);. by_cases h2:l.length-gK l<gN l;(. have ht:tS l=[]/\tK l=0:=xg (λh=>by have:=h.2.2;omega);(have s:tE l=2:=by unfold tE;rw[if_neg om,if_neg h1,if_pos h2]);have f:(l.length:Int)-gK l<gN l:=om;exact zaQ);. have ht:=AG (l:=l) ⟨he,om,om⟩;have HT:=aa ht;clear ht;(go_enter Tryz.func117,Tryz.ntmps117);(go_wp2_with(go_at_call 116;refine(nr _ _ hl).mono ?_;rintro e w1 ⟨rfl,rfl⟩));(go_ret3);exact⟨by rw[HT.o.1,HT.o.2.1,HT.o.2.2];simp,rfl⟩
 . have ht:tS l=[]/\tK l=0:=xg (λh=>by have:=h.1;omega);(have s:tE l=2:=by unfold tE;rw[if_pos om,he]);exact zaQ
theorem mU (g:Nat) (q:St) (w:World) (h:an 196 w g q):Calls Ao 73 #[(g,0)] w λe w'=>e=.returned (cx q)/\an 196 w' g (aS q)/\w.grownBy w' (some g):=by
 obtain⟨s,Y⟩:=q;have Kd:=h.len;have U:w.cell? (g,0)=s:=h.blk.cell 0;have f:w.cell? (g,1)=Y:=h.blk.cell 1;have Kf:=h.blk.frozen 0;have Ld:=h.blk.frozen 1;simp only at Kd;have hk:=FS s;by_cases he:Y=0;. subst he;(go_enter Tryz.func73,Tryz.ntmps73);(go_wp2_with(go_at_call 117;refine(Dy _ _ Kd).mono ?_;rintro e w1 ⟨rfl,rfl⟩));go_ret;refine⟨by simp[cx],⟨?_,?_,?_⟩,ur _ _ _ _⟩;(. (have:=(h.blk.set_ 0 (s.drop (tK s))).set_ 1 (tE s));simpa[aS]using this);(. simp[aS];omega);. simp[aS];have:=Ji s;omega
 . (have a:((Y:Int)==0)=false:=zeX);(have R:((Y:Int)!=0)=true:=zeX);(go_enter Tryz.func73,Tryz.ntmps73);(go_wp2);go_ret;exact⟨by simp[cx,he];rfl,by simpa[aS,he]using h,pD _ _⟩
section
abbrev Tl:=Y0->Y0×Int
def Dj (G:Tl) (x:Y0):Prop:=(G x).2=0/\(cO (G x).1).2=0
def uA (G:Tl) (x:Y0):List (Y0):=mg (cO (G x).1).1
inductive sO (G:Tl) (ids:List (Y0)):Y0->Prop
 |base {x:Y0}:x∈ids->sO G ids x
 |link {x y:Y0}:sO G ids x->Dj G x->y∈uA G x->sO G ids y
def GR (G:Tl) (ids:List (Y0)) (x:Y0):Prop:=sO G ids x/\Dj G x
def vS (G:Tl) (ids:List (Y0)):Prop:=∃S:List (Y0),S.Nodup/\400<S.length/\∀x∈S,GR G ids x
def ph (G:Tl) (ids:List (Y0)):Prop:=∃x,sO G ids x/\(G x).2≠0
def qN (G:Tl) (ids:List (Y0)):Prop:=∃x,sO G ids x/\(G x).2=0/\(cO (G x).1).2≠0
abbrev oo (L:List (Y0)):Prop:=L.Pairwise (λa b=>aR a b=true)
def jc (G:Tl) (ids:List (Y0)) (r:List (Y0)×Int):Prop:=
 (vS G ids/\r=([],6))\/(¬vS G ids/\ph G ids/\r=([],7))\/(¬vS G ids/\¬ph G ids/\qN G ids/\r=([],2))∨
  (¬vS G ids/\¬ph G ids/\¬qN G ids/\r.2=0/\oo r.1/\∀x,x∈r.1↔GR G ids x)
theorem oX:∀(L M:List (Y0)),oo L->oo M->(∀x,x∈L↔x∈M)->L=M
 |[],[],_,_,_=>rfl
 |[],b::M,_,_,h=>by have:=(h b).2 (by simp);simp at this
 |a::L,[],_,_,h=>by have:=(h a).1 (by simp);simp at this
 |a::L,b::M,hL,hM,h=>by
  rw[oo,List.pairwise_cons]at hL hM
  have e:a=b:=by
   rcases List.mem_cons.1 ((h a).1 (by simp))with e|h1
   . exact e
   . rcases List.mem_cons.1 ((h b).2 (by simp))with e|h2
     . exact e.symm
     . have h3:=hM.1 a h1
       have h4:=hL.1 b h2
       have h5:=gA _ _ _ h3 h4
       rw[eY]at h5
       cases h5
  subst e
  rw[oX L M hL.2 hM.2]
  intro x
  constructor
  . intro hx
    rcases List.mem_cons.1 ((h x).1 (List.mem_cons_of_mem _ hx))with e|h1
    . subst e
      have:=hL.1 x hx
      rw[eY]at this;cases this
    . exact h1
  . intro hx
    rcases List.mem_cons.1 ((h x).2 (List.mem_cons_of_mem _ hx))with e|h1
    . subst e
      have:=hM.1 x hx
      rw[eY]at this;cases this
    . exact h1
theorem zb {G:Tl} {ids:List (Y0)} {r i:List (Y0)×Int} (h:jc G ids r) (h':jc G ids i):r=i:=by
 rcases h with⟨a,e⟩|⟨a,b,e⟩|⟨a,b,c,e⟩|⟨a,b,c,e,f,g⟩<;>rcases h' with⟨a',e'⟩|⟨a',b',e'⟩|⟨a',b',c',e'⟩|⟨a',b',c',e',m,g'⟩<;>first|(rw[e,e'];done)|(exact absurd a a')|(exact absurd a' a)|(exact absurd b b')|(exact absurd b' b)|(exact absurd c c')|(exact absurd c' c)|skip
 obtain⟨L,x⟩:=r;obtain⟨d,B⟩:=i;simp only at e e' f m g g';rw[e,e',oX L d f m (λx=>(g x).trans (g' x).symm)]
theorem lQ:∀(S T:List (Y0)),S.Nodup->(∀x∈S,x∈T)->S.length<=T.length
 |[],_,_,_=>by simp
 |a::S,T,hn,h=>by
  rw[List.nodup_cons]at hn
  have ha:a∈T:=h a (by simp)
  have:=lQ S (T.erase a) hn.2 (λx hx=>(List.mem_erase_of_ne (λe=>hn.1 (by rw[<-e];exact hx))).2 (h x (List.mem_cons_of_mem _ hx)))
  have hl:=List.length_erase_of_mem ha
  have V:0<T.length:=List.length_pos_of_mem ha
  simp only[List.length_cons]
  omega
def uG (G:Tl) (S:List (Y0)) (lk wr:Bool) (x:Y0):Prop:=x∈S\/((G x).2≠0/\lk=true)\/((G x).2=0/\(cO (G x).1).2≠0/\wr=true)
structure Rc (G:Tl) (ids S W:List (Y0)) (lk wr:Bool):Prop where
 nd:S.Nodup
 good:∀x∈S,GR G ids x
 led:∀x∈W,sO G ids x
 base:∀x∈ids,uG G S lk wr x\/x∈W
 link:∀x∈S,∀y∈uA G x,uG G S lk wr y\/y∈W
 lacks:lk=true->ph G ids
 wrong:wr=true->qN G ids
section
variable{G:Tl} {ids S W:List (Y0)} {lk wr:Bool}
theorem Rc.start (G:Tl) (ids:List (Y0)):Rc G ids [] ids false false:=
 ⟨.nil,by simp,λx h=>.base h,λx h=>.inr h,by simp,by simp,by simp⟩
theorem uG.mono {E:List (Y0)} {lk' wr':Bool} {x:Y0} (h:uG G S lk wr x) (hS:∀y∈S,y∈E) (h1:lk=true->lk'=true) (h2:wr=true->wr'=true):uG G E lk' wr' x:=by
 rcases h with h|⟨a,b⟩|⟨a,b,c⟩;. exact .inl (hS x h)
 . exact .inr (.inl ⟨a,h1 b⟩)
 . exact .inr (.inr ⟨a,b,h2 c⟩)
theorem Rc.perm {W':List (Y0)} (h:Rc G ids S W lk wr) (hW:∀x,x∈W↔x∈W'):Rc G ids S W' lk wr:=
 ⟨h.nd,h.good,λx hx=>h.led x ((hW x).2 hx),λx hx=>(h.base x hx).imp id (hW x).1,λx hx y hy=>(h.link x hx y hy).imp id (hW y).1,h.lacks,h.wrong⟩
theorem Rc.pop {x:Y0} (h:Rc G ids S (x::W) lk wr) (hv:uG G S lk wr x):Rc G ids S W lk wr:=
 ⟨h.nd,h.good,λy hy=>h.led y (List.mem_cons_of_mem _ hy),
  λy hy=>by
   rcases h.base y hy with h1|h1
   . exact .inl h1
   . rcases List.mem_cons.1 h1 with e|h1
     . subst e;exact .inl hv
     . exact .inr h1,
  λz hz y hy=>by
   rcases h.link z hz y hy with h1|h1
   . exact .inl h1
   . rcases List.mem_cons.1 h1 with e|h1
     . subst e;exact .inl hv
     . exact .inr h1,h.lacks,h.wrong⟩
theorem Rc.flags {lk' wr':Bool} (h:Rc G ids S W lk wr) (h1:lk=true->lk'=true) (h2:wr=true->wr'=true) (k1:lk'=true->ph G ids) (k2:wr'=true->qN G ids):Rc G ids S W lk' wr':=
 ⟨h.nd,h.good,h.led,λx hx=>(h.base x hx).imp (λv=>v.mono (λy hy=>hy) h1 h2) id,λx hx y hy=>(h.link x hx y hy).imp (λv=>v.mono (λy hy=>hy) h1 h2) id,k1,k2⟩
theorem Rc.lack {x:Y0} (h:Rc G ids S (x::W) lk wr) (hx:(G x).2≠0):Rc G ids S W true wr:=
 (h.flags (lk':=true) (wr':=wr) (λ_=>rfl) id (λ_=>⟨x,h.led x (by simp),hx⟩) h.wrong).pop (.inr (.inl ⟨hx,rfl⟩))
theorem Rc.wrongd {x:Y0} (h:Rc G ids S (x::W) lk wr) (hx:(G x).2=0) (hy:(cO (G x).1).2≠0):Rc G ids S W lk true:=
 (h.flags (lk':=lk) (wr':=true) id (λ_=>rfl) h.lacks (λ_=>⟨x,h.led x (by simp),hx,hy⟩)).pop (.inr (.inr ⟨hx,hy,rfl⟩))
theorem Rc.seen {x:Y0} (h:Rc G ids S (x::W) lk wr) (hn:x∉S) (hx:Dj G x):Rc G ids (S++[x]) (W++uA G x) lk wr:=by
 have hl:sO G ids x:=h.led x (by simp);have hS:∀y∈S,y∈S++[x]:=λy hy=>List.mem_append_left _ hy;refine⟨?_,λy hy=>?_,λy hy=>?_,λy hy=>?_,λz hz y hy=>?_,h.lacks,h.wrong⟩;. rw[List.nodup_append];refine⟨h.nd,by simp,λa ha b hb=>?_⟩;simp only[List.mem_singleton]at hb;subst hb;rintro rfl;exact hn ha
 . (rcases List.mem_append.1 hy with hy|hy);(. exact h.good y hy);. simp only[List.mem_singleton]at hy;subst hy;exact⟨hl,hx⟩
 . (rcases List.mem_append.1 hy with hy|hy);(. exact h.led y (List.mem_cons_of_mem _ hy));. exact .link hl hx hy
 . rcases h.base y hy with v|v;(. exact .inl (v.mono hS id id));. exact zbq
 . (rcases List.mem_append.1 hz with hz|hz);(. rcases h.link z hz y hy with v|v;(. exact .inl (v.mono hS id id));. exact zbq);. simp only[List.mem_singleton]at hz;subst hz;exact .inr (List.mem_append_right _ hy)
theorem Rc.big (h:Rc G ids S W lk wr) (hl:400<S.length):vS G ids:=⟨S,h.nd,hl,h.good⟩
theorem Rc.vis (h:Rc G ids S [] lk wr) {x:Y0} (hx:sO G ids x):uG G S lk wr x:=by
 induction hx with|base h1=>(rcases h.base _ h1 with v|v;exact v;simp at v)|@link a b _ z hy J=>((have hS:a∈S:=by rcases J with v|⟨a,_⟩|⟨_,a,_⟩;(. exact v);(. exact absurd z.1 a);. exact absurd z.2 a);rcases h.link _ hS _ hy with v|v;(. exact v);. simp at v)
theorem Rc.done (h:Rc G ids S [] lk wr) (hl:S.length<=400):¬vS G ids/\(lk=true↔ph G ids)/\(wr=true↔qN G ids)/\∀x,x∈S↔GR G ids x:=by
 have hG:∀x,x∈S↔GR G ids x:=λx=>⟨h.good x,λhx=>by(rcases h.vis hx.1 with v|⟨a,_⟩|⟨_,a,_⟩);(. exact v);(. exact absurd hx.2.1 a);. exact absurd hx.2.2 a⟩;refine⟨λ⟨T,h1,h2,h3⟩=>?_,⟨h.lacks,λ⟨x,h1,h2⟩=>?_⟩,⟨h.wrong,λ⟨x,h1,h2,h3⟩=>?_⟩,hG⟩;. have:=lQ T S h1 (λx hx=>(hG x).2 (h3 x hx));omega
 . rcases h.vis h1 with v|⟨_,b⟩|⟨a,_⟩;(. exact absurd (h.good x v).2.1 h2);(. exact b);. exact absurd a h2
 . rcases h.vis h1 with v|⟨a,_⟩|⟨_,_,c⟩;(. exact absurd (h.good x v).2.2 h3);(. exact absurd h2 a);. exact c
theorem Rc.spec (h:Rc G ids S [] lk wr) (hl:S.length<=400) {L:List (Y0)} (hr:oo L) (hm:∀x,x∈L↔x∈S):jc G ids (if lk=true then([],7)else if wr=true then([],2)else(L,0)):=by
 obtain⟨h1,h2,h3,h4⟩:=h.done hl;cases lk with|true=>exact .inr (.inl ⟨h1,h2.1 rfl,rfl⟩)|false=>((have n2:¬ph G ids:=λk=>by have:=h2.2 k;cases this);cases wr with|true=>exact .inr (.inr (.inl ⟨h1,n2,h3.1 rfl,rfl⟩))|false=>(have n3:¬qN G ids:=λk=>by have:=h3.2 k;cases this);exact .inr (.inr (.inr ⟨h1,n2,n3,rfl,hr,λx=>(hm x).trans (h4 x)⟩)))
end
theorem vX {s:Y0} (h:(cO s).2=0):s.length<=8192:=by
 unfold cO at h;split at h;. cases h
 . omega
theorem IS {G:Tl} {x:Y0} (h:Dj G x):(uA G x).length<=64/\∀y∈uA G x,y.length<=32:=by
 have hb:=vX h.2
 have ok:=(xA (G x).1 om).2 h.2
 unfold uA mg;split;. refine⟨by rw[List.length_map];exact ok.ents,λy hy=>?_⟩;(obtain⟨e,he,rfl⟩:=List.mem_map.1 hy);(have:=(ok.each e he).2);omega
 . split;(. refine⟨by simp only[List.length_cons];have:=ok.pars;omega,λy hy=>?_⟩;(rcases List.mem_cons.1 hy with rfl|hy);(. exact ok.tree);. have:=ok.peach y hy;omega);. split;(. refine⟨by simp,λy hy=>?_⟩;simp only[List.mem_singleton]at hy;subst hy;exact ok.target);. simp
def sJ (G:Tl) (x:Y0):List (Y0):=if(G x).2=0/\(cO (G x).1).2=0/\(cO (G x).1).1.kind=3 then(cO (G x).1).1.pars else[]
inductive Ds (G:Tl) (frm:Y0):List (Y0)->List (Y0)->Bool->Prop
 |nil {S:List (Y0)}:Ds G frm S [] false
 |full {S W:List (Y0)}:400<=S.length->Ds G frm S W false
 |hit {S W:List (Y0)}:S.length<400->Ds G frm S (frm::W) true
 |skip {S W:List (Y0)} {x:Y0} {b:Bool}:S.length<400->x≠frm->x∈S->Ds G frm S W b->Ds G frm S (x::W) b
 |more {S W:List (Y0)} {x:Y0} {b:Bool}:S.length<400->x≠frm->x∉S->Ds G frm (S++[x]) (W++sJ G x) b->Ds G frm S (x::W) b
theorem Hw {G:Tl} {frm:Y0} {S W:List (Y0)} {b b':Bool} (h:Ds G frm S W b):Ds G frm S W b'->b=b':=by
 induction h with|nil=>(intro h';cases h'<;>rfl)|full hl=>(intro h';cases h'<;>first|rfl|omega)|hit hl=>(intro h';cases h' with|full h1=>omega|hit _=>rfl|skip _ h1 _ _=>exact absurd rfl h1|more _ h1 _ _=>exact absurd rfl h1)|skip hl hx hm _ J=>(intro h';cases h' with|full h1=>omega|hit _=>exact absurd rfl hx|skip _ _ _ h1=>exact J h1|more _ _ h1 _=>exact absurd hm h1)|more hl hx hm _ J=>(intro h';cases h' with|full h1=>omega|hit _=>exact absurd rfl hx|skip _ _ h1 _=>exact absurd h1 hm|more _ _ _ h1=>exact J h1)
theorem IJ {G:Tl} {x:Y0}:(sJ G x).length<=4/\∀y∈sJ G x,y.length<=32:=by
 unfold sJ;split;. rename_i h;(have hb:=vX h.2.1);(have ok:=(xA (G x).1 om).2 h.2.1);exact⟨ok.pars,λy hy=>by have:=ok.peach y hy;omega⟩
 . simp
end
theorem qp (B g:Nat) (q:dS) (t:Y0) (w:World) (h:bf w B g q) (Kd:q.1.length<=35184372080000):Calls Ao 64 #[(g,0),t] w λe w'=>e=.returned (.tuple #[])/\bf w' B g (bX t q)/\Below B w w'/\bY g w w':=by
 obtain⟨l,Y⟩:=q;obtain⟨A,cap,hb,ho⟩:=h.ex;have hg:=h.base;have hB:B<=w.heap.size:=zik
 simp only at hb ho Kd;have U:w.cell? (g,0)=(A,l.length,cap):=hb.cell 0;have f:w.cell? (g,1)=Y:=hb.cell 1;by_cases he:Y=0;. subst he;by_cases hn:t.length<=4096;(. have h9:=eE (n:=t.length) om;(have hx:(txt t).length=(eB t.length).length+t.length:=by simp[txt]);(have hx':(txt t).length<=4105:=om);clear hx h9;(go_enter Tryz.func64,Tryz.ntmps64);(go_wp2_with(first|(go_at_call 109;refine(BV [] _ _ (by simp) hn).mono ?_;rintro e w1 ⟨rfl,I⟩;rw[List.nil_append];have Ka:=hb.gr I;have c0:w1.cell? (g,0)=(A,l.length,cap):=Ka.cell 0;have b:=av ho I;have C:B<=w1.heap.size:=zhZ)|(at_builtin;refine bg E.u8 Tryz.underlying9 rfl (.tmp 25) (.tmp 26) rfl rfl b rfl zeU C ?_;intro A2 r w2 v y;have Kc:=eH Ka b dc0 y;have d0:w2.cell? (g,0)=(A,l.length,cap):=Kc.cell 0;have d1:w2.cell? (g,1)=some (.int .i64 ((0:Nat):Int)):=Kc.cell 1;have f0:=Kc.frozen 0;have f1:=Kc.frozen 1)));(first|go_end0|refine bodyPost_ret (results_none rfl _ _ _) rfl ?_);obtain⟨r1,r2,r3⟩:=qA (e':=0) hg Ka b v y C zeU;exact⟨rfl,by simpa[bX,hn]using r1,(I.below.mono hB).trans (by simpa using r2),(bY.gr I).trans (by simpa using r3)⟩);. (go_enter Tryz.func64,Tryz.ntmps64);(go_wp2_with(first|(go_at_call 109;refine(xS [] _ _ om).mono ?_;rintro e w1 ⟨rfl,rfl⟩;have Ka:=hb;have b:=ho;have C:=hB)|(at_builtin;refine bg (s:=[]) E.u8 Tryz.underlying9 rfl (.tmp 25) (.tmp 26) rfl rfl b rfl zeU C ?_;intro A2 r w2 v y;rw[List.append_nil]at v;have Kc:=eH Ka b dc0 y;have d0:w2.cell? (g,0)=(A,l.length,cap):=Kc.cell 0;have d1:w2.cell? (g,1)=some (.int .i64 ((0:Nat):Int)):=Kc.cell 1;have f0:=Kc.frozen 0;have f1:=Kc.frozen 1)));(first|go_end0|refine bodyPost_ret (results_none rfl _ _ _) rfl ?_);obtain⟨r1,r2,r3⟩:=qA (e':=1) hg Ka b v y C zeU;exact⟨rfl,by simpa[bX,hn]using r1,by first|exact r2|simpa using r2,by first|exact r3|simpa using r3⟩
 . (have a:((Y:Int)==0)=false:=zeX);(have R:((Y:Int)!=0)=true:=zeX);(go_enter Tryz.func64,Tryz.ntmps64);(go_wp2);(first|go_end0|refine bodyPost_ret (results_none rfl _ _ _) rfl ?_);exact⟨rfl,by simpa[bX,he]using h,Below.refl _ _,bY.refl _ _⟩
def ij (n:Int) (r:Y0):Int:=if n<0\/200<n then 3 else if r.length=32 then 0 else 2
def gQ (b:Y0):Int×Y0×Int:=
 if gE b=0/\b.length-gK b=32 then
  (if ij (gN b:Int) (b.drop (gK b))=0 then((gN b:Int),b.drop (gK b),0)else(0,[],ij (gN b:Int) (b.drop (gK b))))
 else(0,[],2)
theorem In (n:Int) (r:Y0):ij n r=0\/ij n r=2\/ij n r=3:=by
 unfold ij;split;. simp
 . split<;>simp
theorem If {b:Y0} (h:gE b=0/\b.length-gK b=32):aD (b,0)=gN b/\cu 32 (ao (b,0))=b.drop (gK b)/\aN 32 (ao (b,0))=([],0):=by
 obtain⟨h1,h2⟩:=h;have hl:(b.drop (gK b)).length=32:=by rw[List.length_drop];exact h2
 have e:ao (b,0)=(b.drop (gK b),0):=by unfold ao;rw[if_pos rfl,h1]
 refine⟨by unfold aD;rw[if_pos rfl],?_,?_⟩;. rw[e];unfold cu;rw[if_pos ⟨rfl,om,by simp only;rw[hl];omega⟩];exact List.take_of_length_le (by simp only;rw[hl];decide)
 . rw[e];unfold aN;rw[if_pos rfl,if_pos ⟨om,by simp only;rw[hl];omega⟩];simp only[Prod.mk.injEq,and_true];exact List.drop_eq_nil_of_le (by rw[hl];decide)
theorem Jo {b:Y0} (h:¬(gE b=0/\b.length-gK b=32)):(aN 32 (ao (b,0))).2≠0\/0<(aN 32 (ao (b,0))).1.length:=by
 have e:ao (b,0)=(b.drop (gK b),gE b):=by unfold ao;rw[if_pos rfl]
 rw[e];unfold aN;by_cases h1:gE b=0;. have h2:b.length-gK b≠32:=λh2=>h ⟨h1,h2⟩;rw[if_pos h1];split;(. rename_i h3;right;simp only[List.length_drop]at h3⊢;(have:(32:Int).toNat=32:=rfl);rw[this];omega);. left;simp
 . rw[if_neg h1];exact .inl h1
theorem uC (n:Int) (r:Y0) (w:World) (hr:r.length<=1152921504606846976):Calls Ao 170 #[.agg (a7 n r)] w λe w'=>e=.returned (ij n r)/\Gr w w':=by
 unfold a7;by_cases h0:n<0;. have HE:ab (ij n r=3):=aa (by unfold ij;rw[if_pos (.inl h0)]);rw[HE.o];exact zaX
 . by_cases h1:200<n;(. have HE:ab (ij n r=3):=aa (by unfold ij;rw[if_pos (.inr h1)]);rw[HE.o];exact zaX);. by_cases h2:r.length=32;(. have HE:ab (ij n r=0):=aa (by unfold ij;rw[if_neg om,if_pos h2]);rw[HE.o];have h3:¬¬(r.length:Int)=32:=om;exact zaX);. have HE:ab (ij n r=2):=aa (by unfold ij;rw[if_neg om,if_neg h2]);rw[HE.o];have h3:¬(r.length:Int)=32:=om;exact zaX
def vz (s:Y0):Y0:=aj ([0]++s)
def il (a b:Y0):Y0:=aj ([1]++a++b)
theorem qv (a b:Y0):(il a b).length=32:=rfl
def bN (n:Nat):Nat:=2^Nat.log2 (n-1)
theorem EE {n h:Nat} (h1:2^h<n) (h2:n<=2^(h+1)):bN n=2^h:=by
 unfold bN;have h0:n-1≠0:=by have:=Nat.two_pow_pos h;omega
 rw[(Nat.log2_eq_iff (k:=h) h0).2 ⟨om,om⟩]
theorem zh {n:Nat} (h:n<=2):bN n=1:=by
 have:n=0\/n=1\/n=2:=om;rcases this with rfl|rfl|rfl<;>decide
theorem AS {n:Nat} (hn:1<n):∃h,bN n=2^h/\2^h<n/\n<=2^(h+1):=by
 have h0:n-1≠0:=om;have:=(Nat.log2_eq_iff (n:=n-1) (k:=Nat.log2 (n-1)) h0).1 rfl
 exact⟨Nat.log2 (n-1),rfl,om,om⟩
theorem jC (n:Nat):0<bN n:=Nat.two_pow_pos _
theorem kF {n:Nat} (hn:1<n):bN n<n:=by
 obtain⟨h,e,h1,_⟩:=AS hn;rw[e];exact h1
def cB (l:List (Y0)):Y0:=
 if _h0:l.length=0 then aj []
 else if _h1:l.length=1 then vz (l.getD 0 [])
 else il (cB (l.take (bN l.length))) (cB (l.drop (bN l.length)))
termination_by l.length
decreasing_by
 . rw[List.length_take];have:=kF (n:=l.length) om;omega
 . rw[List.length_drop];have:=jC l.length;omega
theorem pS:cB []=aj []:=by rw[cB];rfl
theorem C7 (s:Y0):cB [s]=vz s:=by rw[cB];rfl
theorem BQ {l:List (Y0)} (h:1<l.length):cB l=il (cB (l.take (bN l.length))) (cB (l.drop (bN l.length))):=by
 rw[cB,dif_neg om,dif_neg om]
theorem iJ (l:List (Y0)):(cB l).length=32:=by
 rw[cB];split;. rfl
 . split<;>rfl
theorem gq {α:Type} (L:List α) (off:Nat) (cs:List α):Go.splice L off cs=L.take off++(cs++L.drop (off+cs.length)):=rfl
theorem wI {α:Type} (L xs x:List α) (o m k:Nat) (hL:L.take m=xs) (hm:xs.length=m) (ho:o<=m) (hk:x.length=k) (hl:m+k<=L.length):(Go.splice (Go.splice L (o+k) (xs.drop o)) o x).take (m+k)=xs.take o++(x++xs.drop o):=by
 have h0:(xs.drop o).length=m-o:=zeQ
 have h1:Go.splice L (o+k) (xs.drop o)=L.take (o+k)++(xs.drop o++L.drop (m+k)):=by rw[gq,h0,show o+k+(m-o)=m+k by omega]
 rw[h1,gq,hk];have h2:(L.take (o+k)++(xs.drop o++L.drop (m+k))).take o=xs.take o:=by rw[List.take_append_of_le_length zeA,List.take_take,<-hL,List.take_take];congr 1;omega
 have h3:(L.take (o+k)++(xs.drop o++L.drop (m+k))).drop (o+k)=xs.drop o++L.drop (m+k):=by rw[List.drop_append_of_le_length zeA,List.drop_eq_nil_of_le zeA];rfl
 rw[h2,h3,<-List.append_assoc,<-List.append_assoc];rw[List.take_append_of_le_length zc4,List.take_of_length_le zc4,List.append_assoc]
theorem xF {α:Type} (R xs x:List α) (o m k:Nat) (hR:R.take o=xs.take o) (hm:xs.length=m) (ho:o<=m) (hk:x.length=k) (hl:m+k<=R.length):(Go.splice (Go.splice R o x) (o+k) (xs.drop o)).take (m+k)=xs.take o++(x++xs.drop o):=by
 have h0:(xs.drop o).length=m-o:=zeQ
 have h1:Go.splice R o x=xs.take o++(x++R.drop (o+k)):=by rw[gq,hk,hR]
 have h2:(Go.splice R o x).take (o+k)=xs.take o++x:=by rw[h1,<-List.append_assoc,List.take_append_of_le_length zc4,List.take_of_length_le zc4]
 have h3:(Go.splice (Go.splice R o x) (o+k) (xs.drop o))=xs.take o++x++(xs.drop o++(Go.splice R o x).drop (o+k+(m-o))):=by rw[gq (Go.splice R o x),h2,h0]
 rw[h3,<-List.append_assoc,List.take_append_of_le_length zc4,List.take_of_length_le zc4,List.append_assoc]
theorem xl {α:Type} (L xs:List α) (o m k:Nat) (hL:L.take m=xs) (hm:xs.length=m) (ho:o+k<=m) (hl:m<=L.length) (z:List α) (hz:z.length=k):(Go.splice (Go.splice L o (xs.drop (o+k))) (m-k) z).take (m-k)=xs.take o++xs.drop (o+k):=by
 have h0:(xs.drop (o+k)).length=m-k-o:=zeQ
 have h1:Go.splice L o (xs.drop (o+k))=L.take o++(xs.drop (o+k)++L.drop (m-k)):=by rw[gq,h0,show o+(m-k-o)=m-k by omega]
 have h4:L.take o=xs.take o:=by rw[<-hL,List.take_take];congr 1;omega
 rw[gq,List.take_append_of_le_length (by rw[List.length_take,h1];simp;omega),List.take_take,Nat.min_self,h1,h4,<-List.append_assoc,List.take_append_of_le_length zc4,List.take_of_length_le zc4]
theorem fb {P:Program} (w:World) (h m ty e:TypeId) (g o c k:Nat) (a:Addr) (b f size:Nat) (d:Array Value) (t:TypeId) (cs:List Value) (hu:P.underlying h=some (.slice e)) (hs:(P.info? e).map (·.size)=some size) (hg:w.heap[g]?=some (.cells d t (0,0))) (hn:cs.length=Nat.min b c*size) (l:∀j v,cs[j]?=some v->w.cell? (a.add j)=some v) (Ke:o+cs.length<=d.size) (h1:∀v∈cs,v.oneCell'=true):(Builtin.copy_ #[h,m] ty #[((g,o),c,k),.slice (some a) b f]).run P w=.ok (goInt (Nat.min b c)) (w.setRow g (Go.splice d.toList o cs).toArray):=by
 have hl:=run_loadCells_list (P:=P) w a cs l;have Kj:=run_storeCells_at P g o t cs 0 d w hg (by simpa using Ke) h1;cases hq:P.info? e with|none=>simp[hq]at hs|some i=>(have hi:i.size=size:=by simpa[hq]using hs);have hf:=run_firstCells_some (P:=P) w size (Nat.min b c) a b f cs hn l;rw[gq];simp[Builtin.copy_,run_underlying hu,Builtin.lenOf,sizeOf,typeInfo,hq,hi,hf,Kj,List.append_assoc]
theorem pl:(Ao.info? 70).map (·.size)=some 3:=by
 obtain⟨Y,L,_,h1,_⟩:=info_parts E.file.info;rw[L];simp[h1]
theorem Bl:∀w,(Go.sizeOf 70).run Ao w=.ok 3 w:=by
 intro w;obtain⟨Y,L,_,h1,_⟩:=info_parts E.file.info;simp[sizeOf,typeInfo,L,h1]
theorem Co (g cap n i gv vc:Nat) (d x:List Value) (w:World) (hi:i<n) (a:n+1<=cap) (q:cap<=maxLen) (m:gv≠g) (hg:ag w g 70 d.toArray) (hs:d.length=cap*3) (hv:ag w gv 70 x.toArray) (hx:x.length=3) (h1:∀v∈d.take (n*3),v.oneCell'=true) (c:∀v∈x,v.oneCell'=true):Calls Ao 205 #[.slice (some ⟨g,0,none⟩) n cap,.int .i64 (i:Int),.slice (some ⟨gv,0,none⟩) 1 vc] w λe w'=>e=.returned (.slice (some ⟨g,0,none⟩) (n+1) cap)/\ag w' g 70 (Go.splice (Go.splice d (i*3+3) ((d.take (n*3)).drop (i*3))) (i*3) x).toArray/\w.grownBy w' (some g):=by
 have I:(d.take (n*3)).length=n*3:=zeA
 obtain⟨xs,h⟩:=zq (d.take (n*3));have t:∀lb cb,(callFunc 222 #[.slice (some ⟨gv,0,none⟩) 1 vc,.slice (some ⟨g,(i+1)*3,none⟩) lb cb]).run Ao w=.ok (.value (.bool false)) w:=λlb cb=>by rw[run_callFunc_extern Tryz.func222 zc0 zc0 zc0 (e:=Extern.SlicesOverlaps.overlaps #[34,34] #[4]) zc0,Lib.run_overlaps_apart w 34 4 70 E.file.under 3 Bl ⟨gv,0,none⟩ ⟨g,(i+1)*3,none⟩ 1 vc lb cb m 70 70 3 (cap*3) zhx zhy om (hv.frozen 0) (hv.frozen 3)];rfl
 have r:((d.take (n*3)).drop (i*3)).length=n*3-i*3:=zgb
 have b:∀ty l sc,(Builtin.copy_ #[34,34] ty #[.slice (some ⟨g,(i+1)*3,none⟩) (n-i) l,.slice (some ⟨g,i*3,none⟩) (n+1-i) sc]).run Ao w.drew=.ok (goInt ((n-i:Nat):Int)) (w.drew.setRow g (Go.splice d ((i+1)*3) ((d.take (n*3)).drop (i*3))).toArray):=λty l sc=>by have:=fb (P:=Ao) w.drew 34 34 ty 70 g ((i+1)*3) (n-i) l ⟨g,i*3,none⟩ (n+1-i) sc 3 d.toArray 70 ((d.take (n*3)).drop (i*3)) E.file.under pl hg.drew zfw (λj v hj=>by rw[Addr.add_lit];rw[List.getElem?_drop,List.getElem?_take]at hj;split at hj;(. exact(hg.drew.cell _).trans ze2);. cases hj) zhL (λv hv=>h1 v (List.mem_of_mem_drop hv));exact zcZ
 obtain⟨c1,f⟩:=zq (Go.splice d ((i+1)*3) ((d.take (n*3)).drop (i*3)));rw[<-f]at b;have p:c1.length=cap*3:=zgQ
 have H:ag (w.drew.setRow g c1.toArray) g 70 c1.toArray:=hg.drew.of_setRow _;have o:ag (w.drew.setRow g c1.toArray) gv 70 x.toArray:=hv.drew.only (iF w.drew g _) m;have z:∀ty l,(Builtin.copy_ #[34,34] ty #[.slice (some ⟨g,i*3,none⟩) (n+1-i) l,.slice (some ⟨gv,0,none⟩) 1 vc]).run Ao (w.drew.setRow g c1.toArray)=.ok (goInt 1) ((w.drew.setRow g c1.toArray).setRow g (Go.splice c1 (i*3) x).toArray):=λty l=>by have:=fb (P:=Ao) (w.drew.setRow g c1.toArray) 34 34 ty 70 g (i*3) (n+1-i) l ⟨gv,0,none⟩ 1 vc 3 c1.toArray 70 x E.file.under pl H zeO (λj v hj=>by rw[Addr.add_lit,Nat.zero_add];exact(o.cell _).trans ze2) zhM c;exact za1
 have HE:ab (Go.splice (Go.splice d (i*3+3) ((d.take (n*3)).drop (i*3))) (i*3) x=Go.splice c1 (i*3) x):=aa (by rw[f,show(i+1)*3=i*3+3 by omega]);have HB:ab (ag ((w.drew.setRow g c1.toArray).setRow g (Go.splice c1 (i*3) x).toArray) g 70 (Go.splice c1 (i*3) x).toArray):=aa (H.of_setRow _);have Ku:ab (w.grownBy ((w.drew.setRow g c1.toArray).setRow g (Go.splice c1 (i*3) x).toArray) (some g)):=aa ⟨rfl,rfl,rfl,by simp[World.setRow],λk hk hne=>by rw[setRow_other _ g k _ (λe=>hne (by rw[e])),setRow_other _ g k _ (λe=>hne (by rw[e]))];rfl⟩;have T:¬((i:Int)=(n:Int)):=om;have Kp:IntKind.i64.wrap ((i:Int)+1)=(i:Int)+1:=zg1
 have Mk:((i:Int)+1).toNat=i+1:=om
 have Ka:(0:Int)<=(i:Int)+1:=om;have Ks:(i:Int)<=(n:Int):=om;have Kv:(i:Int)<=(n:Int)+1:=om;have Kc:¬(cap=i+1):=om;have Lb:¬(cap=i):=om;have Q:¬(cap<n+1):=om;have hm:cap<=9223372036854775807:=zhV
 clear f p H o r h h1 c hg hv hs I;go_enter Tryz.func205,Tryz.ntmps205
 go_wp2_with(simp only[t])
 go_region_law (refine step_copy_run rfl _ _ 34 34 rfl _ _ zeZ zeZ (b _ _ _) ?_)
 go_wp2_with(at_builtin;refine wpList_copy_run _ rfl _ _ 34 34 rfl _ _ rfl rfl (z _ _) ?_)
 exact zdQ
theorem lX (w:World) {P:Program} {ops:Array Oper} {rest:List Oper} {o:Oper} {a:Act} {Q:Exit->Act->World->Prop} (G:o.guard=none) (d s:Operand) (t b:TypeId)
 (ho:o.op=.call {callee:=.builtin .append,args:=#[d,s],argTypes:=#[t,b]}) (v u:Value) (hd:a.eval d=v) (hs:a.eval s=u) {J:Value} {w':World}
 (hr:(Builtin.append_ #[t,b] o.type #[v,u]).run P w=.ok J w') (h:wpList P ops Q rest (a.put o.dst J) w'):wpList P ops Q (o::rest) a w:=
 wpList_plain G λ_ hK=>by
  unfold Oper.wp execOp
  simp only[ho,resolve,invoke,builtin,Sem.run_bind,Sem.run_pure,Result.andThen_ok,List.map_toArray,List.map_cons,List.map_nil,hd,hs,hr]
  exact hK _ _ h
theorem Gs (A:Yy) (n cap gv vc B:Nat) (xs x:List Value) (w:World) (N:w.ownsRow B 70 3 (A,n,cap) n xs) (hv:ag w gv 70 x.toArray) (hx:x.length=3) (c:∀v∈x,v.oneCell'=true) (hn:n<=1099511627776) (hB:B<=w.heap.size):Calls Ao 205 #[(A,n,cap),n,((gv,0),1,vc)] w λe w'=>∃U D,e=.returned (U,n+1,D)/\w'.ownsRow B 70 3 (.slice U (n+1) D) (n+1) (xs++x)/\w.grownBy w' (Value.ownBlock (A,n,cap)):=by
 have Ka:(n+1)*48<=140737488355328:=om;have Kc:n+1<=maxLen:=zc1
 have C:ak w 3 (some (gv,0)) 1 x:=zhl
 have Lg:n<=cap:=zdI
 have HO:=aa N;have HR:=aa C;have f:=aa c;clear N C hv c;cases A with|none=>((have:n=0/\cap=0:=zcT);obtain⟨rfl,rfl⟩:=this;(go_enter Tryz.func205,Tryz.ntmps205);(go_wp2_with(refine bQ E.file rfl (.tmp 23) (.tmp 24) rfl (B:=B) (A0:=none) (n0:=0) (cap0:=0) (xs:=xs) rfl HO.o rfl HR.o ze4 f.o Ka Kc hB ?_;intro U c' w' p d));go_ret;exact⟨U,c',rfl,p,d⟩)|some ad=>(obtain⟨g,hg⟩:∃g,ad=⟨g,0,none⟩:=zbm);subst hg;(go_enter Tryz.func205,Tryz.ntmps205);(go_wp2_with(refine bQ E.file rfl (.tmp 23) (.tmp 24) rfl (B:=B) (A0:=some ⟨g,0,none⟩) (n0:=n) (cap0:=cap) (xs:=xs) rfl HO.o rfl HR.o ze4 f.o Ka Kc hB ?_;intro U c' w' p d));all_goals go_ret;exact⟨U,c',rfl,p,d⟩
theorem Ct (g cap n i gv vc:Nat) (d x:List Value) (w:World) (hi:i<n) (a:cap<n+1) (Lg:n<=cap) (hn:n<=1099511627776) (hg:ag w g 70 d.toArray) (hs:d.length=cap*3) (hv:ag w gv 70 x.toArray) (hx:x.length=3) (h1:∀v∈d.take (n*3),v.oneCell'=true) (c:∀v∈x,v.oneCell'=true):Calls Ao 205 #[((g,0),n,cap),i,((gv,0),1,vc)] w λe w'=>∃(G:Nat) (R:List Value),e=.returned ((w.heap.size,0),n+1,G)/\n+1<=G/\G<=maxLen/\R.length=G*3/\R.take (i*3)=(d.take (n*3)).take (i*3)∧ag w' w.heap.size 70 (Go.splice (Go.splice R (i*3) x) (i*3+3) ((d.take (n*3)).drop (i*3))).toArray/\w.grownBy w' none:=by
 have I:(d.take (n*3)).length=n*3:=zeA
 obtain⟨xs,h⟩:=zq (d.take (n*3));rw[<-h]at I h1;rw[<-h];obtain⟨Y,L,O,M,T⟩:=info_parts E.file.info;obtain⟨k,hk⟩:=zq (n+1-i);have Kj:i+k=n+1:=om;obtain⟨G,hG⟩:=zq (grownCap w (n+1) cap 70);have V:n+1<=G:=zin
 have K:G<=maxLen:=ziO
 have o:∀j v,xs[j]?=some v->w.cell? ⟨g,j,none⟩=some v:=λj v hj=>by rw[h,List.getElem?_take]at hj;exact zcL
 have hold:(Builtin.firstCells Y.size i ((g,0),i,cap)).run Ao w.drew=.ok (xs.take (i*3)).toArray w.drew:=by rw[M];exact run_firstCells_some w.drew 3 i (g,0) i cap (xs.take (i*3)) zio (λj v hj=>by rw[Addr.add_lit,Nat.zero_add];rw[List.getElem?_take]at hj;split at hj;(. exact o j v hj);. cases hj)
 obtain⟨R,hR⟩:∃R:List Value,R=((xs.take (i*3)).toArray++Builtin.zeroCells (Value.agg #[s_,s_,s_]).cells k++Builtin.zeroCells (Value.agg #[s_,s_,s_]).cells (G-(i+k))).toList:=⟨_,rfl⟩
 have q:∀ty,(Builtin.append_ #[34,3] ty #[((g,0),i,cap),.int .i64 (k:Int)]).run Ao w=.ok ((w.heap.size,0),n+1,G) (w.drew.alloc (.cells R.toArray 70)):=λty=>by(have:=Lib.run_append_grow_zeros (P:=Ao) w 34 3 ty 70 Y _ .i64 .i64 E.file.under Tryz.underlying3 L O (some (g,0)) i cap (xs.take (i*3)) hold k om om om om zfR zhN);exact zet
 have C:R.length=G*3:=by rw[hR];(have X:(Value.agg #[s_,s_,s_]).cells.size=3:=E.file.zcells);exact zd0
 have H:R.take (i*3)=xs.take (i*3):=zdE
 have Lr:=hg.lt;have J:=hv.lt;obtain⟨u,s⟩:=zq (w.drew.alloc (.cells R.toArray 70));have F:ag u w.heap.size 70 R.toArray:=by rw[s];exact ag.new w.drew _ _
 have t:ag u g 70 d.toArray:=by rw[s];exact hg.drew.alloc _
 have U:ag u gv 70 x.toArray:=by rw[s];exact hv.drew.alloc _
 have S:w.grownBy u none:=zfN
 rw[<-s]at q;obtain⟨Z,y⟩:=zq (w.heap.size);rw[<-y]at q F Lr J;rw[<-y];have b:∀ty l,(Builtin.copy_ #[34,34] ty #[.slice (some (Z,i*3)) (n+1-i) l,((gv,0),1,vc)]).run Ao u=.ok (goInt 1) (u.setRow Z (Go.splice R (i*3) x).toArray):=λty l=>by have:=fb (P:=Ao) u 34 34 ty 70 Z (i*3) (n+1-i) l (gv,0) 1 vc 3 R.toArray 70 x E.file.under pl F zeO (λj v hj=>by rw[Addr.add_lit,Nat.zero_add];exact(U.cell _).trans ze2) zhO c;exact za1
 obtain⟨c1,f⟩:=zq (Go.splice R (i*3) x);rw[<-f]at b;have p:c1.length=G*3:=zgV
 obtain⟨D,A⟩:=zq (u.setRow Z c1.toArray);have B:ag D Z 70 c1.toArray:=by rw[A];exact F.of_setRow _
 have N:ag D g 70 d.toArray:=ziq
 have m:w.grownBy D none:=zec
 rw[<-A]at b;have r:(xs.drop (i*3)).length=n*3-i*3:=zgb
 have z:∀ty l sc,(Builtin.copy_ #[34,34] ty #[.slice (some (Z,(i+1)*3)) (n-i) l,.slice (some (g,i*3)) (n-i) sc]).run Ao D.drew=.ok (goInt ((n-i:Nat):Int)) (D.drew.setRow Z (Go.splice c1 ((i+1)*3) (xs.drop (i*3))).toArray):=λty l sc=>by have:=fb (P:=Ao) D.drew 34 34 ty 70 Z ((i+1)*3) (n-i) l (g,i*3) (n-i) sc 3 c1.toArray 70 (xs.drop (i*3)) E.file.under pl B.drew zfC (λj v hj=>by rw[Addr.add_lit];rw[List.getElem?_drop,h,List.getElem?_take]at hj;split at hj;(. exact(N.drew.cell _).trans ze2);. cases hj) zhW (λv hv=>h1 v (List.mem_of_mem_drop hv));exact zej
 have HB:ab (ag (D.drew.setRow Z (Go.splice c1 ((i+1)*3) (xs.drop (i*3))).toArray) Z 70 (Go.splice (Go.splice R (i*3) x) (i*3+3) (xs.drop (i*3))).toArray):=aa (by rw[<-f,show i*3+3=(i+1)*3 by omega];exact B.drew.of_setRow _);have Ku:ab (w.grownBy (D.drew.setRow Z (Go.splice c1 ((i+1)*3) (xs.drop (i*3))).toArray) none):=aa ⟨m.os,m.tape,m.output,by simpa[World.setRow]using m.size,λk hk hne=>by rw[setRow_other _ Z k _ om];exact m.block k hk hne⟩;have Lh:=aa C;have Eq:=aa H;have La:(n:Int)+1-(i:Int)=(k:Int):=om;have W:¬((i:Int)=(n:Int)):=om;have Kp:IntKind.i64.wrap ((i:Int)+1)=(i:Int)+1:=by rw[IntKind.wrap_i64];omega
 have Mk:((i:Int)+1).toNat=i+1:=om
 have Ka:(0:Int)<=(i:Int)+1:=om;have Ks:(i:Int)<=(n:Int):=om;have Kv:(i:Int)<=(n:Int)+1:=om;have Kc:¬(G=i+1):=om;have Lb:¬(G=i):=om;have Q:¬(cap=i):=om;clear f p B N m r h h1 c hg hv hs I F t U S H C A s hR hold o hG O M T L Lr J y hk Kj;go_enter Tryz.func205,Tryz.ntmps205
 go_wp2_with(first|(at_builtin;refine lX _ rfl (.tmp 34) (.tmp 39) 34 3 rfl _ _ rfl rfl (q _) ?_)|(at_builtin;refine wpList_copy_run _ rfl (.tmp 43) (.tmp 44) 34 34 rfl _ _ rfl rfl (b _ _) ?_))
 go_region_law (refine step_copy_run rfl _ _ 34 34 rfl _ _ zeZ zeZ (z _ _ _) ?_)
 exact zeq
def fD (i:Nat) (f:Fl) (fs:List Fl):List Fl:=fs.take i++f::fs.drop i
theorem ux (fs:List Fl):∀i,(fs.flatMap ap).take (i*3)=(fs.take i).flatMap ap:=by
 induction fs with|nil=>intro i;simp|cons f r J=>(intro i;cases i with|zero=>simp|succ i=>(have e:(i+1)*3=(ap f).length+i*3:=zg9);exact zbJ)
theorem vf (fs:List Fl):∀i,(fs.flatMap ap).drop (i*3)=(fs.drop i).flatMap ap:=by
 induction fs with|nil=>intro i;simp|cons f r J=>(intro i;cases i with|zero=>simp|succ i=>(have e:(i+1)*3=(ap f).length+i*3:=zg9);exact zbY)
theorem rY (fs:List Fl) (i:Nat) (f:Fl):(fs.flatMap ap).take (i*3)++(ap f++(fs.flatMap ap).drop (i*3))=(fD i f fs).flatMap ap:=by
 rw[ux,vf,fD,List.flatMap_append,List.flatMap_cons]
theorem Fr (fs:List Fl) (i:Nat):(fs.flatMap ap).take (i*3)++(fs.flatMap ap).drop (i*3+3)=(fs.eraseIdx i).flatMap ap:=by
 rw[ux,show i*3+3=(i+1)*3 by omega,vf,List.eraseIdx_eq_take_drop_succ,List.flatMap_append]
theorem sZ (A:Yy) (n cap i gv vc B:Nat) (fs:List Fl) (f:Fl) (w:World) (N:w.ownsRow B 70 3 (A,n,cap) n (fs.flatMap ap)) (hi:i<=n) (hn:n<=1099511627776) (hv:ag w gv 70 (ap f).toArray) (hne:(Value.slice A n cap).ownBlock≠some gv) (hB:B<=w.heap.size):Calls Ao 205 #[(A,n,cap),i,((gv,0),1,vc)] w λe w'=>∃U D,e=.returned (U,n+1,D)/\w'.ownsRow B 70 3 (.slice U (n+1) D) (n+1) ((fD i f fs).flatMap ap)/\w.grownBy w' (Value.ownBlock (A,n,cap)):=by
 have c:∀v∈ap f,v.oneCell'=true:=by intro v hv;simp[ap]at hv;rcases hv with rfl|rfl|rfl<;>rfl
 have hl:(fs.flatMap ap).length=n*3:=N.1
 have T:fs.length=n:=zh9
 rcases Nat.lt_or_eq_of_le hi with hlt|rfl;. (rcases N.2 with⟨_,h0⟩|⟨g,D,d,b,h,hg,Lg,Kq,I,ht⟩);(. omega);. injection b with hA _ hc;subst hA hc;have m:gv≠g:=λe=>hne zfq;(have hg':ag w g 70 d.toList.toArray:=zfs);(have Kd:d.toList.length=cap*3:=zhG);(have h1:∀v∈d.toList.take (n*3),v.oneCell'=true:=by rw[ht];exact qn);by_cases a:n+1<=cap;(. (refine(Co g cap n i gv vc d.toList (ap f) w hlt a Kq m hg' Kd hv rfl h1 c).mono ?_);rintro e w' ⟨rfl,hb,F⟩;refine⟨_,_,rfl,⟨?_,.inr ⟨g,cap,_,rfl,h,hb,a,Kq,?_,?_⟩⟩,F⟩;(. rw[cW ap 3 (λ_=>rfl)];simp[fD];omega);(. rw[ht,List.size_toArray];(have hd:((fs.flatMap ap).drop (i*3)).length=n*3-i*3:=zfj);(have h3:(ap f).length=3:=rfl);have h4:=Go.length_splice d.toList (i*3+3) ((fs.flatMap ap).drop (i*3)) zgO;exact zca);. rw[ht,List.toList_toArray,show(n+1)*3=n*3+3 by omega,wI d.toList _ (ap f) (i*3) (n*3) 3 ht hl om rfl zhk,rY]);. (refine(Ct g cap n i gv vc d.toList (ap f) w hlt om Lg hn hg' Kd hv rfl h1 c).mono ?_);rintro e w' ⟨G,R,rfl,V,K,C,H,hb,F⟩;refine⟨_,_,rfl,⟨?_,.inr ⟨w.heap.size,G,_,rfl,hB,hb,V,K,?_,?_⟩⟩,⟨F.os,F.tape,F.output,F.size,λk hk _=>F.block k hk (by simp)⟩⟩;(. rw[cW ap 3 (λ_=>rfl)];simp[fD];omega);(. rw[ht,List.size_toArray];(have hd:((fs.flatMap ap).drop (i*3)).length=n*3-i*3:=zfj);(have h3:(ap f).length=3:=rfl);have h4:=Go.length_splice R (i*3) (ap f) (by rw[h3,C];omega);exact zdk);. rw[ht]at H;rw[ht,List.toList_toArray,show(n+1)*3=n*3+3 by omega,xF R _ (ap f) (i*3) (n*3) 3 H hl om rfl (by rw[C];omega),rY]
 . (refine(Gs A i cap gv vc B _ (ap f) w N hv rfl c hn hB).mono ?_);rintro e w' ⟨U,D,rfl,ho,F⟩;refine⟨U,D,rfl,?_,F⟩;rw[<-rY,List.take_of_length_le om,List.drop_eq_nil_of_le om,List.append_nil];exact ho
theorem oG {P:Program} (w:World) (t e ty:TypeId) (z:Value) (ht:P.underlying t=some (.slice e)) (hv:∀w,(zeroValue e).run P w=.ok z w) (g o c:Nat) (d:Array Value) (a:TypeId) (hg:w.heap[g]?=some (.cells d a (0,0))) (Ke:o+z.cells.size<=d.size) (h1:∀v∈z.cells.toList,v.oneCell'=true):(Builtin.clear_ #[t] ty #[((g,o),1,c)]).run P w=.ok (.tuple #[]) (w.setRow g (Go.splice d.toList o z.cells.toList).toArray):=by
 have b:(Builtin.zeroCells z.cells 1).toList=z.cells.toList:=by simp[Builtin.zeroCells];apply List.ext_getElem;(. simp);. intro i h1 h2;(have f:i<z.cells.size:=zhv);simp[Nat.mod_eq_of_lt f,getElem!_pos z.cells i f]
 have Kj:=run_storeCells_at P g o a z.cells.toList 0 d w hg (by simpa using Ke) h1;simp only[Nat.add_zero]at Kj;rw[gq];simp[Builtin.clear_,run_underlying ht,hv,b,Kj,List.append_assoc]
theorem jm {P:Program} {ops:Array Oper} {o:Oper} {a:Act} {w:World} {K:Act->World->Prop} {Q:Exit->Act->World->Prop} {E:Prop}
 (hg:o.guard=none) (d x:Operand) (h m:TypeId) (Kf:o.op=Op.call {callee:=Callee.builtin Builtin.append,args:=#[d,x],argTypes:=#[h,m]})
 (v u:Value) (hd:a.eval d=v) (hx:a.eval x=u) {J:Value} {w':World} (hr:(Builtin.append_ #[h,m] o.type #[v,u]).run P w=.ok J w') (hK:K (a.put o.dst J) w'):
 if Region.wanted o (yielded ops a.tmps)=true then Oper.wp P o a w K Q else E:=by
 have hw:Region.wanted o (yielded ops a.tmps)=true:=by simp[Region.wanted,hg]
 rw[if_pos hw]
 unfold Oper.wp execOp
 simp only[Kf,resolve,invoke,builtin,Sem.run_bind,Sem.run_pure,Result.andThen_ok,List.map_toArray,List.map_cons,List.map_nil,hd,hx,hr]
 exact hK
theorem DZ:∀w,(zeroValue 70).run Ao w=.ok (.agg #[s_,s_,s_]) w:=by
 intro w;obtain⟨Y,L,h0,h1,_⟩:=info_parts E.file.info;simp[zeroValue,typeInfo,L,h0]
theorem ED (g cap n i:Nat) (d:List Value) (w:World) (hi:i<n) (Lg:n<=cap) (q:cap<=maxLen) (hn:n<=1099511627776) (hg:ag w g 70 d.toArray) (hs:d.length=cap*3) (h1:∀v∈d.take (n*3),v.oneCell'=true):Calls Ao 203 #[.slice (some ⟨g,0,none⟩) n cap,.int .i64 (i:Int),.int .i64 ((i:Int)+1)] w λe w'=>e=.returned (.slice (some ⟨g,0,none⟩) (n-1) cap)/\ag w' g 70 (Go.splice (Go.splice d (i*3) ((d.take (n*3)).drop (i*3+3))) (n*3-3) [.string (bs []),.string (bs []),.string (bs [])]).toArray/\w.grownBy w' (some g):=by
 have I:(d.take (n*3)).length=n*3:=zeA
 obtain⟨Y,L,O,M,T⟩:=info_parts E.file.info;obtain⟨b,l⟩:=zq ((d.take (n*3)).drop (i*3+3));have y:b.length=(n-(i+1))*3:=ziL
 have r:∀v∈b,v.oneCell'=true:=λv hv=>h1 v zha;have a:∀j v,b[j]?=some v->w.cell? ⟨g,i*3+3+j,none⟩=some v:=λj v hj=>by exact zel
 rw[<-l];obtain⟨c1,f⟩:=zq (Go.splice d (i*3) b);have p:c1.length=cap*3:=zgP
 have o:∀ad ty c,(0<n-(i+1)->ad=⟨g,(i+1)*3,none⟩)->(Builtin.append_ #[34,34] ty #[.slice (some ⟨g,0,none⟩) i cap,.slice (some ad) (n-(i+1)) c]).run Ao w.drew=.ok (.slice (some ⟨g,0,none⟩) (n-1) cap) (w.drew.setRow g c1.toArray):=λad ty c had=>by have:=run_append_room (P:=Ao) w.drew 34 ty 70 Y E.file.under L g i cap d.toArray hg.drew ad (n-(i+1)) c b (by rw[M];exact y) (λj u hu=>by(have h0:0<n-(i+1):=zef);rw[had h0,Addr.add_lit];exact(by simpa using a j u hu:w.drew.cell? ⟨g,i*3+3+j,none⟩=some u)|>λh=>by rw[show(i+1)*3+j=i*3+3+j by omega];exact h) r om zhD;exact zd3
 have H:ag (w.drew.setRow g c1.toArray) g 70 c1.toArray:=hg.drew.of_setRow _;obtain⟨D,A⟩:=zq (w.drew.setRow g c1.toArray);have m:w.grownBy D (some g):=zdH
 rw[<-A]at o H;have Kd:∀ty c,(Builtin.clear_ #[34] ty #[.slice (some ⟨g,(n-1)*3,none⟩) 1 c]).run Ao D=.ok (.tuple #[]) (D.setRow g (Go.splice c1 (n*3-3) [.string (bs []),.string (bs []),.string (bs [])]).toArray):=λty c=>by have:=oG (P:=Ao) D 34 70 ty _ E.file.under DZ g ((n-1)*3) c c1.toArray 70 H (by(have:(Value.agg #[.string (bs []),.string (bs []),.string (bs [])]).cells.size=3:=E.file.zcells);rw[this,List.size_toArray,p];omega) zgU;rw[this,show(n-1)*3=n*3-3 by omega];rfl
 have HB:ab (ag (D.setRow g (Go.splice c1 (n*3-3) [.string (bs []),.string (bs []),.string (bs [])]).toArray) g 70 (Go.splice (Go.splice d (i*3) b) (n*3-3) [.string (bs []),.string (bs []),.string (bs [])]).toArray):=aa ziD;have Ku:ab (w.grownBy (D.setRow g (Go.splice c1 (n*3-3) [.string (bs []),.string (bs []),.string (bs [])]).toArray) (some g)):=aa ⟨m.os,m.tape,m.output,by simpa[World.setRow]using m.size,λk hk hne=>by rw[setRow_other _ g k _ (λe=>hne (by rw[e]))];exact m.block k hk hne⟩;have W:¬((i:Int)=(i:Int)+1):=om;have Mk:((i:Int)+1).toNat=i+1:=om
 have Ka:(0:Int)<=(i:Int)+1:=om;have Ks:(i:Int)+1<=(n:Int):=om;have Lb:¬(cap=i):=om;have Q:¬(cap=n-1):=om;have Kv:(i:Int)<=(n:Int):=om;have Kq:(i:Int)<=(cap:Int):=om;have Nn:(n:Int)<=(cap:Int):=om;have Lt:n-(n-1)=1:=om;have s:(i:Int)<=(i:Int)+1:=om;clear f p H h1 hg hs I A O M T L m l y r a;by_cases My:cap=i+1;. subst My;(go_enter Tryz.func203,Tryz.ntmps203);(go_wp2_with fail);(go_region_law (refine jm (v:=.slice (some ⟨g,0,none⟩) i (i+1)) (u:=.slice (some ⟨g,0,none⟩) (n-(i+1)) 0) rfl (.tmp 22) (.tmp 25) 34 34 rfl ?hd ?hx (o ⟨g,0,none⟩ _ _ ?had) ?_;(case hd=>simp[Act.eval,Act.put]);(case hx=>simp[Act.eval,Act.put];try omega);(case had=>intro h;omega)));exact zbs
 . (go_enter Tryz.func203,Tryz.ntmps203);(go_wp2_with fail);(go_region_law (refine jm (v:=.slice (some ⟨g,0,none⟩) i cap) (u:=.slice (some ⟨g,(i+1)*3,none⟩) (n-(i+1)) (cap-(i+1))) rfl (.tmp 22) (.tmp 25) 34 34 rfl ?hd ?hx (o ⟨g,(i+1)*3,none⟩ _ _ ?had) ?_;(case hd=>simp[Act.eval,Act.put]);(case hx=>simp[Act.eval,Act.put];try omega);(case had=>intro h;rfl)));exact zbs
theorem tH (A:Yy) (n cap i B:Nat) (fs:List Fl) (w:World) (N:w.ownsRow B 70 3 (.slice A n cap) n (fs.flatMap ap)) (hi:i<n) (hn:n<=1099511627776):Calls Ao 203 #[.slice A n cap,.int .i64 (i:Int),.int .i64 ((i:Int)+1)] w λe w'=>e=.returned (.slice A (n-1) cap)/\w'.ownsRow B 70 3 (.slice A (n-1) cap) (n-1) ((fs.eraseIdx i).flatMap ap)/\w.grownBy w' (Value.ownBlock (.slice A n cap)):=by
 have hl:(fs.flatMap ap).length=n*3:=N.1
 have T:fs.length=n:=zh9
 rcases N.2 with⟨_,h0⟩|⟨g,D,d,b,h,hg,Lg,Kq,I,ht⟩
 . omega
 . injection b with hA _ hc;subst hA hc;(have hg':ag w g 70 d.toList.toArray:=zfs);(have Kd:d.toList.length=cap*3:=zhG);(have h1:∀v∈d.toList.take (n*3),v.oneCell'=true:=by rw[ht];exact qn);(refine(ED g cap n i d.toList w hi Lg Kq hn hg' Kd h1).mono ?_);rintro e w' ⟨rfl,hb,F⟩;(have hd:((fs.flatMap ap).drop (i*3+3)).length=n*3-(i*3+3):=zfj);refine⟨rfl,⟨?_,.inr ⟨g,cap,_,rfl,h,hb,om,Kq,?_,?_⟩⟩,F⟩;(. rw[cW ap 3 (λ_=>rfl),List.length_eraseIdx_of_lt om];omega);(. rw[ht,List.size_toArray];have h4:=Go.length_splice d.toList (i*3) ((fs.flatMap ap).drop (i*3+3)) zgO;exact zb7);. rw[ht,List.toList_toArray,show(n-1)*3=n*3-3 by omega,xl d.toList _ (i*3) (n*3) 3 ht hl om zhk _ rfl,Fr]
theorem x9 (n b0 b1 b2 b3:Nat) (h:1<=n) (hb:128<=b0):(Lib.decodeN n b0 b1 b2 b3).2<=n/\((Lib.decodeN n b0 b1 b2 b3).2<=4)/\(2<=(Lib.decodeN n b0 b1 b2 b3).2->128<=b1)/\(3<=(Lib.decodeN n b0 b1 b2 b3).2->128<=b2)/\(4<=(Lib.decodeN n b0 b1 b2 b3).2->128<=b3):=by
 unfold Lib.decodeN;repeat' split
 all_goals(refine⟨?_,?_,?_,?_,?_⟩<;>simp only<;>omega)
theorem AY (l:Y0) (pos:Nat) (h:pos<l.length) (hb:128<=l[pos].toNat):pos+(Utf8.decode (bs l) pos).2<=l.length/\∀j (hj:pos+j<l.length),j<(Utf8.decode (bs l) pos).2->128<=l[pos+j].toNat:=by
 have i:∀j (hj:j<l.length),((bs l).get! j).toNat=l[j].toNat:=by intro j hj;have:=get_at (bs l) j zhU;rw[Nat.add_zero]at this;rw[this,jz l j zhU]
 rw[Lib.decode_at,co];have h0:=i pos h;obtain⟨a1,a2,a3,a4,a5⟩:=x9 (l.length-pos) ((bs l).get! pos).toNat ((bs l).get! (pos+1)).toNat ((bs l).get! (pos+2)).toNat ((bs l).get! (pos+3)).toNat om (by rw[h0];exact hb)
 refine⟨om,λj hj hjk=>?_⟩;match j,hj,hjk with|0,hj,_=>exact hb|1,hj,hjk=>rw[<-i _ hj];exact a3 om|2,hj,hjk=>rw[<-i _ hj];exact a4 om|3,hj,hjk=>rw[<-i _ hj];exact a5 om|j+4,hj,hjk=>omega
theorem Ex (l:Y0) (p:Nat->Bool) (pos K:Nat) (h:pos<l.length) (hK:1<=K) (Ng:∀j (hj:pos+j<l.length),0<j->j<K->p l[pos+j].toNat=false) (hA:(l.take pos).any (λc=>p c.toNat)=false):(l.take (pos+K)).any (λc=>p c.toNat)=p l[pos].toNat:=by
 have e1:l.take (pos+K)=l.take pos++(l[pos]::(l.drop (pos+1)).take (K-1)):=by rw[List.take_add,List.drop_eq_getElem_cons h];obtain⟨k,rfl⟩:∃k,K=k+1:=⟨K-1,om⟩;rfl
 have e2:((l.drop (pos+1)).take (K-1)).any (λc=>p c.toNat)=false:=by rw[List.any_eq_false];intro x hx;obtain⟨i,hi,rfl⟩:=List.getElem_of_mem hx;rw[List.length_take,List.length_drop]at hi;rw[List.getElem_take,List.getElem_drop];have:=Ng (i+1) om om om;have e:pos+1+i=pos+(i+1):=om;simp only[e];rw[this];simp
 rw[e1,List.any_append,hA,List.any_cons,e2];simp
theorem th (g:Nat) (p:Nat->Bool) (V:pL g p) (a:∀R,128<=R->p R=false) (eg:∀args w,(callFunc g args).run Ao w=.ok (.enter g args) w) (s:Y0) (w:World) (hs:s.length<=4611686018427387904):Calls Ao 198 #[s,.func (.func g) #[] #[],true] w λe w'=>(∃k:Int,e=.returned k/\Ah (s.any λc=>p c.toNat) k)/\Gr w w':=by
 go_enter Tryz.func198,Tryz.ntmps198
 go_wp2
 go_loopw [7,8] (λ_ _ wx=>∃pos:Nat,wx.heap[w.heap.size]?=some (.stringIter (bs s) pos)/\Gr w wx/\ab ((s.take pos).any (λc=>p c.toNat)=false)/\pos<=s.length) (λ_ _ wx=>s.length+1-wx.iterPos w.heap.size)
 case atStart=>exact⟨0,World.iter_heap w (bs s) 0,(Below.refl _ w).alloc (Dg _) _,aa rfl,Nat.zero_le _⟩
 case round=>obtain⟨pos,hit,hg,HA,z⟩:=hrel;by_cases f:pos<s.length;(. (have hsz:pos<(bs s).size:=by rw[co];exact f);(have o:∀ty,(Instr.next (w.heap.size,0) true ty).run Ao wr=_:=λty=>Lib.run_next_any_at wr w.heap.size (bs s) pos ty hit hsz);obtain⟨c,hc⟩:=zq (s[pos]);(have B:(bs s)[pos]'hsz=c:=(jz s pos hsz).trans hc.symm);(have hP:p (Utf8.decode (bs s) pos).1=p c.toNat/\1<=(Utf8.decode (bs s) pos).2/\pos+(Utf8.decode (bs s) pos).2<=s.length/\∀j (hj:pos+j<s.length),0<j->j<(Utf8.decode (bs s) pos).2->p s[pos+j].toNat=false:=by by_cases r:c.toNat<128;(. have:=decode_ascii (bs s) pos hsz (by rw[B];exact r);rw[this,B];exact⟨rfl,Dg _,f,λj hj h0 h1=>by simp only at h1;omega⟩);. have h1:=decode_high (bs s) pos hsz (by rw[B];omega);obtain⟨h2,h3⟩:=AY s pos f (by rw[hc]at r;omega);rw[a _ h1.1,a c.toNat om];exact⟨rfl,h1.2,h2,λj hj _ hk=>a _ (h3 j hj hk)⟩);have d:=decode_le (bs s) pos;(obtain⟨R,hR⟩:∃R,(Utf8.decode (bs s) pos).1=R:=⟨_,rfl⟩);(obtain⟨K,hK⟩:∃K,(Utf8.decode (bs s) pos).2=K:=⟨_,rfl⟩);rw[hR,hK]at o;rw[hR,hK]at hP;rw[hR]at d;obtain⟨x,u,A,C⟩:=hP;have i:=Lib.iterAt_heap wr w.heap.size (bs s) pos (pos+K) hit;have y:Gr w (wr.iterAt w.heap.size (bs s) (pos+K)):=Lib.below_iterAt hg (Dg _) (bs s) (pos+K);obtain⟨W,hW⟩:∃W,wr.iterAt w.heap.size (bs s) (pos+K)=W:=⟨_,rfl⟩;rw[hW]at o i y;have q:=V R W d;(have l:wr.iterPos w.heap.size=pos:=by unfold World.iterPos;rw[hit]);have m:ab ((s.take (pos+K)).any (λc=>p c.toNat)=p R):=aa ((Ex s p pos K f u C HA.o).trans ((congrArg (λc:UInt8=>p c.toNat) hc.symm).trans x.symm));have b:ab (p R=true->s.any (λc=>p c.toNat)=true):=aa (λh=>by rw[<-List.take_append_drop (pos+K) s,List.any_append,m.o,h];rfl);have Le:=aa u;have Ko:=aa A;have n:=aa i;have Mn:=aa l;have t:=aa q;clear B hc hR hK x u A C d hW i V a hit l q;cases hb:p R;(. rw[hb]at t m;clear b hb;(go_wp2_with(refine Bo t.o ?_;rintro e W' ⟨rfl,I⟩));(go_roundw);(case rel=>refine⟨pos+K,?_,y.trans I,m,Ko.o⟩;exact zdL);case measure=>(have h1:W'.iterPos w.heap.size=pos+K:=by unfold World.iterPos;exact zdL);have h2:=Mn.o;have h3:=Le.o;have h4:=Ko.o;omega);. rw[hb]at t;have HT:=aa (b.o hb);clear b hb;exact zcP);. exact zaH
theorem pP (g:Nat) (p:Nat->Bool) (V:pL g p) (a:∀R,128<=R->p R=false) (eg:∀args w,(callFunc g args).run Ao w=.ok (.enter g args) w) (s:Y0) (w:World) (hs:s.length<=4611686018427387904):Calls Ao 123 #[s,.func (.func g) #[] #[]] w λe w'=>e=.returned (.bool (s.any λc=>p c.toNat))/\Gr w w':=by
 have HI:ab (∀w,Calls Ao 165 #[s,.func (.func g) #[] #[]] w λe w'=>(∃k:Int,e=.returned k/\Ah (s.any λc=>p c.toNat) k)/\Gr w w'):=aa (by intro w;have O:=aa (λw=>th g p V a eg s w hs);clear V a eg;(go_enter Tryz.func165,Tryz.ntmps165);(go_wp2_with(go_at_call 198;refine Bo (O.o _) ?_;rintro e w1 ⟨⟨k,rfl,hk⟩,I⟩));go_ret;exact⟨⟨k,rfl,hk⟩,I⟩);exact zaF
end Go.Proofs.YtdpombnelangjaaGreatDoor
