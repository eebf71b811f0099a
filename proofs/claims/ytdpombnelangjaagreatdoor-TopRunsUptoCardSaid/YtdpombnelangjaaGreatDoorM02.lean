/- Lemmas for TopRuns; each states its conditions. -/
import Derived.Test.YtdpombnelangjaaGreatDoorM01
import Derived.Test.YtdpombnelangjaaGreatDoorRows
import Derived.Lib.AppendStr
import Derived.Laws.CopyOwn
import Derived.Laws.CopyRow
import Derived.Laws.RangeAny
import Derived.Lib.OthersKept
import Derived.ArgAppend
import Derived.Deep.Upon
import Derived.Lib.ConvBytes
import Derived.Lib.AtoiErrMem
import Derived.Lib.Bytealg
import Derived.StillTailTactics
namespace Go.Proofs.YtdpombnelangjaaGreatDoor
open Go.RowKit
set_option maxRecDepth 100000
set_option maxHeartbeats 64000000
set_option linter.unusedVariables false
open Go.Proofs.Tryz renaming prog → Ao
open Calls renaming mono → Bo
open Nat renaming le_refl → Dg
def eB (n:Nat):Y0:=if h:n<128 then[UInt8.ofNat n]else UInt8.ofNat (n%128+128)::eB (n/128)
termination_by n
decreasing_by omega
theorem ic {n:Nat} (h:n<128):eB n=[UInt8.ofNat n]:=by rw[eB,dif_pos h]
theorem qK {n:Nat} (h:¬n<128):eB n=UInt8.ofNat (n%128+128)::eB (n/128):=by rw[eB,dif_neg h]
theorem tV (n:Nat):1<=(eB n).length:=by
 by_cases h:n<128;. rw[ic h];simp
 . rw[qK h];simp
theorem Bq:∀(k n:Nat),n<128^(k+1)->(eB n).length<=k+1
 |0,n,h=>by rw[ic om];simp
 |k+1,n,h=>by
  by_cases hs:n<128
  . rw[ic hs];simp
  . rw[qK hs]
    have:n/128<128^(k+1):=by
     rw[Nat.div_lt_iff_lt_mul om]
     rw[Nat.pow_succ]at h;exact h
    have:=Bq k _ this
    simp;omega
theorem eE {n:Nat} (h:n<4611686018427387904):(eB n).length<=9:=by
 have e:(128:Nat)^(8+1)=9223372036854775808:=dc0;exact Bq 8 n (by rw[e];omega)
section
structure ab (p:Prop):Prop where
 o:p
theorem aa {p:Prop} (h:p):ab p:=⟨h⟩
def bs (l:Y0):ByteArray:=⟨l.toArray⟩
inductive MK where|n|z|e
abbrev n_:=MK.n
abbrev i0:=MK.z
abbrev s_:=MK.e
section
variable(p i n c:Nat) (A:Option Addr)
instance:CoeDep (Nat×Nat) (p,i) Addr:=⟨⟨p,i,none⟩⟩
instance:CoeDep (Nat×Nat) (p,i) Value:=⟨.pointer (some ⟨p,i,none⟩)⟩
instance:CoeDep (Nat×Nat) (p,i) (Option Value):=⟨some (.pointer (some ⟨p,i,none⟩))⟩
instance:CoeDep (Option Addr×Nat×Nat) (A,n,c) Value:=⟨.slice A n c⟩
instance:CoeDep (Option Addr×Nat×Nat) (A,n,c) (Option Value):=⟨some (.slice A n c)⟩
instance:CoeDep ((Nat×Nat)×Nat×Nat) ((p,i),n,c) Value:=⟨.slice (some ⟨p,i,none⟩) n c⟩
instance:CoeDep ((Nat×Nat)×Nat×Nat) ((p,i),n,c) (Option Value):=⟨some (.slice (some ⟨p,i,none⟩) n c)⟩
instance:CoeDep MK MK.n Value:=⟨.slice none 0 0⟩
instance:CoeDep MK MK.z Value:=⟨.int .i64 0⟩
instance:CoeDep MK MK.e Value:=⟨.string (bs [])⟩
instance:CoeDep MK MK.n (Option Value):=⟨some (.slice none 0 0)⟩
instance:CoeDep MK MK.z (Option Value):=⟨some (.int .i64 0)⟩
instance:CoeDep MK MK.e (Option Value):=⟨some (.string (bs []))⟩
instance:Coe (List UInt8) Value:=⟨λx=>.string (bs x)⟩
instance:Coe Bool Value:=⟨λx=>.bool x⟩
instance:Coe Int Value:=⟨λx=>.int .i64 x⟩
instance:Coe Nat Value:=⟨λx=>.int .i64 (x:Int)⟩
end
theorem Jd (l:Y0):ByteArray.mk l.toArray=bs l:=rfl
theorem BF (b:ByteArray):∃l,b=bs l:=⟨b.data.toList,by cases b;simp[bs]⟩
theorem co (l:Y0):(bs l).size=l.length:=by simp[bs,ByteArray.size]
theorem uR (l:Y0):(bs l).toList=l:=ByteArray.toList_mk l
theorem jM (l:Y0):(bs l).data.toList=l:=by simp[bs]
theorem IQ {a b:Y0} (h:bs a=bs b):a=b:=by have:=congrArg ByteArray.toList h;simpa[uR]using this
theorem nJ (a b:Y0):bs a++bs b=bs (a++b):=ByteArray.mk_append_mk a b
def dm (l:Y0) (i j:Nat):Y0:=(l.drop i).take (j-i)
theorem Bc (l:Y0) (i j:Nat):(bs l).extract i j=bs (dm l i j):=ByteArray.extract_mk l i j
theorem Ev (l:Y0) (j:Nat):dm l 0 j=l.take j:=by simp[dm]
theorem F7 (l:Y0) (i:Nat):dm l i l.length=l.drop i:=by unfold dm;exact List.take_of_length_le (by simp)
theorem je (l:Y0) (i j:Nat) (h:j<=l.length):(dm l i j).length=j-i:=by unfold dm;rw[List.length_take,List.length_drop];omega
theorem jz (l:Y0) (i:Nat) (h:i<(bs l).size):(bs l)[i]=l[i]'(by rw[co]at h;exact h):=by
 simp[bs,ByteArray.getElem_eq_getElem_data]
attribute [go_sem] Jd co uR nJ Bc jz Ev F7
def bj (c:UInt8):Value:=.int .u8 (c.toNat:Int)
structure cC (t e:TypeId) (z:Value) (size bytes:Nat):Prop where
 under:Ao.underlying t=some (.slice e)
 info:(Ao.info? e).map (λi=>(i.zero,i.size,i.bytes))=some (some z,size,bytes)
 zcells:z.cells.size=size
 pos:0<size
def Gr (w w':World):Prop:=Below w.heap.size w w'
theorem Gr.refl (w:World):Gr w w:=Below.refl _ _
theorem Gr.below {w w':World} (h:Gr w w'):Below w.heap.size w w':=h
theorem Gr.size {w w':World} (h:Gr w w'):w.heap.size<=w'.heap.size:=Below.size h
theorem Gr.trans {a b c:World} (h:Gr a b) (k:Gr b c):Gr a c:=Below.trans h (Below.mono k (Below.size h))
theorem Gr.drew {a b:World} (h:Gr a b):Gr a b.drew:=Below.drew h
theorem Gr.drewN {a b:World} (h:Gr a b) (n:Nat):Gr a (b.drewN n):=⟨h.below.os,h.below.tape,h.below.output,h.below.size,h.below.block⟩
theorem Gr.alloc {a b:World} (h:Gr a b) (o:Obj):Gr a (b.alloc o):=Below.alloc h (Below.size h) o
theorem Gr.setCell {a b:World} (h:Gr a b) {p:Addr} (V:a.heap.size<=p.block) (u:Value):Gr a (b.setCell p u):=Below.setCell h V u
theorem Gr.grown {a b c:World} {row:Option Nat} (h:Gr a b) (hg:b.grownBy c row) (hr:∀k,row=some k->a.heap.size<=k):Gr a c:=Below.grown h hg (Below.size h) hr
theorem Gr.cells {W w1:World} (hb:Gr W w1):(∀b o,b<W.heap.size->w1.cell? ⟨b,o,none⟩=W.cell? ⟨b,o,none⟩)/\(∀b o,b<W.heap.size->w1.frozen? ⟨b,o,none⟩=W.frozen? ⟨b,o,none⟩):=
 ⟨λb o h=>Below.cell (p:=⟨b,o,none⟩) hb h,λb o h=>Below.frozen (p:=⟨b,o,none⟩) hb h⟩
theorem cJ {ops:Array Oper} {rest:List Oper} {o:Oper} {a:Act} {Q:Exit->Act->World->Prop} {w0 w:World} {t e:TypeId} {z:Value} {size f:Nat}
 (E:cC t e z size f) (G:o.guard=none) (s x:Operand) (ho:o.op=.call {callee:=.builtin .append,args:=#[s,x],argTypes:=#[t,t]})
 {A:Yy} {n cap:Nat} {xs:List Value} (hs:a.eval s=.slice A n cap) (N:w.ownsRow w0.heap.size e size (A,n,cap) n xs)
 {cs:Array Value} {m c:Nat} (hx:a.eval x=.slice (some (w.heap.size,0)) m c) (hl:cs.size=m*size) (h1:∀u∈cs.toList,u.oneCell'=true) (hm:0<m)
 (i:(n+m)*f<=140737488355328) (q:n+m<=maxLen) (hb:Gr w0 w)
 (h:∀g D w',w'.ownsRow w0.heap.size e size (.slice (some ⟨g,0,none⟩) (n+m) D) (n+m) (xs++cs.toList)->Gr w0 w'→
  wpList Ao ops Q rest (a.put o.dst ((g,0),n+m,D)) w'):
 wpList Ao ops Q (o::rest) a (w.alloc (.cells cs e)):=by
 obtain⟨Y,L,O,M,T⟩:=info_parts E.info
 refine wpList_append_own _ G s x t ho w0.heap.size e Y z size f E.under L O M T E.zcells E.pos _ n xs hs (N.alloc _) (w.heap.size,0) m c cs.toList hx zgn ?_ h1 q i (by have:=hb.size;simp;omega) ?_
 . intro j u hu
   have hc:(w.alloc (.cells cs e)).cell? (w.heap.size,j)=cs[j]?:=World.cell?_alloc_mark w cs e (0,0) j
   have:((w.heap.size,0):Addr).add j=(w.heap.size,j):=ze0
   rw[this,hc]
   simpa using hu
 . intro J w' p hg F
   have Kv:Gr w0 w':=(hb.alloc _).grown hg (λk hk=>(N.lt k hk).1)
   rcases p.2 with⟨hv,h0⟩|⟨g,D,d,hv,_⟩
   . omega
   . subst hv
     exact h g D w' p Kv
theorem lL {ops:Array Oper} {rest:List Oper} {o:Oper} {a:Act} {Q:Exit->Act->World->Prop} {w0 w:World} {t e:TypeId}
 (E:cC t e (.int .u8 0) 1 1) (G:o.guard=none) (s x:Operand) (ho:o.op=.call {callee:=.builtin .append,args:=#[s,x],argTypes:=#[t,t]})
 {A:Yy} {n cap:Nat} {l:Y0} (hs:a.eval s=.slice A n cap) (N:w.ownsRow w0.heap.size e 1 (A,n,cap) n (l.map bj))
 {k:Int} {c:Nat} (hx:a.eval x=.slice (some (w.heap.size,0)) 1 c) (hk:0<=k) (hk':k<256)
 (i:n+1<=140737488355328) (hb:Gr w0 w)
 (h:∀g D w',w'.ownsRow w0.heap.size e 1 (.slice (some ⟨g,0,none⟩) (n+1) D) (n+1) ((l++[UInt8.ofNat k.toNat]).map bj)->Gr w0 w'→
  wpList Ao ops Q rest (a.put o.dst ((g,0),n+1,D)) w'):
 wpList Ao ops Q (o::rest) a (w.alloc (.cells #[.int .u8 k] e)):=by
 refine cJ E G s x ho hs N hx rfl zez om om zc1 hb ?_
 intro g D w' p
 refine h g D w' ?_
 have:bj (UInt8.ofNat k.toNat)=.int .u8 k:=by
  unfold bj
  congr 1
  simp
  omega
 simpa[this]using p
theorem fA (g j:Nat):((g,0):Addr).add j=(g,j):=by unfold Addr.add;split<;>simp_all
theorem gF {src e dst:TypeId} (hs:Ao.underlying src=some (.slice e)) (he:Ao.underlying e=some (.int .u8)) (hd:Ao.underlying dst=some .string) {w:World} {B:Nat} {A:Yy} {n cap:Nat} {l:Y0} (N:w.ownsRow B e 1 (A,n,cap) n (l.map bj)):(convert src dst (A,n,cap)).run Ao w=.ok l w:=by
 have hn:n=l.length:=zhC
 subst hn;rcases N.2 with⟨hv,h0⟩|⟨g,D,d,hv,_⟩
 . have hl:l=[]:=List.eq_nil_of_length_eq_zero h0;subst hl;injection hv with hA hn hc;subst hA hc;exact run_convert_bytes_nil w src e hs he 0 0 dst hd
 . injection hv with hA hn hc;subst hA hc;refine run_convert_bytes_back w src dst e _ _ l hs he hd ?_;intro j hj;refine N.cells (g:=g) rfl j _ ?_;simp[bj,hj]
def ag (w:World) (g:Nat) (t:TypeId) (cs:Array Value):Prop:=w.heap[g]?=some (.cells cs t (0,0))
section
variable{w w':World} {g:Nat} {t:TypeId} {cs:Array Value}
theorem ag.lt (h:ag w g t cs):g<w.heap.size:=by
 rcases Nat.lt_or_ge g w.heap.size with hlt|Q;. exact hlt
 . unfold ag at h;rw[Array.getElem?_eq_none Q]at h;cases h
theorem ag.cell (h:ag w g t cs) (i:Nat):w.cell? (g,i)=cs[i]?:=cell_of_row w g i cs t (0,0) h
theorem ag.frozen (h:ag w g t cs) (i:Nat):w.frozen? (g,i)=false:=by
 unfold ag at h;simp[World.frozen?,h]
theorem ag.new (w:World) (t:TypeId) (cs:Array Value):ag (w.alloc (.cells cs t)) w.heap.size t cs:=heap_alloc_new w _
theorem ag.drew (h:ag w g t cs):ag w.drew g t cs:=h
theorem ag.drewN (h:ag w g t cs) (n:Nat):ag (w.drewN n) g t cs:=h
theorem ag.alloc (h:ag w g t cs) (o:Obj):ag (w.alloc o) g t cs:=(Below.heap_alloc w o g h.lt).trans h
theorem ag.set_ (h:ag w g t cs) (i:Nat) (u:Value):ag (w.setCell (g,i) u) g t (cs.setIfInBounds i u):=by
 unfold ag at h⊢;simp[World.setCell,Array.getElem?_modify,h]
theorem ag.far (h:ag w g t cs) {p:Addr} (V:g≠p.block) (u:Value):ag (w.setCell p u) g t cs:=(Below.heap_setCell w p u g V).trans h
theorem ag.below {B:Nat} (h:ag w g t cs) (hb:Below B w w') (hg:g<B):ag w' g t cs:=(hb.block g hg).trans h
theorem ag.grown {row:Option Nat} (h:ag w g t cs) (hb:w.grownBy w' row) (hg:some g≠row):ag w' g t cs:=(hb.block g h.lt hg).trans h
theorem ag.ne_ {g':Nat} {b:TypeId} {cs':Array Value} (h:ag w g t cs) (h':ag w g' b cs') (hne:t≠b):g≠g':=by
 rintro rfl;unfold ag at h h';rw[h]at h';injection h' with h';injection h' with _ ht;exact hne ht
theorem bD {base:Nat} {e:TypeId} {size n:Nat} {v:Value} {xs:List Value} (h:w.ownsRow base e size v n xs) (hg:ag w g t cs) (hne:e≠t):v.ownBlock≠some g:=by
 rcases h.2 with⟨rfl,_⟩|⟨g',cap,d,rfl,_,hh,_⟩
 . simp[Value.ownBlock]
 . intro he;(have:g'=g:=by simpa[Value.ownBlock]using he);subst this;exact ag.ne_ (t:=e) hh hg hne rfl
end
end
structure ak (w:World) (size:Nat) (A:Yy) (n:Nat) (vs:List Value):Prop where
 len:vs.length=n*size
 at_:0<n->∃b off,A=some ⟨b,off,none⟩/\∀i v,vs[i]?=some v->w.cell? ⟨b,off+i,none⟩=some v
theorem ak.nil (w:World) (size:Nat) (A:Yy):ak w size A 0 []:=⟨by simp,λh=>absurd h om⟩
theorem ak.keep {w w':World} {size n:Nat} {A:Yy} {vs:List Value} (h:ak w size A n vs) (hk:∀b o v,w.cell? ⟨b,o,none⟩=some v->(∃off,A=some ⟨b,off,none⟩)->w'.cell? ⟨b,o,none⟩=some v):ak w' size A n vs:=
 ⟨h.len,λhn=>by
  obtain⟨b,off,e,hc⟩:=h.at_ hn
  exact⟨b,off,e,λi v hv=>hk b _ v (hc i v hv) ⟨off,e⟩⟩⟩
theorem ak.gr {w w':World} {size n:Nat} {A:Yy} {vs:List Value} (h:ak w size A n vs) (g:Gr w w'):ak w' size A n vs:=
 h.keep λb o _ hv _=>(g.below.cell (p:=⟨b,o,none⟩) (World.block_lt_of_cell? w _ hv)).trans hv
theorem ak.only {w w':World} {size n g:Nat} {A:Yy} {vs:List Value} (h:ak w size A n vs) (hg:w.grownBy w' (some g)) (hne:0<n->∀b off,A=some ⟨b,off,none⟩->b≠g):ak w' size A n vs:=
 ⟨h.len,λhn=>by
  obtain⟨b,off,e,hc⟩:=h.at_ hn
  exact⟨b,off,e,λi v hv=>hg.cell (hc i v hv) (λe'=>hne hn b off e (by simpa using e'))⟩⟩
theorem ak.own {w:World} {B e size n cap:Nat} {A:Yy} {vs:List Value} (h:w.ownsRow B e size (A,n,cap) n vs):ak w size A n vs:=by
 refine⟨h.1,λhn=>?_⟩;rcases h.2 with⟨_,h0⟩|⟨g,D,d,hv,_⟩
 . omega
 . injection hv with hA _ _;refine⟨g,0,hA,λi v hi=>?_⟩;have:=h.cells (g:=g) (by rw[hA];rfl) i v hi;exact zcj
theorem ak.lt {w:World} {size n:Nat} {A:Yy} {vs:List Value} (h:ak w size A n vs) (hn:0<n) (hs:0<size):∃b off,A=some ⟨b,off,none⟩/\b<w.heap.size:=by
 obtain⟨b,off,e,hc⟩:=h.at_ hn;have hl:0<vs.length:=by rw[h.len];exact Nat.mul_pos hn hs
 exact⟨b,off,e,World.block_lt_of_cell? w _ (hc 0 vs[0] (List.getElem?_eq_getElem hl))⟩
theorem ak.cell1 {w:World} {n:Nat} {A:Yy} {vs:List Value} (h:ak w 1 A n vs) {i:Nat} (hi:i<n):∃b off,A=some ⟨b,off,none⟩/\∃(h':i<vs.length),w.cell? ⟨b,off+i,none⟩=some vs[i]:=by
 obtain⟨b,off,e,hc⟩:=h.at_ om;have hl:i<vs.length:=by rw[h.len];omega
 exact⟨b,off,e,hl,hc i _ (List.getElem?_eq_getElem hl)⟩
def aC (s:Y0):Value:=.string (bs s)
def ng (n:Int):Value:=.int .i64 n
def aE (w:World) (A:Yy) (n:Nat) (ss:List (Y0)):Prop:=ak w 1 A n (ss.map aC)
theorem aE.len {w:World} {A:Yy} {n:Nat} {ss:List (Y0)} (h:aE w A n ss):ss.length=n:=by have:=ak.len h;simpa using this
theorem aE.gr {w w':World} {A:Yy} {n:Nat} {ss:List (Y0)} (h:aE w A n ss) (g:Gr w w'):aE w' A n ss:=ak.gr h g
theorem aE.only {w w':World} {A:Yy} {n g:Nat} {ss:List (Y0)} (h:aE w A n ss) (hg:w.grownBy w' (some g)) (hne:0<n->∀b off,A=some ⟨b,off,none⟩->b≠g):aE w' A n ss:=ak.only h hg hne
theorem aE.cell {w:World} {A:Yy} {n:Nat} {ss:List (Y0)} (h:aE w A n ss) {i:Nat} (hi:i<ss.length):∃b off,A=some ⟨b,off,none⟩/\w.cell? ⟨b,off+i,none⟩=some (.string (bs ss[i])):=by
 obtain⟨b,off,e,hl,hc⟩:=ak.cell1 h (i:=i) (by have:=h.len;omega);exact⟨b,off,e,by simpa[aC]using hc⟩
theorem cW {α:Type} (f:α->List Value) (k:Nat) (hf:∀x,(f x).length=k) (l:List α):(l.flatMap f).length=l.length*k:=by
 induction l with|nil=>simp|cons x r J=>rw[List.flatMap_cons,List.length_append,J,hf,List.length_cons,Nat.add_mul];omega
theorem qB {α:Type} (f:α->List Value) (k:Nat) (hf:∀x,(f x).length=k) (l:List α):∀(i:Nat) (h:i<l.length) (j:Nat),j<k->(l.flatMap f)[i*k+j]?=(f l[i])[j]?:=by
 induction l with|nil=>intro i h;simp at h|cons x r J=>(intro i h j hj;rw[List.flatMap_cons];cases i with|zero=>rw[Nat.zero_mul,Nat.zero_add,List.getElem?_append_left (by rw[hf];exact hj)];rfl|succ i=>rw[List.getElem?_append_right (by rw[hf,Nat.add_mul];omega),hf];(have e:(i+1)*k+j-k=i*k+j:=by rw[Nat.add_mul];omega);rw[e];exact J i zfc j hj)
theorem ak.fcell {α:Type} {w:World} {k n:Nat} {A:Yy} (f:α->List Value) (hf:∀x,(f x).length=k) (hk:0<k) {l:List α} (h:ak w k A n (l.flatMap f)) {i:Nat} (hi:i<l.length):∃b off,A=some ⟨b,off,none⟩/\b<w.heap.size/\∀j v,(f l[i])[j]?=some v->w.cell? ⟨b,off+i*k+j,none⟩=some v:=by
 have hn:l.length*k=n*k:=zh7
 have p:l.length=n:=Nat.eq_of_mul_eq_mul_right hk hn;obtain⟨b,off,e,hc⟩:=h.at_ om;have hat:∀j v,(f l[i])[j]?=some v->w.cell? ⟨b,off+i*k+j,none⟩=some v:=by intro j v hv;(have hj:j<k:=by rw[<-hf l[i]];exact(List.getElem?_eq_some_iff.1 hv).1);rw[Nat.add_assoc];exact hc _ _ ((qB f k hf l i hi j hj).trans hv)
 have h0:0<(f l[i]).length:=by rw[hf];exact hk
 exact⟨b,off,e,World.block_lt_of_cell? w _ (hat 0 _ (List.getElem?_eq_getElem h0)),hat⟩
theorem ak.flen {α:Type} {w:World} {k n:Nat} {A:Yy} (f:α->List Value) (hf:∀x,(f x).length=k) (hk:0<k) {l:List α} (h:ak w k A n (l.flatMap f)):l.length=n:=by
 have hn:l.length*k=n*k:=zh7
 exact Nat.eq_of_mul_eq_mul_right hk hn
theorem fL {ops:Array Oper} {rest:List Oper} {o:Oper} {a:Act} {Q:Exit->Act->World->Prop} {w:World} {t e:TypeId} {z:Value} {f:Nat}
 (E:cC t e z 1 f) (G:o.guard=none) (s x:Operand) (ho:o.op=.call {callee:=.builtin .append,args:=#[s,x],argTypes:=#[t,t]})
 {B:Nat} {A:Yy} {n cap:Nat} {xs:List Value} (hs:a.eval s=.slice A n cap) (N:w.ownsRow B e 1 (A,n,cap) n xs)
 {u:Value} {c:Nat} (hx:a.eval x=.slice (some (w.heap.size,0)) 1 c) (h1:u.oneCell'=true)
 (i:(n+1)*f<=140737488355328) (q:n+1<=maxLen) (hB:B<=w.heap.size)
 (h:∀g D w',w'.ownsRow B e 1 (.slice (some ⟨g,0,none⟩) (n+1) D) (n+1) (xs++[u])->w.grownBy w' (Value.ownBlock (A,n,cap))→
  wpList Ao ops Q rest (a.put o.dst ((g,0),n+1,D)) w'):
 wpList Ao ops Q (o::rest) a (w.alloc (.cells #[u] e)):=by
 obtain⟨Y,L,O,M,T⟩:=info_parts E.info
 refine wpList_append_own _ G s x t ho B e Y z 1 f E.under L O M T E.zcells E.pos _ n xs hs (N.alloc _) (w.heap.size,0) 1 c [u] hx (by simp) ?_ zhi q i zc4 ?_
 . intro j v hv
   have hc:(w.alloc (.cells #[u] e)).cell? (w.heap.size,j)=(#[u]:Array Value)[j]?:=World.cell?_alloc_mark w #[u] e (0,0) j
   rw[fA,hc]
   simpa using hv
 . intro J w' p hg F
   have hg':w.grownBy w' (Value.ownBlock (A,n,cap)):=
    ⟨hg.os,hg.tape,hg.output,by have:=hg.size;simp at this;omega,λk hk hne=>(hg.block k zc4 hne).trans (Below.heap_alloc w _ k hk)⟩
   rcases p.2 with⟨hv,h0⟩|⟨g,D,d,hv,_⟩
   . omega
   . subst hv
     exact h g D w' p hg'
theorem av {w w':World} {B e size n:Nat} {v:Value} {xs:List Value} (h:w.ownsRow B e size v n xs) (g:Gr w w'):w'.ownsRow B e size v n xs:=
 h.kept (row:=none) ⟨g.below.os,g.below.tape,g.below.output,g.below.size,λk hk _=>g.below.block k hk⟩ (by cases v.ownBlock<;>simp)
theorem aB {w w':World} {B e size n g:Nat} {v:Value} {xs:List Value} {T:TypeId} {cs:Array Value} (h:w.ownsRow B e size v n xs) (hb:ag w g T cs) (hT:e≠T) (hg:w.grownBy w' (some g)):w'.ownsRow B e size v n xs:=
 h.kept hg (.inr (bD h hb hT))
theorem iL {w w':World} {B B' e e' size a n n':Nat} {v J:Value} {xs d:List Value} (h:w.ownsRow B e size v n xs) (h':w.ownsRow B' e' a J n' d) (hT:e≠e') (hg:w.grownBy w' J.ownBlock):w'.ownsRow B e size v n xs:=by
 refine h.kept hg ?_;rcases h'.2 with⟨rfl,_⟩|⟨g',D,b,rfl,_,c,_⟩
 . cases hv:v.ownBlock;(. exact .inl rfl);. right;simp[Value.ownBlock]
 . exact .inr (bD h (show ag w g' e' b from c) hT)
theorem eH {w w':World} {B e size n g:Nat} {v:Value} {xs:List Value} {T:TypeId} {cs:Array Value} (hb:ag w g T cs) (h:w.ownsRow B e size v n xs) (hT:e≠T) (hg:w.grownBy w' v.ownBlock):ag w' g T cs:=
 hb.grown hg (λe'=>bD h hb hT e'.symm)
theorem ag.gr {w w':World} {g:Nat} {T:TypeId} {cs:Array Value} (h:ag w g T cs) (k:Gr w w'):ag w' g T cs:=h.below k.below h.lt
theorem E.u8:cC 105 5 (.int .u8 0) 1 1:=⟨Tryz.underlying105,by kernel_rfl,rfl,om⟩
theorem E.str:cC 48 9 s_ 1 16:=⟨Tryz.underlying48,by kernel_rfl,rfl,om⟩
theorem E.int:cC 71 3 i0 1 8:=⟨Tryz.underlying71,by kernel_rfl,rfl,om⟩
theorem AX (m:Nat):bits BinOp.or .u8 ((m:Int)%256) 128=((m%128+128:Nat):Int):=by
 rcases Nat.lt_or_ge (m%256) 128 with h|h;. rw[u8_or128_right _ om om];omega
 . rw[u8_or _ _ om om om om];(have e:((m:Int)%256).toNat=m%256:=om);rw[e];(have:∀k:Fin 256,128<=k.val->(k.val|||128)=k.val:=zhs);have h2:=this ⟨m%256,om⟩ h;(show(((m%256)|||128:Nat):Int)=_);simp only at h2;rw[h2];omega
theorem Jl (m:Nat):bits BinOp.or .u8 ((m:Int)%256) 128=((m%128+128:Nat):Int):=by
 rw[AX m]
theorem C0 (b:Y0) (n:Int) (w:World) (h0:0<=n) (h1:n<4611686018427387904) (hb:b.length<=1152921504606846976):Calls Ao 108 #[b,n] w λe w'=>e=.returned (.tuple #[.string (bs (b++eB n.toNat)),i0])/\Gr w w':=by
 go_enter Tryz.func108,Tryz.ntmps108
 go_wp2_with fail
 go_loopw [1,6] (λnv lv wr=>∃(m:Nat) (l:Y0) (A:Yy) (cap:Nat),nv=.int .i64 m/\m<4611686018427387904/\ab (eB n.toNat=l++eB m)/\lv=.slice A l.length cap/\wr.ownsRow w.heap.size 5 1 (A,l.length,cap) l.length (l.map bj)/\Gr w wr) (λnv _ _=>(intOf nv).toNat)
 case atStart=>exact⟨n.toNat,[],none,0,by rw[Int.toNat_of_nonneg h0],om,⟨by simp⟩,rfl,World.ownsRow_nil _ _ _ _,Gr.refl _⟩
 case round=>obtain⟨m,l,A,cap,rfl,hm,hl,rfl,N,f⟩:=hrel;(have Og:l.length+1<=9:=by have h9:=eE (n:=n.toNat) om;rw[hl.o]at h9;have:=tV m;simp at h9;omega);by_cases hlt:127<(m:Int);(. have d:=Jl m;(go_wp2_with(at_builtin;refine lL E.u8 rfl (.tmp 15) (.tmp 19) rfl rfl N rfl om om om f ?_;intro g D w1 a c));(go_round);(case rel=>(have e:((m:Int)%128+128).toNat=m%128+128:=om);rw[e]at a;refine⟨m/128,l++[UInt8.ofNat (m%128+128)],some (g,0),D,by go_num,om,?_,by simp,by rw[List.length_append];exact a,c⟩;have:=hl.o;rw[qK (n:=m) om]at this;exact⟨by simpa using this⟩);case measure=>simp[intOf];omega);. have h:(m:Int)%256=m:=om;(go_wp2_with(at_builtin;refine lL E.u8 rfl (.tmp 24) (.tmp 27) rfl rfl N rfl om om om f ?_;intro g D w1 a c;have Km:=gF (src:=105) (dst:=9) Tryz.underlying105 Tryz.underlying5 Tryz.underlying9 a));go_ret2;refine⟨?_,c⟩;rw[hl.o,ic om];simp
theorem Hs (b:Y0) (n:Int) (w:World) (h:n<0\/4611686018427387904<=n):Calls Ao 108 #[b,n] w λe w'=>e=.returned (.tuple #[s_,.int .i64 3])/\w=w':=by
 rcases h with h|h;all_goals(go_enter Tryz.func108,Tryz.ntmps108);(go_wp2);go_ret2;exact⟨rfl,rfl⟩
def aZ (n:Int):Y0:=if 0<=n/\n<4611686018427387904 then eB n.toNat else[]
theorem iD {n:Int} (h0:0<=n) (h1:n<4611686018427387904):aZ n=eB n.toNat:=if_pos ⟨h0,h1⟩
theorem m9 {n:Nat} (h1:n<4611686018427387904):aZ n=eB n:=by rw[iD om om];simp
theorem vG {n:Int} (h:n<0\/4611686018427387904<=n):aZ n=[]:=if_neg om
def txt (l:Y0):Y0:=eB l.length++l
theorem BV (b t:Y0) (w:World) (hb:b.length<=1152921504606846976) (ht:t.length<=4096):Calls Ao 109 #[b,t] w λe w'=>e=.returned (.tuple #[.string (bs (b++txt t)),i0])/\Gr w w':=by
 have hl:=eE (n:=t.length) om;go_enter Tryz.func109,Tryz.ntmps109
 go_wp2_with(go_at_call 108;refine(C0 b _ _ om om hb).mono ?_;rintro e w1 ⟨rfl,I⟩;rw[Int.toNat_natCast])
 go_ret2;exact⟨by simp[txt],I⟩
theorem xS (b t:Y0) (w:World) (ht:4096<t.length):Calls Ao 109 #[b,t] w λe w'=>e=.returned (.tuple #[s_,.int .i64 1])/\w=w':=by
 go_enter Tryz.func109,Tryz.ntmps109
 go_wp2
 go_ret2;exact⟨rfl,rfl⟩
theorem zc (l:Y0):Lib.strCells (bs l)=l.map bj:=by
 unfold Lib.strCells bj;rw[jM]
theorem bg {ops:Array Oper} {rest:List Oper} {o:Oper} {a:Act} {Q:Exit->Act->World->Prop} {w:World} {t u e:TypeId}
 (E:cC t e (.int .u8 0) 1 1) (hu:Ao.underlying u=some .string) (G:o.guard=none) (sl x:Operand) (ho:o.op=.call {callee:=.builtin .append,args:=#[sl,x],argTypes:=#[t,u]})
 {B:Nat} {A:Yy} {cap:Nat} {l s:Y0} (hs:a.eval sl=.slice A l.length cap) (N:w.ownsRow B e 1 (A,l.length,cap) l.length (l.map bj)) (hx:a.eval x=.string (bs s))
 (i:l.length+s.length<=140737488355328) (hB:B<=w.heap.size)
 (h:∀U D w',w'.ownsRow B e 1 (U,(l++s).length,D) (l++s).length ((l++s).map bj)->w.grownBy w' (Value.ownBlock (A,l.length,cap))→
  wpList Ao ops Q rest (a.put o.dst (.slice U (l++s).length D)) w'):
 wpList Ao ops Q (o::rest) a w:=by
 obtain⟨Y,L,O,M,T⟩:=info_parts E.info
 refine Lib.wpList_append_own_string (P:=Ao) w G sl x t u ho B e Y E.under hu L O M T _ l.length _ hs N (bs s) hx (by rw[co];unfold maxLen;omega) (by rw[co];exact i) hB ?_
 intro J w' p hg _
 rw[co,zc,<-List.map_append]at p
 have b:l.length+s.length=(l++s).length:=by simp
 rw[b]at p
 rcases p.2 with⟨hv,h0⟩|⟨g,D,d,hv,_⟩
 . subst hv
   have h1:(l++s).length=0:=h0
   have:=h none 0 w'
   rw[h1]at this p
   exact this p hg
 . subst hv
   exact h (some (g,0)) D w' p hg
abbrev dS:=Y0×Nat
structure bf (w:World) (B g:Nat) (q:Y0×Nat):Prop where
 ex:∃A cap,ag w g 125 #[(A,q.1.length,cap),q.2]/\w.ownsRow B 5 1 (.slice A q.1.length cap) q.1.length (q.1.map bj)
 base:B<=g
 len:q.1.length<=35184372088832
def bY (g:Nat) (w w':World):Prop:=∀k cs t,k≠g->t≠5->ag w k t cs->ag w' k t cs
theorem bf.gr {w w':World} {B g:Nat} {q:Y0×Nat} (h:bf w B g q) (k:Gr w w'):bf w' B g q:=
 ⟨by obtain⟨A,cap,hb,ho⟩:=h.ex;exact⟨A,cap,hb.gr k,av ho k⟩,h.base,h.len⟩
theorem bY.refl (g:Nat) (w:World):bY g w w:=λ_ _ _ _ _ h=>h
theorem bY.trans {g:Nat} {a b c:World} (h:bY g a b) (k:bY g b c):bY g a c:=λi cs t h1 h2 h3=>k i cs t h1 h2 (h i cs t h1 h2 h3)
theorem bY.gr {g:Nat} {a b:World} (h:Gr a b):bY g a b:=λ_ _ _ _ _ h3=>h3.gr h
theorem Aq (w:World) (g:Nat) (u v:Value):w.grownBy ((w.setCell (g,0) u).setCell (g,1) v) (some g):=
 ⟨rfl,rfl,rfl,by simp[World.setCell],λk _ hne=>by
  rw[Below.heap_setCell _ _ _ _ (λe=>hne (by rw[e])),Below.heap_setCell _ _ _ _ (λe=>hne (by rw[e]))]⟩
theorem qA {w w1:World} {B g:Nat} {A U:Yy} {cap D:Nat} {l a:Y0} {e e':Nat} (hg:B<=g) (hb:ag w g 125 #[.slice A l.length cap,.int .i64 (e:Int)]) (ho:w.ownsRow B 5 1 (.slice A l.length cap) l.length (l.map bj)) (b:w1.ownsRow B 5 1 (.slice U a.length D) a.length (a.map bj)) (F:w.grownBy w1 (Value.ownBlock (.slice A l.length cap))) (hB:B<=w.heap.size) (hl:a.length<=35184372088832):bf ((w1.setCell ⟨g,0,none⟩ (.slice U a.length D)).setCell ⟨g,1,none⟩ (.int .i64 (e':Int))) B g (a,e')∧Below B w ((w1.setCell ⟨g,0,none⟩ (.slice U a.length D)).setCell ⟨g,1,none⟩ (.int .i64 (e':Int)))∧bY g w ((w1.setCell ⟨g,0,none⟩ (.slice U a.length D)).setCell ⟨g,1,none⟩ (.int .i64 (e':Int))):=by
 have Ka:=eH hb ho dc0 F;have Kc:=(Ka.set_ 0 (.slice U a.length D)).set_ 1 (.int .i64 (e':Int))
 have Mr:=Aq w1 g (.slice U a.length D) (.int .i64 (e':Int));refine⟨⟨⟨U,D,by simpa using Kc,aB b Ka dc0 Mr⟩,hg,hl⟩,?_,?_⟩;. (have h1:Below B w w1:=(Below.refl B w).grown F hB (λk hk=>(ho.lt k hk).1));exact(h1.setCell (p:=⟨g,0,none⟩) hg _).setCell (p:=⟨g,1,none⟩) hg _
 . exact zbx
def aL (n:Int) (q:dS):dS:=if q.2=0 then(q.1++aZ n,if 0<=n/\n<4611686018427387904 then 0 else 3)else q
def bX (t:Y0) (q:dS):dS:=if q.2=0 then(if t.length<=4096 then(q.1++txt t,0)else(q.1,1))else q
def df (s:Y0) (q:dS):dS:=if q.2=0 then(q.1++s,0)else q
theorem jB (B g:Nat) (q:dS) (n:Int) (w:World) (h:bf w B g q) (Kd:q.1.length<=35184372088000):Calls Ao 63 #[.pointer (some ⟨g,0,none⟩),.int .i64 n] w λe w'=>e=.returned (.tuple #[])/\bf w' B g (aL n q)/\Below B w w'/\bY g w w':=by
 obtain⟨l,Y⟩:=q;obtain⟨A,cap,hb,ho⟩:=h.ex;have hg:=h.base;have hB:B<=w.heap.size:=zik
 simp only at hb ho Kd;have U:w.cell? ⟨g,0,none⟩=some (.slice A l.length cap):=hb.cell 0;have f:w.cell? ⟨g,1,none⟩=some (.int .i64 (Y:Int)):=hb.cell 1;by_cases he:Y=0;. subst he;by_cases hn:0<=n/\n<4611686018427387904;(. (have hN:=iD hn.1 hn.2);have h9:=eE (n:=n.toNat) om;have HN:=aa hN;clear hN;(go_enter Tryz.func63,Tryz.ntmps63);(go_wp2_with(first|(go_at_call 108;refine(C0 [] _ _ om om (by simp)).mono ?_;rintro e w1 ⟨rfl,I⟩;rw[List.nil_append];have Ka:=hb.gr I;have c0:w1.cell? ⟨g,0,none⟩=some (.slice A l.length cap):=Ka.cell 0;have b:=av ho I;have C:B<=w1.heap.size:=zhZ)|(at_builtin;refine bg E.u8 Tryz.underlying9 rfl (.tmp 25) (.tmp 26) rfl rfl b rfl zeU C ?_;intro A2 r w2 v y;have Kc:=eH Ka b dc0 y;have d0:w2.cell? ⟨g,0,none⟩=some (.slice A l.length cap):=Kc.cell 0;have d1:w2.cell? ⟨g,1,none⟩=some (.int .i64 ((0:Nat):Int)):=Kc.cell 1;have f0:=Kc.frozen 0;have f1:=Kc.frozen 1)));(first|go_end0|refine bodyPost_ret (results_none rfl _ _ _) rfl ?_);obtain⟨r1,r2,r3⟩:=qA (e':=0) hg Ka b v y C zeU;exact⟨rfl,by simpa[aL,hn,HN.o]using r1,(I.below.mono hB).trans (by simpa using r2),(bY.gr I).trans (by simpa using r3)⟩);. have hN:=vG (n:=n) om;have HN:=aa hN;clear hN;(go_enter Tryz.func63,Tryz.ntmps63);(go_wp2_with(first|(go_at_call 108;refine(Hs [] _ _ om).mono ?_;rintro e w1 ⟨rfl,rfl⟩;have Ka:=hb;have b:=ho;have C:=hB)|(at_builtin;refine bg (s:=[]) E.u8 Tryz.underlying9 rfl (.tmp 25) (.tmp 26) rfl rfl b rfl zeU C ?_;intro A2 r w2 v y;rw[List.append_nil]at v;have Kc:=eH Ka b dc0 y;have d0:w2.cell? ⟨g,0,none⟩=some (.slice A l.length cap):=Kc.cell 0;have d1:w2.cell? ⟨g,1,none⟩=some (.int .i64 ((0:Nat):Int)):=Kc.cell 1;have f0:=Kc.frozen 0;have f1:=Kc.frozen 1)));(first|go_end0|refine bodyPost_ret (results_none rfl _ _ _) rfl ?_);obtain⟨r1,r2,r3⟩:=qA (e':=3) hg Ka b v y C zeU;exact⟨rfl,by simpa[aL,hn,HN.o]using r1,by first|exact r2|simpa using r2,by first|exact r3|simpa using r3⟩
 . (have a:((Y:Int)==0)=false:=zeX);(have R:((Y:Int)!=0)=true:=zeX);(go_enter Tryz.func63,Tryz.ntmps63);(go_wp2);(first|go_end0|refine bodyPost_ret (results_none rfl _ _ _) rfl ?_);exact⟨rfl,by simpa[aL,he]using h,Below.refl _ _,bY.refl _ _⟩
theorem Fk {w w1:World} {B g:Nat} {A U:Yy} {cap D:Nat} {l a:Y0} {e:Nat} (hg:B<=g) (hb:ag w g 125 #[.slice A l.length cap,.int .i64 (e:Int)]) (ho:w.ownsRow B 5 1 (.slice A l.length cap) l.length (l.map bj)) (b:w1.ownsRow B 5 1 (.slice U a.length D) a.length (a.map bj)) (F:w.grownBy w1 (Value.ownBlock (.slice A l.length cap))) (hB:B<=w.heap.size) (hl:a.length<=35184372088832):bf (w1.setCell ⟨g,0,none⟩ (.slice U a.length D)) B g (a,e)/\Below B w (w1.setCell ⟨g,0,none⟩ (.slice U a.length D))/\bY g w (w1.setCell ⟨g,0,none⟩ (.slice U a.length D)):=by
 have Ka:=eH hb ho dc0 F;have Kc:=Ka.set_ 0 (.slice U a.length D);have Mr:w1.grownBy (w1.setCell ⟨g,0,none⟩ (.slice U a.length D)) (some g):=⟨rfl,rfl,rfl,by simp[World.setCell],λk _ hne=>Below.heap_setCell _ _ _ _ (λe=>hne (by rw[e]))⟩;refine⟨⟨⟨U,D,by simpa using Kc,aB b Ka dc0 Mr⟩,hg,hl⟩,?_,?_⟩;. (have h1:Below B w w1:=(Below.refl B w).grown F hB (λk hk=>(ho.lt k hk).1));exact h1.setCell (p:=⟨g,0,none⟩) hg _
 . exact zbx
theorem mJ (B g:Nat) (q:dS) (s:Y0) (w:World) (h:bf w B g q) (Kd:q.1.length+s.length<=35184372088832):Calls Ao 65 #[.pointer (some ⟨g,0,none⟩),.string (bs s)] w λe w'=>e=.returned (.tuple #[])/\bf w' B g (df s q)/\Below B w w'/\bY g w w':=by
 obtain⟨l,Y⟩:=q;obtain⟨A,cap,hb,ho⟩:=h.ex;have hg:=h.base;have hB:B<=w.heap.size:=zik
 simp only at hb ho Kd;have U:w.cell? ⟨g,0,none⟩=some (.slice A l.length cap):=hb.cell 0;have f:w.cell? ⟨g,1,none⟩=some (.int .i64 (Y:Int)):=hb.cell 1;by_cases he:Y=0;. subst he;have Ka:=hb;(go_enter Tryz.func65,Tryz.ntmps65);(go_wp2_with(at_builtin;refine bg E.u8 Tryz.underlying9 rfl (.tmp 17) (.tmp 18) rfl rfl ho rfl om hB ?_;intro A2 r w2 v y;have Kc:=eH Ka ho dc0 y;have d0:w2.cell? ⟨g,0,none⟩=some (.slice A l.length cap):=Kc.cell 0;have f0:=Kc.frozen 0));(first|go_end0|refine bodyPost_ret (results_none rfl _ _ _) rfl ?_);obtain⟨r1,r2,r3⟩:=Fk (e:=0) hg Ka ho v y hB zc4;exact⟨rfl,by simpa[df]using r1,by simpa using r2,by simpa using r3⟩
 . (have a:((Y:Int)==0)=false:=zeX);(have R:((Y:Int)!=0)=true:=zeX);(go_enter Tryz.func65,Tryz.ntmps65);(go_wp2);(first|go_end0|refine bodyPost_ret (results_none rfl _ _ _) rfl ?_);exact⟨rfl,by simpa[df,he]using h,Below.refl _ _,bY.refl _ _⟩
theorem mO (B g:Nat) (q:dS) (w:World) (h:bf w B g q):Calls Ao 66 #[.pointer (some ⟨g,0,none⟩)] w λe w'=>e=.returned (.tuple #[.string (bs (if q.2=0 then q.1 else[])),.int .i64 (q.2:Int)])/\Gr w w':=by
 obtain⟨l,Y⟩:=q;obtain⟨A,cap,hb,ho⟩:=h.ex;simp only at hb ho;have U:w.cell? ⟨g,0,none⟩=some (.slice A l.length cap):=hb.cell 0;have f:w.cell? ⟨g,1,none⟩=some (.int .i64 (Y:Int)):=hb.cell 1;by_cases he:Y=0;. subst he;have Km:=gF (src:=105) (dst:=9) Tryz.underlying105 Tryz.underlying5 Tryz.underlying9 ho;(go_enter Tryz.func66,Tryz.ntmps66);(go_wp2);go_ret2;exact⟨rfl,Gr.refl _⟩
 . (have a:((Y:Int)==0)=false:=zeX);(have R:((Y:Int)!=0)=true:=zeX);(go_enter Tryz.func66,Tryz.ntmps66);(go_wp2);(go_quiet (fail));(go_wp2);go_ret2;exact⟨by simp,(Gr.refl _).drewN _⟩
structure dZ (ty:TypeId) (n:Nat):Prop where
 d:∃d,Ao.underlying ty=some d/\(match d with|.struct _|.array _ _=>true|_=>false)=true
 info:(Ao.info? ty).map (·.size)=some n
theorem iF (w:World) (g:Nat) (cs:Array Value):w.grownBy (w.setRow g cs) (some g):=
 ⟨rfl,rfl,rfl,by simp,λk _ hne=>setRow_other w g k cs (by rintro rfl;exact hne rfl)⟩
theorem cP (w:World) (p:Addr) (v:Value):w.grownBy (w.setCell p v) (some p.block):=
 ⟨rfl,rfl,rfl,by simp,λk _ hne=>Below.heap_setCell w p v k (by rintro rfl;exact hne rfl)⟩
theorem Gr.only {a b c:World} {g:Nat} (h:Gr a b) (hg:b.grownBy c (some g)) (z:a.heap.size<=g):Gr a c:=
 h.grown hg (by rintro k hk;obtain rfl:=Option.some.inj hk;exact z)
theorem ag.only {w w':World} {g k:Nat} {t:TypeId} {cs:Array Value} (h:ag w g t cs) (hg:w.grownBy w' (some k)) (hne:g≠k):ag w' g t cs:=
 h.grown hg (λe=>hne (Option.some.inj e))
theorem ag.of_setRow {w:World} {g:Nat} {t:TypeId} {cs:Array Value} (h:ag w g t cs) (ds:Array Value):ag (w.setRow g ds) g t ds:=setRow_heap w g _ ds t _ h
theorem ag.new1 (w:World) (o:Obj) (t:TypeId) (cs:Array Value):ag ((w.alloc o).alloc (.cells cs t)) (w.heap.size+1) t cs:=by
 have:=ag.new (w.alloc o) t cs;rwa [World.size_alloc]at this
theorem ag.new2 (w:World) (o p:Obj) (t:TypeId) (cs:Array Value):ag (((w.alloc o).alloc p).alloc (.cells cs t)) (w.heap.size+1+1) t cs:=by
 have:=ag.new ((w.alloc o).alloc p) t cs;rwa [World.size_alloc,World.size_alloc]at this
theorem ag.newAt {w:World} {g:Nat} (h:g=w.heap.size) (t:TypeId) (cs:Array Value):ag (w.alloc (.cells cs t)) g t cs:=by subst h;exact ag.new w t cs
theorem az {ops:Array Oper} {rest:List Oper} {o:Oper} {a:Act} {w:World} {Q:Exit->Act->World->Prop} (G:o.guard=none) (ty:TypeId) (x:Operand) (ho:o.op=.load ty x) {g:Nat} (hx:a.eval x=.pointer (some (g,0))) {t:TypeId} {cs:Array Value} (hB:ag w g t cs) (A:dZ ty cs.size) (h:wpList Ao ops Q rest (a.put o.dst (.agg cs)) w):wpList Ao ops Q (o::rest) a w:=by
 obtain⟨d,hu,hd⟩:=A.d;exact wpList_load_row G ty x ho g hx t cs (0,0) d hB hu (by cases d<;>simp_all) A.info h
theorem ah {ops:Array Oper} {rest:List Oper} {o:Oper} {a:Act} {w:World} {Q:Exit->Act->World->Prop} (G:o.guard=none) (ty:TypeId) (x y:Operand) (ho:o.op=.store ty x y)
 {g:Nat} {cs':Array Value} (hx:a.eval x=.pointer (some (g,0))) (hy:a.eval y=.agg cs') {t:TypeId} {cs:Array Value} (hB:ag w g t cs) (A:dZ ty cs'.size)
 (hs:cs.size=cs'.size) (h1:cs'.all (·.oneCell')=true)
 (h:∀w',ag w' g t cs'->w.grownBy w' (some g)->wpList Ao ops Q rest (a.put o.dst undef) w'):wpList Ao ops Q (o::rest) a w:=
 wpList_store_row G ty x y ho g cs' hx hy t cs hB A.info hs h1 (h _ (hB.of_setRow cs') (iF w g cs'))
theorem tR {w:World} {g off:Nat} {ty:TypeId} {xs:Array Value} (A:dZ ty xs.size) (hc:∀j v,xs[j]?=some v->w.cell? ⟨g,off+j,none⟩=some v):(loadVar ty (g,off)).run Ao w=.ok (.agg xs) w:=by
 obtain⟨d,hu,hd⟩:=A.d;have hi:=A.info;have hl:(loadCells (g,off) xs.toList.length).run Ao w=.ok xs.toList.toArray w:=run_loadCells_list (P:=Ao) w (g,off) xs.toList (λj v hv=>by(have a:((g,off):Addr).add j=⟨g,off+j,none⟩:=ze0);rw[a];exact hc j v ziw)
 cases hq:Ao.info? ty with|none=>simp[hq]at hi|some i=>(have hs:i.size=xs.size:=by simpa[hq]using hi);(have b:(isAgg ty).run Ao w=.ok true w:=by unfold isAgg;rw[Sem.run_bind,run_underlying hu w];cases d<;>simp_all);simp only[Array.length_toList,Array.toArray_toList]at hl;simp[loadVar,Sem.run_bind,b,sizeOf,typeInfo,hq,hs,hl]
theorem tN {ops:Array Oper} {rest:List Oper} {o:Oper} {a:Act} {w:World} {Q:Exit->Act->World->Prop} (G:o.guard=none) (ty:TypeId) (x:Operand) (ho:o.op=.load ty x)
 {g off:Nat} (hx:a.eval x=.pointer (some (g,off))) {xs:Array Value} (A:dZ ty xs.size) (hc:∀j v,xs[j]?=some v->w.cell? ⟨g,off+j,none⟩=some v)
 (h:wpList Ao ops Q rest (a.put o.dst (.agg xs)) w):wpList Ao ops Q (o::rest) a w:=
 wpList_plain G λ_ hK=>by
  unfold Oper.wp execOp
  simp only[ho,hx,Instr.loadAt,Instr.sureAddr,Sem.run_bind,Sem.run_pure,Result.andThen_ok,tR A hc]
  exact hK _ _ h
theorem ag.part {w:World} {g:Nat} {t:TypeId} {cs:Array Value} (hB:ag w g t cs) (off:Nat) {xs:Array Value} (V:(cs.toList.drop off).take xs.size=xs.toList):∀j v,xs[j]?=some v->w.cell? ⟨g,off+j,none⟩=some v:=by
 intro j v hv;rw[hB.cell];have h1:xs.toList[j]?=some v:=ziw
 rw[<-V]at h1;have hj:j<xs.size:=(Array.getElem?_eq_some_iff.1 hv).1
 rw[List.getElem?_take,if_pos hj,List.getElem?_drop]at h1;simpa using h1
def xp (cs:Array Value) (off:Nat) (xs:Array Value):Array Value:=(cs.toList.take off++xs.toList++cs.toList.drop (off+xs.size)).toArray
theorem jV {ops:Array Oper} {rest:List Oper} {o:Oper} {a:Act} {w:World} {Q:Exit->Act->World->Prop} (G:o.guard=none) (ty:TypeId) (x y:Operand) (ho:o.op=.store ty x y) {g off:Nat} {xs:Array Value} (hx:a.eval x=.pointer (some (g,off))) (hy:a.eval y=.agg xs) {t:TypeId} {cs:Array Value} (hB:ag w g t cs) (A:dZ ty xs.size) (hs:off+xs.size<=cs.size) (h1:xs.all (·.oneCell')=true) (h:∀w',ag w' g t (xp cs off xs)->w.grownBy w' (some g)->wpList Ao ops Q rest (a.put o.dst undef) w'):wpList Ao ops Q (o::rest) a w:=by
 refine wpList_plain G λ_ hK=>?_;have Kj:(storeVar ty (g,off) (.agg xs)).run Ao w=.ok () (w.setRow g (xp cs off xs)):=by have:=run_storeCells_at (P:=Ao) g off t xs.toList 0 cs w hB (by simpa using hs) (λv hv=>(Array.all_eq_true_iff_forall_mem.1 h1) v ziw);have hi:=A.info;cases hq:Ao.info? ty with|none=>simp[hq]at hi|some i=>(have f:xs.size=i.size:=by simp[hq]at hi;omega);simp only[Nat.add_zero,Array.length_toList]at this;simp[storeVar,sizeOf,typeInfo,hq,Value.cells,f,this,xp]
 unfold Oper.wp execOp;simp only[ho,hx,hy,Instr.storeAt,Instr.sureAddr,Sem.run_bind,Sem.run_pure,Result.andThen_ok,Kj];exact hK _ _ (h _ (hB.of_setRow _) (iF w g _))
theorem ia {w:World} {g:Nat} {t ty:TypeId} {cs:Array Value} (hB:ag w g t cs) (A:dZ ty cs.size):(loadVar ty (g,0)).run Ao w=.ok (.agg cs) w:=by
 obtain⟨d,hu,hd⟩:=A.d;exact run_loadVar_row w g t ty cs (0,0) d hB hu (by cases d<;>simp_all) A.info
theorem aA {fn:Func} {p:Tmp} {ty:TypeId} (h:fn.results=#[.cell p ty]) (tmps:Array Value) {w:World} {g:Nat} {t:TypeId} {cs:Array Value} (V:tmps.getD p undef=.pointer (some (g,0))) (hB:ag w g t cs) (A:dZ ty cs.size):(results fn tmps).run Ao w=.ok (.agg cs) w:=by
 exact za6
theorem ai {fn:Func} {p q:Tmp} {ty:TypeId} (h:fn.results=#[.cell p ty,.tmp q]) (tmps:Array Value) {w:World} {g:Nat} {t:TypeId} {cs:Array Value} (V:tmps.getD p undef=.pointer (some (g,0))) (hB:ag w g t cs) (A:dZ ty cs.size):(results fn tmps).run Ao w=.ok (.tuple #[.agg cs,tmps.getD q undef]) w:=by
 exact za6
theorem iP {fn:Func} {p q r:Tmp} {ty:TypeId} (h:fn.results=#[.cell p ty,.tmp q,.tmp r]) (tmps:Array Value) {w:World} {g:Nat} {t:TypeId} {cs:Array Value} (V:tmps.getD p undef=.pointer (some (g,0))) (hB:ag w g t cs) (A:dZ ty cs.size):(results fn tmps).run Ao w=.ok (.tuple #[.agg cs,tmps.getD q undef,tmps.getD r undef]) w:=by
 exact za6
def pL (g:Nat) (p:Nat->Bool):Prop:=∀(R:Nat) (w:World),R<=2147483647->Calls Ao g #[.int .i32 (R:Int)] w λe w'=>e=.returned (p R)/\Gr w w'
def Ah (found:Bool) (k:Int):Prop:=if found then 0<=k else k=-1
theorem vo (g:Nat) (p:Nat->Bool) (V:pL g p) (a:∀R,128<=R->p R=true) (eg:∀args w,(callFunc g args).run Ao w=.ok (.enter g args) w) (s:Y0) (w:World) (hs:s.length<=4611686018427387904):Calls Ao 198 #[s,.func (.func g) #[] #[],true] w λe w'=>(∃k:Int,e=.returned k/\Ah (s.any λc=>p c.toNat) k)/\Gr w w':=by
 go_enter Tryz.func198,Tryz.ntmps198
 go_wp2
 go_loopw [7,8] (λ_ _ wx=>∃pos:Nat,wx.heap[w.heap.size]?=some (.stringIter (bs s) pos)/\Gr w wx/\ab ((s.take pos).any (λc=>p c.toNat)=false)/\pos<=s.length) (λ_ _ wx=>s.length+1-wx.iterPos w.heap.size)
 case atStart=>exact⟨0,World.iter_heap w (bs s) 0,(Below.refl _ w).alloc (Dg _) _,aa rfl,Nat.zero_le _⟩
 case round=>obtain⟨pos,hit,hg,HA,z⟩:=hrel;by_cases f:pos<s.length;(. (have hsz:pos<(bs s).size:=by rw[co];exact f);(have o:∀ty,(Instr.next (w.heap.size,0) true ty).run Ao wr=_:=λty=>Lib.run_next_any_at wr w.heap.size (bs s) pos ty hit hsz);obtain⟨c,hc⟩:=zq (List.get s ⟨pos,f⟩);(have B:(bs s)[pos]'hsz=c:=(jz s pos hsz).trans hc.symm);(have hP:p (Utf8.decode (bs s) pos).1=p c.toNat/\(p (Utf8.decode (bs s) pos).1=false->(Utf8.decode (bs s) pos).2=1):=by by_cases r:c.toNat<128;(. have:=decode_ascii (bs s) pos hsz (by rw[B];exact r);rw[this,B];exact⟨rfl,λ_=>rfl⟩);. (have:=(decode_high (bs s) pos hsz (by rw[B];omega)).1);rw[a _ this,a c.toNat om];exact⟨rfl,λh=>by cases h⟩);have d:=decode_le (bs s) pos;(obtain⟨R,hR⟩:∃R,(Utf8.decode (bs s) pos).1=R:=⟨_,rfl⟩);(obtain⟨K,hK⟩:∃K,(Utf8.decode (bs s) pos).2=K:=⟨_,rfl⟩);rw[hR,hK]at o;rw[hR,hK]at hP;rw[hR]at d;have i:=Lib.iterAt_heap wr w.heap.size (bs s) pos (pos+K) hit;have y:Gr w (wr.iterAt w.heap.size (bs s) (pos+K)):=Lib.below_iterAt hg (Dg _) (bs s) (pos+K);have j:=hit;obtain⟨W,hW⟩:∃W,wr.iterAt w.heap.size (bs s) (pos+K)=W:=⟨_,rfl⟩;rw[hW]at o i y;have q:=V R W d;(have l:wr.iterPos w.heap.size=pos:=by unfold World.iterPos;rw[hit]);have m:ab ((s.take (pos+1)).any (λc=>p c.toNat)=p R):=aa (by(have h1:(s.take (pos+1))=s.take pos++[c]:=(List.take_succ_eq_append_getElem f).trans (by rw[hc];rfl));rw[h1,List.any_append,HA.o,hP.1];simp);have b:ab (p R=true->s.any (λc=>p c.toNat)=true):=aa (λh=>by rw[<-List.take_append_drop (pos+1) s,List.any_append,m.o,h];rfl);(have HK:=aa hP.2);have u:=aa f;have n:=aa i;have Mn:=aa l;have t:=aa q;clear B hc hR hK hP d hW j i V a hit l q;cases hb:p R;(. rw[hb]at t m;have Le:ab (K=1):=aa (HK.o hb);clear HK b hb;(go_wp2_with(refine Bo t.o ?_;rintro e W' ⟨rfl,I⟩));(go_roundw);(case rel=>refine⟨pos+1,?_,y.trans I,m,u.o⟩;exact zdJ);case measure=>(have h1:W'.iterPos w.heap.size=pos+1:=by unfold World.iterPos;exact zdJ);have h2:=Mn.o;have h3:=u.o;omega);. rw[hb]at t;have HT:=aa (b.o hb);clear HK b hb;exact zcP);. exact zaH
theorem kt (g:Nat) (p:Nat->Bool) (V:pL g p) (a:∀R,128<=R->p R=true) (eg:∀args w,(callFunc g args).run Ao w=.ok (.enter g args) w) (s:Y0) (w:World) (hs:s.length<=4611686018427387904):Calls Ao 123 #[s,.func (.func g) #[] #[]] w λe w'=>e=.returned (.bool (s.any λc=>p c.toNat))/\Gr w w':=by
 have HI:ab (∀w,Calls Ao 165 #[s,.func (.func g) #[] #[]] w λe w'=>(∃k:Int,e=.returned k/\Ah (s.any λc=>p c.toNat) k)/\Gr w w'):=aa (by intro w;have O:=aa (λw=>vo g p V a eg s w hs);clear V a eg;(go_enter Tryz.func165,Tryz.ntmps165);(go_wp2_with(go_at_call 198;refine Bo (O.o _) ?_;rintro e w1 ⟨⟨k,rfl,hk⟩,I⟩));go_ret;exact⟨⟨k,rfl,hk⟩,I⟩);exact zaF
structure ko (w:World) (B g cap:Nat) (l:Y0):Prop where
 base:B<=g
 lt:g<w.heap.size
 le:l.length<=cap
 max:cap<=maxLen
 there:∀j,j<cap->(w.cell? ⟨g,j,none⟩).isSome=true/\w.frozen? ⟨g,j,none⟩=false
 at_:∀j u,(l.map bj)[j]?=some u->w.cell? ⟨g,j,none⟩=some u
theorem ko.gr {w w':World} {B g cap:Nat} {l:Y0} (h:ko w B g cap l) (k:Gr w w'):ko w' B g cap l:=
 ⟨h.base,Nat.lt_of_lt_of_le h.lt k.size,h.le,h.max,λj hj=>by rw[k.cells.1 g j h.lt,k.cells.2 g j h.lt];exact h.there j hj,λj u hu=>by rw[k.cells.1 g j h.lt];exact h.at_ j u hu⟩
theorem ko.of_own {w:World} {B e n:Nat} {v:Value} {l:Y0} (h:w.ownsRow B e 1 v n (l.map bj)) (hn:0<n):∃g cap,v=.slice (some ⟨g,0,none⟩) l.length cap/\ko w B g cap l:=by
 have hl:n=l.length:=by have:=h.1;simp at this;exact this.symm
 rcases h.2 with⟨_,h0⟩|⟨g,cap,d,hv,hB,hh,z,hm,hs,ht⟩
 . omega
 . subst hv;(have hlt:=(h.lt g rfl).2);refine⟨g,cap,by rw[hl],hB,hlt,om,hm,λj hj=>⟨?_,h.frozenAt j⟩,λj u hu=>?_⟩;(. (have:w.cell? ⟨g,j,none⟩=d[j]?:=by simp[World.cell?,hh]);rw[this,Array.getElem?_eq_getElem om];rfl);. (have hj:j<n*1:=zgt);rw[h.cellAt j hj];exact hu
theorem vd {src dst e:TypeId} (hs:Ao.underlying src=some .string) (hd:Ao.underlying dst=some (.slice e)) (he:Ao.underlying e=some (.int .u8)) (w:World) (l:Y0) (hl:l.length<=maxLen):∃w2 cap,(convert src dst l).run Ao w=.ok (.slice (some (w.heap.size,0)) l.length cap) w2/\Gr w w2/\ko w2 w.heap.size w.heap.size cap l:=by
 have h1:=Lib.run_convert_string_bytes (P:=Ao) w src dst e (bs l) hs hd he;rw[co]at h1;have Q:l.length<=grownCap w l.length 0 e:=grownCap_ge w _ _ e;have Mx:=Lib.bytesWorld_at_new w e (bs l);have hsz:(Lib.bytesCells w e (bs l)).size=grownCap w l.length 0 e:=by unfold Lib.bytesCells;(have:(bs l).data.size=l.length:=co l);rw[Array.size_append,Array.size_map,Array.size_replicate,co,this];omega
 refine⟨_,_,h1,Lib.bytesWorld_below w e (bs l),Dg _,by rw[Lib.bytesWorld_size];omega,Q,grownCap_le_maxLen w _ _ e hl,λj hj=>⟨?_,?_⟩,λj u hu=>?_⟩;. (have:(Lib.bytesWorld w e (bs l)).cell? ⟨w.heap.size,j,none⟩=(Lib.bytesCells w e (bs l))[j]?:=by simp[World.cell?,Mx]);rw[this,Array.getElem?_eq_getElem om];rfl
 . simp[World.frozen?,Mx];omega
 . (have hj:j<l.length:=by have:=(List.getElem?_eq_some_iff.1 hu).1;simpa using this);rw[Lib.bytesWorld_cell w e (bs l) j zhU];simp[bj,hj]at hu;subst hu;simp[jM,hj]
theorem rH {src e dst:TypeId} (hs:Ao.underlying src=some (.slice e)) (he:Ao.underlying e=some (.int .u8)) (hd:Ao.underlying dst=some .string) (w:World) (g off cap:Nat) (l:Y0) (hc:∀j u,(l.map bj)[j]?=some u->w.cell? ⟨g,off+j,none⟩=some u):(convert src dst ((g,off),l.length,cap)).run Ao w=.ok l w:=by
 refine run_convert_bytes_back w src dst e _ _ l hs he hd ?_;intro j hj;have a:((g,off):Addr).add j=(g,off+j):=ze0
 rw[a];exact hc j _ (by simp[bj,hj])
theorem pz (g:Nat):∀(vs:List Value) (o:Nat) (w:World),(w.setCells g o vs).tape=w.tape
 |[],_,_=>rfl
 |v::r,o,w=>by
  show((w.setCell (g,o) v).setCells g (o+1) r).tape=w.tape
  rw[pz g r (o+1) _]
  rfl
theorem ou {w w':World} {o:Obj} {row:Option Nat} (h:(w.alloc o).grownBy w' row):w.grownBy w' row:=
 ⟨h.os,h.tape,h.output,by have:=h.size;simp at this;omega,λk hk hne=>(h.block k zc4 hne).trans (Below.heap_alloc w o k hk)⟩
theorem cU {ops:Array Oper} {rest:List Oper} {o:Oper} {a:Act} {Q:Exit->Act->World->Prop} {w0 w:World} {t e:TypeId}
 (E:cC t e (.int .u8 0) 1 1) (G:o.guard=none) (s x:Operand) (ho:o.op=.call {callee:=.builtin .append,args:=#[s,x],argTypes:=#[t,t]})
 {g cap:Nat} {l:Y0} (hs:a.eval s=.slice (some (g,0)) l.length cap) (hB:ko w w0.heap.size g cap l)
 (b:Y0) {cs:Array Value} {m c:Nat} (hx:a.eval x=.slice (some (w.heap.size,0)) m c) (I:cs.toList=b.map bj) (hm:b.length=m)
 (i:l.length+m<=140737488355328) (hb:Gr w0 w)
 (h:∀g' D w',ko w' w0.heap.size g' D (l++b)->w.grownBy w' (some g)->(g'=g\/w.heap.size<=g')->Gr w0 w'->wpList Ao ops Q rest (a.put o.dst (.slice (some ⟨g',0,none⟩) (l++b).length D)) w'):
 wpList Ao ops Q (o::rest) a (w.alloc (.cells cs e)):=by
 obtain⟨Y,L,O,M,T⟩:=info_parts E.info
 have C:ko (w.alloc (.cells cs e)) w0.heap.size g cap l:=hB.gr ((Gr.refl w).alloc _)
 have H:Gr w0 (w.alloc (.cells cs e)):=hb.alloc _
 have y:(b.map bj).length=m:=by simp[hm]
 have f:∀u∈b.map bj,u.oneCell'=true:=by
  exact zb8
 refine wpList_append_arg _ G s x t ho e Y (.int .u8 0) 1 1 E.under L O M T E.zcells om g 0 l.length cap (l.map bj) hs (by simp) (λj u hu=>by rw[Nat.zero_add];exact C.at_ j u hu)
  (w.heap.size,0) m c (b.map bj) hx (by simp[hm]) ?_ f ?_ zc1 om ?_ ?_
 . intro j u hu
   have hc:(w.alloc (.cells cs e)).cell? (w.heap.size,j)=cs[j]?:=World.cell?_alloc_mark w cs e (0,0) j
   rw[fA,hc]
   rw[<-I]at hu
   simpa using hu
 . intro z j hj
   have:=C.there (0+l.length*1+j) om
   exact this
 . intro z
   have Kd:(l++b).length=l.length+m:=by rw[List.length_append,hm]
   rw[<-Kd]
   have r:(w.alloc (.cells cs e)).grownBy ((w.alloc (.cells cs e)).setCells g (0+l.length*1) (b.map bj)) (some g):=by
    refine⟨?_,?_,?_,?_,?_⟩
    . exact World.os_setCells _ _ _ _
    . exact pz g _ _ _
    . exact World.output_setCells _ _ _ _
    . exact(World.keptBut_setCells g (may:=λ_=>True) (b.map bj) (0+l.length*1) (w.alloc (.cells cs e)) (λ_ _=>trivial)).size
    . intro k hk hne
      exact World.heap_setCells_other _ _ _ _ hk (λe'=>hne (by rw[e']))
   refine h g cap _ ⟨hB.base,?_,om,hB.max,?_,?_⟩ (ou r) (.inl rfl) ?_
   . have:=(World.keptBut_setCells g (may:=λ_=>True) (b.map bj) (0+l.length*1) (w.alloc (.cells cs e)) (λ_ _=>trivial)).size
     exact Nat.lt_of_lt_of_le C.lt this
   . intro j hj
     rw[World.frozen?_setCells]
     refine⟨?_,(C.there j hj).2⟩
     by_cases p:j<l.length\/l.length+m<=j
     . rw[World.cell?_setCells_out g _ _ _ (g,j) (λ_ _=>by simp only[y];omega)]
       exact(C.there j hj).1
     . have d:j-l.length<(b.map bj).length:=om
       have:=World.cell?_setCells_in g (b.map bj) (0+l.length*1) (w.alloc (.cells cs e)) (λj hj=>(C.there _ om).1) (j-l.length) d
       rw[show 0+l.length*1+(j-l.length)=j by omega]at this
       rw[this];rfl
   . intro j u hu
     rw[List.map_append]at hu
     by_cases p:j<l.length
     . rw[List.getElem?_append_left (by simpa using p)]at hu
       rw[World.cell?_setCells_out g _ _ _ (g,j) (λ_ _=>by left;simp;omega)]
       exact C.at_ j u hu
     . rw[List.getElem?_append_right (by simpa using p)]at hu
       simp only[List.length_map]at hu
       obtain⟨d,Lf⟩:=List.getElem?_eq_some_iff.1 hu
       have:=World.cell?_setCells_in g (b.map bj) (0+l.length*1) (w.alloc (.cells cs e)) (λj hj=>(C.there _ om).1) (j-l.length) d
       rw[show 0+l.length*1+(j-l.length)=j by omega]at this
       rw[this,Lf]
   . exact H.only r hB.base
 . intro hlt J w' N F
   rw[<-List.map_append]at N
   obtain⟨g',D,hv,hr⟩:=ko.of_own N om
   subst hv
   have Lx:=hr.base
   have Ka:w.heap.size+1=(w.alloc (.cells cs e)).heap.size:=by simp
   have Kc:=H.size
   refine h g' D w' ⟨om,hr.lt,hr.le,hr.max,hr.there,hr.at_⟩ (ou ⟨F.os,F.tape,F.output,F.size,λk hk _=>F.block k hk (by simp)⟩) (.inr om) (H.grown F zeI)
theorem kW {g g' b n:Nat} (h:g'=g\/n<=g') (hne:g≠b) (hlt:b<n):g'≠b:=by rcases h with h|h<;>omega
theorem eV {f:FuncId} {fn:Func} {c:Code} (hf:Ao.funcs[f]?=some fn) (a:(fn.name== "runtime.NumGoroutine")=false) (hb:fn.body=some c):∀args w,(callFunc f args).run Ao w=.ok (.enter f args) w:=by
 exact zbA
def fQ (n:Nat):Bool:=(decide (97<=n)&&decide (n<=122))||(decide (48<=n)&&decide (n<=57))||(n==46)||(n==45)
def em (s:Y0):Bool:=decide (s.length≠0/\s.length<=80)&&s.all λc=>fQ c.toNat
theorem GU (s:Y0):(s.any λc=>!fQ c.toNat)=!(s.all λc=>fQ c.toNat):=by
 exact zbF
theorem Gj:pL 193 (λn=>!fQ n):=by
 intro R w hR;show Calls Ao 193 #[.int .i32 (R:Int)] w λe w'=>e=.returned (.bool (!fQ R))/\Gr w w'
 by_cases h1:97<=R;. by_cases h2:R<=122;(. have O:ab (fQ R=true):=aa (by simp[fQ,h1,h2]);have q1:¬(R:Int)<97:=om;have q2:¬(122:Int)<(R:Int):=om;exact zcz);. have O:ab (fQ R=false):=aa (by simp[fQ];omega);have q1:¬(R:Int)<97:=om;have q2:(122:Int)<(R:Int):=om;have q3:¬(R:Int)<48:=om;have q4:(57:Int)<(R:Int):=om;(have q5:((R:Int)==46)=false:=zc2);(have q6:((R:Int)==45)=false:=zc2);(have q7:((R:Int)!=46)=true:=zc3);(have q8:((R:Int)!=45)=true:=zc3);exact zcz
 . have q1:(R:Int)<97:=om;by_cases h3:48<=R;(. have q3:¬(R:Int)<48:=om;by_cases h4:R<=57;(. have O:ab (fQ R=true):=aa (by simp[fQ,h3,h4]);have q4:¬(57:Int)<(R:Int):=om;exact zcz);. have O:ab (fQ R=false):=aa (by simp[fQ];omega);have q4:(57:Int)<(R:Int):=om;(have q7:((R:Int)!=46)=true:=zc3);(have q8:((R:Int)!=45)=true:=zc3);(have q5:((R:Int)==46)=false:=zc2);(have q6:((R:Int)==45)=false:=zc2);exact zcz);. have q3:(R:Int)<48:=om;by_cases h5:R=46;(. subst h5;have O:ab (fQ 46=true):=aa dc0;exact zcz);. (have q7:((R:Int)!=46)=true:=zc3);(have q5:((R:Int)==46)=false:=zc2);by_cases h6:R=45;(. subst h6;have O:ab (fQ 45=true):=aa dc0;exact zcz);. (have q8:((R:Int)!=45)=true:=zc3);(have q6:((R:Int)==45)=false:=zc2);have O:ab (fQ R=false):=aa (by simp[fQ,h5,h6];omega);clear h5 h6;exact zcz
theorem lF (s:Y0) (w:World) (hs:s.length<=4611686018427387904):Calls Ao 156 #[s] w λe w'=>e=.returned (em s)/\Gr w w':=by
 have HC:=aa (λw=>kt 193 _ Gj (λR h=>by simp[fQ];omega) (eV Tryz.func193 zc0 rfl) s w hs);simp only[GU]at HC;cases s with|nil=>exact zdo|cons c r=>((by_cases h8:(c::r).length<=80);(. have HB:ab (em (c::r)=(c::r).all λc=>fQ c.toNat):=aa (by unfold em;rw[decide_eq_true (by exact⟨by simp,h8⟩),Bool.true_and]);rw[HB.o];have q1:((c::r).length:Int)<=80:=om;obtain⟨l,hl⟩:=zq (c::r);rw[<-hl]at HC HB q1 h8;rw[<-hl];(have q2:(l==[])=false:=by rw[hl];rfl);obtain⟨B,hB⟩:=zq (l.all λc=>fQ c.toNat);rw[<-hB]at HC;rw[<-hB];clear hl hB HB;(go_enter Tryz.func156,Tryz.ntmps156);(go_wp2_with(go_at_call 123;refine Bo (HC.o _) ?_;rintro e w1 ⟨rfl,I⟩));go_ret;exact⟨rfl,I⟩);. have HB:ab (em (c::r)=false):=aa (by unfold em;rw[decide_eq_false (λh=>h8 h.2),Bool.false_and]);rw[HB.o];have q1:¬((c::r).length:Int)<=80:=om;obtain⟨l,hl⟩:=zq (c::r);rw[<-hl]at q1 h8;rw[<-hl];(have q2:(l==[])=false:=by rw[hl];rfl);clear hl HB HC;exact zdo)
abbrev aR:=Op.bytesLess
theorem eY:∀a:Y0,aR a a=false
 |[]=>rfl
 |c::r=>by
  have:=eY r
  show(decide (c<c)||(c==c&&aR r r))=false
  rw[this];simp
theorem oS (a b:UInt8) (x y:Y0):aR (a::x) (b::y)=(decide (a<b)||(a==b&&aR x y)):=rfl
theorem gA:∀a b c:Y0,aR a b=true->aR b c=true->aR a c=true
 |[],[],_,h,_=>by cases h
 |[],_::_,[],_,h=>by cases h
 |[],_::_,_::_,_,_=>rfl
 |_::_,[],_,h,_=>by cases h
 |_::_,_::_,[],_,h=>by cases h
 |a::x,b::y,c::z,h1,h2=>by
  rw[oS,Bool.or_eq_true,Bool.and_eq_true,decide_eq_true_iff,beq_iff_eq]at h1 h2⊢
  rcases h1 with h1|⟨h1,i⟩
  . rcases h2 with h2|⟨h2,_⟩
    . exact .inl (UInt8.lt_trans h1 h2)
    . subst h2;exact .inl h1
  . subst h1
    rcases h2 with h2|⟨h2,f⟩
    . exact .inl h2
    . subst h2;exact .inr ⟨rfl,gA x y z i f⟩
theorem qO:∀a b:Y0,aR a b=false->aR b a=false->a=b
 |[],[],_,_=>rfl
 |[],_::_,h,_=>by cases h
 |_::_,[],_,h=>by cases h
 |a::x,b::y,h1,h2=>by
  rw[oS,Bool.or_eq_false_iff,Bool.and_eq_false_iff,decide_eq_false_iff_not]at h1 h2
  have e:a=b:=by
   have h3:=h1.1
   have h4:=h2.1
   apply UInt8.toNat_inj.1
   rw[UInt8.lt_iff_toNat_lt]at h3 h4
   omega
  subst e
  have h3:aR x y=false:=by rcases h1.2 with h|h;simp at h;exact h
  have h4:aR y x=false:=by rcases h2.2 with h|h;simp at h;exact h
  rw[qO x y h3 h4]
theorem pO:∀a b:Y0,(Lib.compareBytes a b<0↔aR a b=true)/\(Lib.compareBytes a b=0↔a=b)
 |[],[]=>by constructor<;>simp[Lib.compareBytes,aR,Op.bytesLess]
 |[],_::_=>by constructor<;>simp[Lib.compareBytes,aR,Op.bytesLess]
 |_::_,[]=>by constructor<;>simp[Lib.compareBytes,aR,Op.bytesLess]
 |a::x,b::y=>by
  have J:=pO x y
  unfold Lib.compareBytes
  rw[oS,Bool.or_eq_true,Bool.and_eq_true,decide_eq_true_iff,beq_iff_eq]
  by_cases h1:a<b
  . rw[if_pos h1]
    refine⟨by simp[h1],?_⟩
    constructor
    . intro h;omega
    . intro h;injection h with h _;subst h;exact absurd h1 (by rw[UInt8.lt_iff_toNat_lt];omega)
  . rw[if_neg h1]
    by_cases h2:b<a
    . rw[if_pos h2]
      refine⟨⟨λh=>om,λh=>?_⟩,⟨λh=>om,λh=>?_⟩⟩
      . rcases h with h|⟨h,_⟩
        . exact absurd h h1
        . subst h;exact absurd h2 h1
      . injection h with h _;subst h;exact absurd h2 h1
    . rw[if_neg h2]
      have e:a=b:=by
       apply UInt8.toNat_inj.1
       rw[UInt8.lt_iff_toNat_lt]at h1 h2
       omega
      subst e
      refine⟨⟨λh=>.inr ⟨rfl,J.1.1 h⟩,λh=>?_⟩,⟨λh=>by rw[J.2.1 h],λh=>?_⟩⟩
      . rcases h with h|⟨_,h⟩
        . exact absurd h h1
        . exact J.1.2 h
      . injection h with _ h;exact J.2.2 h
abbrev Fl:=Y0×Y0×Y0
def ap (f:Fl):List Value:=[.string (bs f.1),.string (bs f.2.1),.string (bs f.2.2)]
def ea (f:Fl):Bool:=em f.1&&decide (f.2.1.length<=1048576/\f.2.1.length+f.2.2.length<=1048576)
def cE:Y0->List Fl->Bool
 |_,[]=>true
 |last,f::r=>ea f&&aR last f.1&&cE f.1 r
def aQ (fs:List Fl):Bool:=decide (fs.length<=400)&&cE [] fs
theorem ut {s:Y0} (h:em s=true):s≠[]:=by
 intro e;subst e;cases h
theorem qE {s:Y0} (h:s≠[]):aR [] s=true:=by
 exact zcf
theorem jq:∀(fs:List Fl) (u:Y0),cE u fs=true->(∀f∈fs,aR u f.1=true/\ea f=true)/\fs.Pairwise (λf g=>aR f.1 g.1=true)
 |[],_,_=>⟨λf h=>(by cases h),.nil⟩
 |f::r,u,h=>by
  rw[cE,Bool.and_eq_true,Bool.and_eq_true]at h
  obtain⟨⟨h1,h2⟩,h3⟩:=h
  have J:=jq r f.1 h3
  refine⟨λg hg=>?_,.cons (λg hg=>(J.1 g hg).1) J.2⟩
  rcases List.mem_cons.1 hg with rfl|hg
  . exact⟨h2,h1⟩
  . exact⟨gA _ _ _ h2 (J.1 g hg).1,(J.1 g hg).2⟩
def ed (keep:Nat) (f:Fl):Fl:=(f.1,f.2.1++f.2.2.take keep,[])
def eO:Nat->Nat->Y0->Option (Nat×Nat)
 |_,_,[]=>none
 |i,n,c::r=>
  if 9<=i then none
  else if i=8/\63<c.toNat then none
  else if c.toNat<128 then(if 0<i/\c.toNat=0 then none else some (n+c.toNat%128*128^i,i+1))
  else eO (i+1) (n+c.toNat%128*128^i) r
def lo (l:Y0):Option (Nat×Nat):=eO 0 0 l
theorem lJ {α:Type} (l:List α) (i:Nat) (h:i<l.length):l.drop i=l[i]::l.drop (i+1):=List.drop_eq_getElem_cons h
theorem un (i n:Nat) (l:Y0) (h:l.length<=i\/9<=i):eO i n (l.drop i)=none:=by
 by_cases hi:i<l.length;. rw[lJ l i hi,eO,if_pos om]
 . rw[List.drop_eq_nil_of_le om,eO]
theorem C2 (i n:Nat) (l:Y0) (hi:i<l.length) (h8:i=8) (h:63<l[i].toNat):eO i n (l.drop i)=none:=by
 rw[lJ l i hi,eO,if_neg om,if_pos ⟨h8,h⟩]
theorem tc (i n:Nat) (l:Y0) (hi:i<l.length) (h0:0<i) (h:l[i].toNat=0) (h9:i<9):eO i n (l.drop i)=none:=by
 rw[lJ l i hi,eO,if_neg om,if_neg om,if_pos om,if_pos ⟨h0,h⟩]
theorem uK (i n:Nat) (l:Y0) (hi:i<l.length) (h9:i<9) (h8:¬(i=8/\63<l[i].toNat)) (hc:l[i].toNat<128) (h0:¬(0<i/\l[i].toNat=0)):eO i n (l.drop i)=some (n+l[i].toNat%128*128^i,i+1):=by
 rw[lJ l i hi,eO,if_neg om,if_neg h8,if_pos hc,if_neg h0]
theorem sw (i n:Nat) (l:Y0) (hi:i<l.length) (h9:i<9) (h8:¬(i=8/\63<l[i].toNat)) (hc:¬l[i].toNat<128):eO i n (l.drop i)=eO (i+1) (n+l[i].toNat%128*128^i) (l.drop (i+1)):=by
 rw[lJ l i hi,eO,if_neg om,if_neg h8,if_neg hc]
theorem DY (l:Y0):∀(i n m k:Nat),eO i n l=some (m,k)->k<=i+l.length/\i<k/\k<=9:=by
 induction l with|nil=>intro i n m k h;simp[eO]at h|cons c r J=>intro i n m k h;rw[eO]at h;split at h;(. cases h);. split at h;(. cases h);. split at h;(. split at h;(. cases h);. simp only[Option.some.injEq,Prod.mk.injEq]at h;simp;omega);. have:=J _ _ _ _ h;simp;omega
theorem Fv (l:Y0):∀(i n m k:Nat),n<128^i->eO i n l=some (m,k)->m<4611686018427387904:=by
 induction l with|nil=>intro i n m k _ h;simp[eO]at h|cons c r J=>intro i n m k hn h;rw[eO]at h;have hd:c.toNat%128*128^i<=127*128^i:=Nat.mul_le_mul_right _ om;(have hs:128^(i+1)=128*128^i:=by rw[Nat.pow_succ,Nat.mul_comm]);split at h;(. cases h);. rename_i h9;split at h;(. cases h);. rename_i h8;split at h;(. split at h;(. cases h);. simp only[Option.some.injEq,Prod.mk.injEq]at h;by_cases e:i=8;(. subst e;have q:c.toNat%128<=63:=om;have d:c.toNat%128*128^8<=63*128^8:=Nat.mul_le_mul_right _ q;have e8:(128:Nat)^8=72057594037927936:=dc0;rw[e8]at hn d h;omega);. have:128^(i+1)<=128^8:=Nat.pow_le_pow_right om om;have e8:(128:Nat)^8=72057594037927936:=dc0;omega);. exact J _ _ _ _ om h
theorem sD {l:Y0} {m k:Nat} (h:lo l=some (m,k)):k<=l.length/\0<k/\k<=9:=by
 have:=DY l 0 0 m k h;omega
theorem Ip {l:Y0} {m k:Nat} (h:lo l=some (m,k)):m<4611686018427387904:=Fv l 0 0 m k (by simp) h
def aq (x:UInt32):Value:=.int .u32 (x.toNat:Int)
def im (x:UInt32) (n:Nat):UInt32:=UInt32.ofNat (x.toNat/2^n+x.toNat%2^n*2^(32-n))
def zr (x:UInt32) (n:Nat):UInt32:=UInt32.ofNat (x.toNat/2^n)
theorem Ez (x n:Nat) (h1:n<32):x*2^(32-n)%4294967296=x%2^n*2^(32-n):=by
 have e:(4294967296:Nat)=2^n*2^(32-n):=zhj
 rw[e,Nat.mul_mod_mul_right]
theorem uV (x n:Nat) (hx:x<4294967296) (h1:n<32):x/2^n<2^(32-n)/\x/2^n+x%2^n*2^(32-n)<4294967296:=by
 have e:(4294967296:Nat)=2^n*2^(32-n):=zhj
 have V:0<2^n:=Nat.pos_of_ne_zero (by simp);have h2:x/2^n<2^(32-n):=by rw[Nat.div_lt_iff_lt_mul V,Nat.mul_comm,<-e];exact hx
 refine⟨h2,?_⟩;have h3:x%2^n+1<=2^n:=Nat.mod_lt _ V;have h4:=Nat.mul_le_mul_right (2^(32-n)) h3;rw[Nat.add_mul,<-e]at h4;omega
theorem Ai (x:UInt32) (n:Nat) (h1:n<32):(im x n).toNat=x.toNat/2^n+x.toNat%2^n*2^(32-n):=by
 have:=uV x.toNat n x.toNat_lt h1;unfold im;simp;omega
theorem Hi (x:UInt32) (n:Nat) (h1:n<32):x.toNat/2^n|||x.toNat*2^(32-n)%4294967296=(im x n).toNat:=by
 have V:=uV x.toNat n x.toNat_lt h1;rw[Ai x n h1,Ez _ _ h1,Nat.or_comm,Nat.mul_comm (x.toNat%2^n),<-Nat.two_pow_add_eq_or_of_lt V.1];omega
theorem ct {P:Program} {id:Nat} {Q:Exit->Act->World->Prop} {a:Act} {w:World} {l:List Oper} (n:Nat) (hm:P.follows .mixedOrders=true) (hB:Region.lexTailB .any l.toArray n=true)
 (h:∀wd,wd=w.drew->wpStill P l.toArray wd (λa'=>wpList P l.toArray Q (l.drop n) a' wd) (l.take n) a):(Code.region id l.toArray true).wp P Q a w:=
 wp_region_still_tail n hm hB (h _ rfl)
def qo (x y:UInt32):UInt32:=x^^^y
def tT (x y:UInt32):UInt32:=x&&&y
def kE (x y:UInt32):UInt32:=x+y
def Bt (x:UInt32):UInt32:=4294967295^^^x
theorem FV (x:UInt32):Bt x= ~~~x:=by
 unfold Bt;apply UInt32.eq_of_toBitVec_eq;rw[UInt32.toBitVec_xor,UInt32.toBitVec_not];exact BitVec.allOnes_xor
theorem Jb (x y:UInt32):bits .xor .u32 (x.toNat:Int) (y.toNat:Int)=((qo x y).toNat:Int):=by
 rw[u32_xor_nat _ _ x.toNat_lt y.toNat_lt];exact congrArg _ (UInt32.toNat_xor x y).symm
theorem Jj (x y:UInt32):bits .and .u32 (x.toNat:Int) (y.toNat:Int)=((tT x y).toNat:Int):=by
 rw[u32_and_nat _ _ x.toNat_lt y.toNat_lt];exact congrArg _ (UInt32.toNat_and x y).symm
theorem Jm (x:UInt32):bits .xor .u32 IntKind.u32.max (x.toNat:Int)=((Bt x).toNat:Int):=by
 have:=u32_xor_nat 4294967295 x.toNat om x.toNat_lt;refine this.trans ?_;exact congrArg _ (UInt32.toNat_xor 4294967295 x).symm
theorem FF (x y:UInt32):((x.toNat:Int)+(y.toNat:Int))%4294967296=((kE x y).toNat:Int):=by
 unfold kE;rw[UInt32.toNat_add];omega
theorem I5 (x y:UInt32):IntKind.u32.wrap ((x.toNat:Int)+(y.toNat:Int))=((kE x y).toNat:Int):=by
 rw[IntKind.wrap_u32];exact FF x y
theorem uE (x:UInt32) (n:Nat):(zr x n).toNat=x.toNat/2^n:=by
 have h:=x.toNat_lt;have:=Nat.div_le_self x.toNat (2^n);unfold zr;simp;omega
theorem Ie (x:UInt32):(x.toNat:Int)/8=((zr x 3).toNat:Int):=by rw[uE];simp
theorem GB (x:UInt32):(x.toNat:Int)/1024=((zr x 10).toNat:Int):=by rw[uE];simp
attribute [go_sem] Jb Jj Jm FF I5 Ie GB
theorem F8 (c0 c1 c2 c3:UInt8):bits .or .u32 (bits .or .u32 (bits .or .u32 (IntKind.u32.wrap (IntKind.u32.wrap (c0.toNat:Int)*16777216)) (IntKind.u32.wrap (IntKind.u32.wrap (c1.toNat:Int)*65536))) (IntKind.u32.wrap (IntKind.u32.wrap (c2.toNat:Int)*256))) (IntKind.u32.wrap (c3.toNat:Int))=((c0.toNat*16777216+c1.toNat*65536+c2.toNat*256+c3.toNat:Nat):Int):=by
 have h0:=c0.toNat_lt;have h1:=c1.toNat_lt;have h2:=c2.toNat_lt;have h3:=c3.toNat_lt;rw[IntWalk.u32_in (c0.toNat:Int) om,IntWalk.u32_in (c1.toNat:Int) om,IntWalk.u32_in (c2.toNat:Int) om,IntWalk.u32_in (c3.toNat:Int) om];rw[IntWalk.u32_in ((c0.toNat:Int)*16777216) om,IntWalk.u32_in ((c1.toNat:Int)*65536) om,IntWalk.u32_in ((c2.toNat:Int)*256) om];have e0:(c0.toNat:Int)*16777216=((c0.toNat*16777216:Nat):Int):=by simp
 have e1:(c1.toNat:Int)*65536=((c1.toNat*65536:Nat):Int):=by simp
 have e2:(c2.toNat:Int)*256=((c2.toNat*256:Nat):Int):=by simp
 have o1:c0.toNat*16777216|||c1.toNat*65536=c0.toNat*16777216+c1.toNat*65536:=by have:=Nat.two_pow_add_eq_or_of_lt (i:=24) (b:=c1.toNat*65536) om c0.toNat;rw[show(16777216:Nat)=2^24 from rfl,Nat.mul_comm c0.toNat,<-this]
 have o2:c0.toNat*16777216+c1.toNat*65536|||c2.toNat*256=c0.toNat*16777216+c1.toNat*65536+c2.toNat*256:=by have:=Nat.two_pow_add_eq_or_of_lt (i:=16) (b:=c2.toNat*256) om (c0.toNat*256+c1.toNat);have e:c0.toNat*16777216+c1.toNat*65536=2^16*(c0.toNat*256+c1.toNat):=om;rw[e,<-this]
 have o3:c0.toNat*16777216+c1.toNat*65536+c2.toNat*256|||c3.toNat=c0.toNat*16777216+c1.toNat*65536+c2.toNat*256+c3.toNat:=by have:=Nat.two_pow_add_eq_or_of_lt (i:=8) (b:=c3.toNat) om (c0.toNat*65536+c1.toNat*256+c2.toNat);have e:c0.toNat*16777216+c1.toNat*65536+c2.toNat*256=2^8*(c0.toNat*65536+c1.toNat*256+c2.toNat):=om;rw[e,<-this]
 rw[e0,e1,e2,u32_or_nat _ _ om om,o1,u32_or_nat _ _ om om,o2,u32_or_nat _ _ om om,o3]
theorem Fp (c0 c1 c2 c3:UInt8):bits .or .u32 (bits .or .u32 (bits .or .u32 ((c0.toNat:Int)%4294967296*16777216%4294967296) ((c1.toNat:Int)%4294967296*65536%4294967296)) ((c2.toNat:Int)%4294967296*256%4294967296)) ((c3.toNat:Int)%4294967296)=((c0.toNat*16777216+c1.toNat*65536+c2.toNat*256+c3.toNat:Nat):Int):=by
 have h:=F8 c0 c1 c2 c3;simp only[IntKind.wrap_u32]at h;exact h
theorem rL (x:UInt32) (n:Int) (w:World) (h0:0<n) (h1:n<32):Calls Ao 160 #[.int .u32 (x.toNat:Int),.int .u64 n] w λe w'=>e=.returned (.int .u32 ((im x n.toNat).toNat:Int))/\w'=w:=by
 have hr:=Hi x n.toNat om;have Kh:(32-n).toNat=32-n.toNat:=om
 have V:x.toNat/2^n.toNat<4294967296:=Nat.lt_of_le_of_lt (Nat.div_le_self _ _) x.toNat_lt;have u:bits .or .u32 ((x.toNat:Int)/2^n.toNat) ((x.toNat:Int)*2^(32-n).toNat%4294967296)=((im x n.toNat).toNat:Int):=by rw[Kh,<-hr,<-u32_or_nat _ _ V (Nat.mod_lt _ om)];simp
 have HF:=aa u;have hx:=x.toNat_lt;clear hr Kh V u;go_enter Tryz.func160,Tryz.ntmps160
 go_wp2
 go_ret;exact⟨by rw[<-HF.o];rfl,rfl⟩
def Au:List UInt32:=[1116352408,1899447441,3049323471,3921009573,961987163,1508970993,2453635748,2870763221,3624381080,310598401,607225278,1426881987,1925078388,2162078206,2614888103,3248222580,3835390401,4022224774,264347078,604807628,770255983,1249150122,1555081692,1996064986,2554220882,2821834349,2952996808,3210313671,3336571891,3584528711,113926993,338241895,666307205,773529912,1294757372,1396182291,1695183700,1986661051,2177026350,2456956037,2730485921,2820302411,3259730800,3345764771,3516065817,3600352804,4094571909,275423344,430227734,506948616,659060556,883997877,958139571,1322822218,1537002063,1747873779,1955562222,2024104815,2227730452,2361852424,2428436474,2756734187,3204031479,3329325298]
theorem xL:Au.length=64:=dc0
def tj (i:Nat):UInt32:=Au.getD i 0
def j9 (b:Y0) (i:Nat):Nat:=(b.getD i 0).toNat
def oC (b:Y0) (i:Nat):UInt32:=UInt32.ofNat (j9 b i*16777216+j9 b (i+1)*65536+j9 b (i+2)*256+j9 b (i+3))
theorem nR (b:Y0) (i:Nat):j9 b i<256:=(b.getD i 0).toNat_lt
theorem xJ (b:Y0) (i:Nat):(oC b i).toNat=j9 b i*16777216+j9 b (i+1)*65536+j9 b (i+2)*256+j9 b (i+3):=by
 have h0:=nR b i;have h1:=nR b (i+1);have h2:=nR b (i+2);have h3:=nR b (i+3);unfold oC;simp;omega
def Jt (x:UInt32):UInt32:=im x 7^^^im x 18^^^zr x 3
def Jv (x:UInt32):UInt32:=im x 17^^^im x 19^^^zr x 10
def cF (b:Y0) (t:Nat):UInt32:=
 if h:t<16 then oC b (4*t)else cF b (t-16)+Jt (cF b (t-15))+cF b (t-7)+Jv (cF b (t-2))
termination_by t
decreasing_by all_goals omega
theorem CJ {b:Y0} {t:Nat} (h:t<16):cF b t=oC b (4*t):=by rw[cF,dif_pos h]
theorem Cm {b:Y0} {t:Nat} (h:¬t<16):cF b t=cF b (t-16)+Jt (cF b (t-15))+cF b (t-7)+Jv (cF b (t-2)):=by rw[cF,dif_neg h]
structure S8 where
 a:UInt32
 b:UInt32
 c:UInt32
 d:UInt32
 e:UInt32
 f:UInt32
 g:UInt32
 h:UInt32
def JJ (e:UInt32):UInt32:=im e 6^^^im e 11^^^im e 25
def JM (a:UInt32):UInt32:=im a 2^^^im a 13^^^im a 22
def JL (e f g:UInt32):UInt32:=(e&&&f)^^^(~~~e&&&g)
def JO (a b c:UInt32):UInt32:=(a&&&b)^^^(a&&&c)^^^(b&&&c)
def I8 (k w:UInt32) (s:S8):UInt32:=s.h+JJ s.e+JL s.e s.f s.g+k+w
def Jw (s:S8):UInt32:=JM s.a+JO s.a s.b s.c
def round (k w:UInt32) (s:S8):S8:=⟨I8 k w s+Jw s,s.a,s.b,s.c,s.d+I8 k w s,s.e,s.f,s.g⟩
def mV (b:Y0) (s:S8):Nat->S8
 |0=>s
 |t+1=>round (tj t) (cF b t) (mV b s t)
def JG (x y:S8):S8:=⟨x.a+y.a,x.b+y.b,x.c+y.c,x.d+y.d,x.e+y.e,x.f+y.f,x.g+y.g,x.h+y.h⟩
def lV (s:S8) (b:Y0):S8:=JG s (mV b s 64)
def S8.list (s:S8):List UInt32:=[s.a,s.b,s.c,s.d,s.e,s.f,s.g,s.h]
def tW (k w:UInt32) (s:S8):UInt32:=kE (kE (kE (kE s.h (qo (qo (im s.e 6) (im s.e 11)) (im s.e 25))) (qo (tT s.e s.f) (tT (Bt s.e) s.g))) k) w
def uW (s:S8):UInt32:=kE (qo (qo (im s.a 2) (im s.a 13)) (im s.a 22)) (qo (qo (tT s.a s.b) (tT s.a s.c)) (tT s.b s.c))
theorem Jf (k w:UInt32) (s:S8):tW k w s=I8 k w s:=by
 unfold tW;rw[FV];rfl
theorem Jk (s:S8):uW s=Jw s:=rfl
def kI (x y:S8) (i:Nat):Array Value:=((List.range 8).map λm=>aq (if m<i then x.list.getD m 0+y.list.getD m 0 else x.list.getD m 0)).toArray
theorem yS (x y:S8) (i:Nat) (h:i<8):(kI x y i)[i]?=some (.int .u32 ((x.list.getD i 0).toNat:Int)):=by
 unfold kI;simp[h,aq]
theorem wY (x y:S8) (n:Nat):(kI x y n).setIfInBounds n (aq (kE (x.list.getD n 0) (y.list.getD n 0)))=kI x y (n+1):=by
 unfold kI;rw[List.setIfInBounds_toArray];congr 1;apply List.ext_getElem;. simp
 . intro i h1 h2;rw[List.getElem_set];simp at h1 h2;by_cases e:n=i;(. subst e;simp[kE]);. exact zcd
def fP (s:S8) (b:Y0):S8:=if _h:b.length<64 then s else fP (lV s (b.take 64)) (b.drop 64)
termination_by b.length
decreasing_by rw[List.length_drop];omega
theorem vR {s:S8} {b:Y0} (h:b.length<64):fP s b=s:=by rw[fP,dif_pos h]
theorem wZ {s:S8} {b:Y0} (h:¬b.length<64):fP s b=fP (lV s (b.take 64)) (b.drop 64):=by rw[fP,dif_neg h]
def gZ (b:Y0):Y0:=b.drop (b.length/64*64)
theorem Ay (b:Y0):(gZ b).length=b.length%64:=by unfold gZ;rw[List.length_drop];omega
theorem CC {b:Y0} (h:b.length<64):gZ b=b:=by
 unfold gZ;rw[show b.length/64*64=0 by omega,List.drop_zero]
theorem Dw {b:Y0} (h:¬b.length<64):gZ b=gZ (b.drop 64):=by
 unfold gZ;rw[List.drop_drop,List.length_drop];congr 1;omega
def CW (x:UInt32):Y0:=[UInt8.ofNat (x.toNat/16777216),UInt8.ofNat (x.toNat/65536),UInt8.ofNat (x.toNat/256),UInt8.ofNat x.toNat]
def Fy (s:S8):Y0:=s.list.flatMap CW
def FM (n:Nat):Y0:=[UInt8.ofNat (n/72057594037927936),UInt8.ofNat (n/281474976710656),UInt8.ofNat (n/1099511627776),UInt8.ofNat (n/4294967296),UInt8.ofNat (n/16777216),UInt8.ofNat (n/65536),UInt8.ofNat (n/256),UInt8.ofNat n]
theorem zi (n:Nat):(FM n).length=8:=rfl
def jE (n:Nat):Nat:=(119-n%64)%64
def mv (rest:Y0) (many:Nat):Y0:=rest++[128]++List.replicate (jE rest.length) 0++FM (8*many)
theorem Cv (rest:Y0) (f:Nat):(mv rest f).length=rest.length+9+jE rest.length:=by
 unfold mv;rw[List.length_append,List.length_append,List.length_append,List.length_replicate,zi];simp only[List.length_cons,List.length_nil];omega
theorem Da (rest:Y0) (f:Nat):(mv rest f).length%64=0:=by rw[Cv];unfold jE;omega
def ol:S8:=⟨0x6a09e667,0xbb67ae85,0x3c6ef372,0xa54ff53a,0x510e527f,0x9b05688c,0x1f83d9ab,0x5be0cd19⟩
def BL (s:S8) (rest:Y0) (many:Nat):Y0:=Fy (fP s (mv rest many))
def aj (b:Y0):Y0:=BL (fP ol b) (gZ b) b.length
theorem br (b:Y0):(aj b).length=32:=rfl
def mB (key:Y0):Y0:=if 64<key.length then aj key else key
theorem Dx (key:Y0):(mB key).length<=64:=by
 unfold mB;split;. rw[br];omega
 . omega
def fZ (x:UInt8) (key:Y0):Y0:=(List.range 64).map λi=>key.getD i 0^^^x
theorem mC (x:UInt8) (key:Y0):(fZ x key).length=64:=by unfold fZ;simp
def dC (key b:Y0):Y0:=aj (fZ 0x5c (mB key)++aj (fZ 0x36 (mB key)++b))
def Ib:Y0:=[48,49,50,51,52,53,54,55,56,57,97,98,99,100,101,102]
def pF (n:Nat):UInt8:=Ib.getD n 0
def km (b:Y0):Y0:=b.flatMap λc=>[pF (c.toNat/16),pF (c.toNat%16)]
theorem ug (b:Y0):(km b).length=2*b.length:=by
 unfold km;induction b with|nil=>rfl|cons c r J=>rw[List.flatMap_cons,List.length_append,J];simp only[List.length_cons,List.length_nil];omega
theorem BN (b:Y0) (c:UInt8):km (b++[c])=km b++[pF (c.toNat/16),pF (c.toNat%16)]:=by
 unfold km;rw[List.flatMap_append];rfl
def jp (c:UInt8):Nat:=if 48<=c.toNat/\c.toNat<=57 then c.toNat-48 else if 97<=c.toNat/\c.toNat<=102 then c.toNat-87 else 16
theorem CT (c:UInt8):jp c<=16:=by unfold jp;split;omega;split<;>omega
def eL:Y0->Option (Y0)
 |[]=>some []
 |[_]=>none
 |a::b::r=>if jp a<16/\jp b<16 then(eL r).map (UInt8.ofNat (jp a*16+jp b)::·)else none
def fg (n:Nat):Bool:=(decide (97<=n)&&decide (n<=122))||(decide (48<=n)&&decide (n<=57))||(n==45)||(n==95)
def iS:Nat->Y0->Bool
 |_,[]=>true
 |p,c::r=>if c=47 then(if p=0 then false else iS 0 r)else if fg c.toNat then iS (p+1) r else false
def fo (s:Y0):Bool:=iS 0 (s++[47])&&decide (s.length<=60)
theorem zW (p:Nat) (c:UInt8) (r:Y0):iS p (c::r)=if c=47 then(if p=0 then false else iS 0 r)else if fg c.toNat then iS (p+1) r else false:=rfl
theorem yh:∀(x:Y0) (p:Nat) (t:Y0),(∀c∈x,c≠47)->iS p (x++47::t)=((decide (p≠0)||!x.isEmpty)&&x.all (λc=>fg c.toNat)&&iS 0 t)
 |[],p,t,_=>by
  show iS p (47::t)=_
  rw[zW,if_pos rfl]
  by_cases h:p=0
  . rw[if_pos h];simp[h]
  . rw[if_neg h];simp[h]
 |c::r,p,t,h=>by
  show iS p (c::(r++47::t))=_
  rw[zW,if_neg (h c (List.mem_cons_self ..))]
  by_cases hc:fg c.toNat=true
  . rw[if_pos hc,yh r (p+1) t (λx hx=>h x (List.mem_cons_of_mem _ hx))]
    simp[hc]
  . rw[if_neg hc]
    simp[hc]
theorem Gn {x t:Y0} (h:∀c∈x,c≠47):iS 0 (x++47::t)=(!x.isEmpty&&x.all (λc=>fg c.toNat)&&iS 0 t):=by
 rw[yh x 0 t h];simp
theorem sH (s:Y0):(s.any λc=>!fg c.toNat)=!(s.all λc=>fg c.toNat):=by
 exact zbF
theorem Iw {x:Y0} (h:x.any (λc=>!fg c.toNat)=true):x.all (λc=>fg c.toNat)=false:=by
 rw[sH]at h;simpa using h
structure aF where
 r:Y0
 o:Y0
 n:Y0
 who:List Int
 seals:List (Y0)
def aP (s:aF) (A:Yy) (c:Nat) (B:Yy) (d:Nat):Array Value:=#[s.r,s.o,s.n,(A,s.who.length,c),(B,s.seals.length,d)]
theorem cY:dZ 73 5:=⟨⟨_,Tryz.underlying73,rfl⟩,by kernel_rfl⟩
def iV (n:Int):Value:=.int .i64 n
def lT (w:World) (A:Yy) (n:Nat) (l:List Int):Prop:=ak w 1 A n (l.map iV)
theorem lT.len {w:World} {A:Yy} {n:Nat} {l:List Int} (h:lT w A n l):l.length=n:=by have:=ak.len h;simpa using this
theorem lT.gr {w w':World} {A:Yy} {n:Nat} {l:List Int} (h:lT w A n l) (g:Gr w w'):lT w' A n l:=ak.gr h g
theorem lT.cell {w:World} {A:Yy} {n:Nat} {l:List Int} (h:lT w A n l) {i:Nat} (hi:i<l.length):∃b off,A=some ⟨b,off,none⟩/\w.cell? ⟨b,off+i,none⟩=some (.int .i64 l[i]):=by
 obtain⟨b,off,e,hl,hc⟩:=ak.cell1 h (i:=i) (by have:=h.len;omega);exact⟨b,off,e,by simpa[iV]using hc⟩
structure mS (w:World) (s:aF) (A:Yy) (c:Nat) (B:Yy) (d:Nat):Prop where
 who:lT w A s.who.length s.who
 seals:aE w B s.seals.length s.seals
 wn:A=none->s.who.length=0/\c=0
 sn:B=none->s.seals.length=0/\d=0
 wc:s.who.length<=c
 sc:s.seals.length<=d
theorem mS.gr {w w':World} {s:aF} {A:Yy} {c:Nat} {B:Yy} {d:Nat} (h:mS w s A c B d) (g:Gr w w'):mS w' s A c B d:=⟨h.who.gr g,h.seals.gr g,h.wn,h.sn,h.wc,h.sc⟩
structure dJ (k:Nat) (s:aF):Prop where
 r:s.r.length<=k
 o:s.o.length<=k
 n:s.n.length<=k
 who:s.who.length<=k
 seals:s.seals.length<=k
 each:∀x∈s.seals,x.length<=k
def ip (l:Y0):Bool:=decide (l.length=0)||decide (l.length=32)
def od:Int->List Int->List (Y0)->Int
 |last,w::ws,s::ss=>if w<=last\/7<w then 3 else if s.length=32 then od w ws ss else 2
 |_,_,_=>0
def CH (s:aF):Bool:=fo s.r&&(ip s.o&&(ip s.n&&!(s.o==s.n)))
def eR (s:aF):Int:=if CH s=true then(if 8<s.who.length\/¬s.seals.length=s.who.length then 6 else od (-1) s.who s.seals)else 2
def jd (s:aF) (i:Nat) (last:Int):Prop:=
 od (-1) s.who s.seals=od last (s.who.drop i) (s.seals.drop i)/\(i=0->last=-1)/\(∀h:0<i/\i<=s.who.length,last=s.who[i-1]'om/\0<=last)
theorem Gt (s:aF):jd s 0 (-1):=⟨rfl,λ_=>rfl,λh=>absurd h.1 om⟩
theorem po (u w:Int) (K:List Int) (x:Y0) (ss:List (Y0)):od u (w::K) (x::ss)=if w<=u\/7<w then 3 else if x.length=32 then od w K ss else 2:=rfl
theorem jd.here {s:aF} {i:Nat} {u:Int} (h:jd s i u) (hi:i<s.who.length) (hs:i<s.seals.length):od (-1) s.who s.seals=if s.who[i]<=u\/7<s.who[i]then 3 else if(s.seals[i]).length=32 then od s.who[i] (s.who.drop (i+1)) (s.seals.drop (i+1))else 2:=by
 rw[h.1,List.drop_eq_getElem_cons hi,List.drop_eq_getElem_cons hs];exact po ..
theorem jd.low {s:aF} {i:Nat} {u:Int} (h:jd s i u) (hi:i<=s.who.length):-1<=u:=by
 exact zbl
theorem jd.next {s:aF} {i:Nat} {u:Int} (h:jd s i u) (hi:i<s.who.length) (hs:i<s.seals.length) (h1:¬(s.who[i]<=u\/7<s.who[i])) (h2:(s.seals[i]).length=32):jd s (i+1) s.who[i]:=by
 have hl:=h.low om;refine⟨?_,λe=>absurd e om,λ_=>⟨rfl,om⟩⟩;rw[h.here hi hs,if_neg h1,if_pos h2]
theorem jd.done {s:aF} {i:Nat} {u:Int} (h:jd s i u) (hi:s.who.length<=i):od (-1) s.who s.seals=0:=by
 rw[h.1,List.drop_eq_nil_of_le hi];cases s.seals.drop i<;>rfl
theorem wE:∀(K:List Int) (ss:List (Y0)) (u:Int),K.length=ss.length->od u K ss=0->(∀x∈ss,x.length=32)/\(∀w∈K,u<w/\w<=7)
 |[],[],u,_,_=>⟨by simp,by simp⟩
 |[],x::ss,u,h,_=>by simp at h
 |w::K,[],u,h,_=>by simp at h
 |w::K,x::ss,u,h,h0=>by
  rw[po]at h0
  split at h0
  . cases h0
  . rename_i h1
    split at h0
    . rename_i h2
      obtain⟨a,b⟩:=wE K ss w zfc h0
      refine⟨λy hy=>?_,λy hy=>?_⟩
      . rcases List.mem_cons.1 hy with rfl|hy
        . exact h2
        . exact a y hy
      . rcases List.mem_cons.1 hy with rfl|hy
        . omega
        . have:=b y hy;omega
    . cases h0
theorem gJ {s:aF} (h:eR s=0):fo s.r=true/\s.r.length<=60/\s.o.length<=32/\s.n.length<=32/\s.who.length<=8/\s.seals.length=s.who.length/\(∀x∈s.seals,x.length=32)/\(∀w∈s.who,-1<w/\w<=7)/\od (-1) s.who s.seals=0:=by
 unfold eR at h;split at h;. rename_i hb;split at h;(. cases h);. rename_i h1;have hl:s.seals.length=s.who.length:=om;obtain⟨a,b⟩:=wE s.who s.seals (-1) hl.symm h;unfold CH ip at hb;simp only[Bool.and_eq_true,Bool.or_eq_true,decide_eq_true_eq]at hb;(have hr:s.r.length<=60:=by(have:=hb.1);unfold fo at this;simp only[Bool.and_eq_true,decide_eq_true_eq]at this;exact this.2);exact⟨hb.1,hr,om,om,om,hl,a,b,h⟩
 . cases h
theorem kP (l:Y0):(((l.length:Int)!=0)=false/\ip l=true)\/(((l.length:Int)!=0)=true/\((l.length:Int)!=32)=false/\ip l=true)\/(((l.length:Int)!=0)=true/\((l.length:Int)!=32)=true/\ip l=false):=by
 by_cases h0:l.length=0;. left;refine⟨?_,?_⟩;(. rw[bne_eq_false_iff_eq];omega);. unfold ip;rw[decide_eq_true h0];rfl
 . by_cases h1:l.length=32;(. right;left;refine⟨?_,?_,?_⟩;(. rw[bne_iff_ne];omega);(. rw[bne_eq_false_iff_eq];omega);. unfold ip;rw[decide_eq_true h1];simp);. right;right;refine⟨?_,?_,?_⟩;(. rw[bne_iff_ne];omega);(. rw[bne_iff_ne];omega);. unfold ip;rw[decide_eq_false h0,decide_eq_false h1];rfl
def cL (at_:Int) (s:aF):Y0×Int:=
 if at_<0\/199<at_ then([],3)else if 4096<s.r.length\/4096<s.o.length\/4096<s.n.length then([],1)else(aZ at_++txt s.r++txt s.o++txt s.n,0)
def fK:List Int->List (Y0)->Y0
 |w::ws,s::ss=>aZ w++s++fK ws ss
 |_,_=>[]
def bF (s:aF):Y0×Int:=if eR s=0 then(txt s.r++txt s.o++txt s.n++aZ s.who.length++fK s.who s.seals,0)else([],eR s)
theorem Cw (K:List Int) (ss:List (Y0)):∀(i:Nat) (h:i<K.length) (h':i<ss.length),fK (K.take (i+1)) (ss.take (i+1))=fK (K.take i) (ss.take i)++(aZ K[i]++ss[i]):=by
 induction K generalizing ss with|nil=>intro i h;simp at h|cons w K J=>(intro i h h';cases ss with|nil=>simp at h'|cons x ss=>(cases i with|zero=>simp[fK]|succ i=>simp only[List.take_succ_cons,fK,List.getElem_cons_succ];rw[J ss i zfc (by simpa using h')];simp only[List.append_assoc]))
theorem rT:∀(K:List Int) (ss:List (Y0)) (k:Nat),(∀x∈ss,x.length<=k)->(fK K ss).length<=K.length*(k+9)
 |[],ss,k,_=>by cases ss<;>simp[fK]
 |w::K,[],k,_=>by simp[fK]
 |w::K,x::ss,k,h=>by
  have a:=rT K ss k (λy hy=>h y (List.mem_cons_of_mem _ hy))
  have b:=h x (List.mem_cons_self ..)
  have c:(aZ w).length<=9:=by
   by_cases hw:0<=w/\w<4611686018427387904
   . rw[iD hw.1 hw.2];exact eE om
   . rw[vG om];simp
  simp only[fK,List.length_append,List.length_cons]
  rw[Nat.add_mul,Nat.one_mul]
  omega
theorem gV (l:Y0) (h:l.length<4611686018427387904):(txt l).length<=l.length+9:=by
 unfold txt;have:=eE (n:=l.length) h;rw[List.length_append];omega
theorem ls (s:aF):(bF s).1.length<=1024:=by
 unfold bF;split;. rename_i h;obtain⟨_,h1,h2,h3,h4,h5,h6,_,_⟩:=gJ h;have a:=gV s.r om;have b:=gV s.o om;have c:=gV s.n om;have d:=rT s.who s.seals 32 (λx hx=>by rw[h6 x hx];omega);(have e:(aZ s.who.length).length<=9:=by rw[m9 om];exact eE om);have f:s.who.length*(32+9)<=8*(32+9):=Nat.mul_le_mul_right _ h4;simp only[List.length_append];omega
 . simp
theorem vh (at_:Int) (s:aF):(cL at_ s).1.length<=16384:=by
 unfold cL;split;. simp
 . split;(. simp);. rename_i h0 h1;have a:=gV s.r om;have b:=gV s.o om;have c:=gV s.n om;(have e:(aZ at_).length<=9:=zgY);simp only[List.length_append];omega
theorem yp {P:Program} {o:Oper} {a:Act} {w:World} {K K':Act->World->Prop} {Q Q':Exit->Act->World->Prop} (h:∀a w,K a w->K' a w) (hq:∀e a w,e≠.normal->Q e a w->Q' e a w) (hh:o.wp P a w K Q):o.wp P a w K' Q':=by
 unfold Oper.wp at*;generalize(execOp a.eval o).run P w=r at*
 cases r with|ok n w'=>(cases n<;>simp only[Oper.upon]at hh⊢<;>first|exact h _ _ hh|exact Bo hh (λe w'' he=>by cases e with|returned v=>exact h _ _ he|panicked c=>exact hq _ _ _ ze4 he|outgrown=>exact he.elim (λa h1=>h1.elim (λw h2=>⟨a,w,hq _ _ _ ze4 h2⟩)))|exact Rows.mono hh (λ_ _ he=>h _ _ he)|exact hq _ _ _ ze4 hh)|halt x w'=>(cases x<;>simp only[Oper.upon]at hh⊢<;>first|exact hq _ _ _ ze4 hh|exact hh|exact hh.elim (λa h1=>h1.elim (λw h2=>⟨a,w,hq _ _ _ ze4 h2⟩)))
def vv (md:Region.Mode) (ops:Array Oper):Nat->Nat->Array Bool->Bool
 |0,_,_=>true
 |n+1,k,listed=>decide (Region.ready md ops listed=[k])&&vv md ops n (k+1) (listed.setIfInBounds k true)
def sC:Nat->Nat->Array Bool->Array Bool
 |0,_,listed=>listed
 |n+1,k,listed=>sC n (k+1) (listed.setIfInBounds k true)
def iZ (K:Act->World->Prop) (Q:Exit->Act->World->Prop):Exit->Act->World->Prop
 |.normal,a,w=>K a w
 |e,a,w=>Q e a w
theorem iZ.o {K:Act->World->Prop} {Q:Exit->Act->World->Prop} (e:Exit) (a:Act) (w:World) (h:e≠.normal) (hh:iZ K Q e a w):Q e a w:=by
 cases e<;>first|exact absurd rfl h|exact hh
theorem pu {P:Program} {md:Region.Mode} {ops:Array Oper} {Q:Exit->Act->World->Prop} {g:Nat} {K:Act->World->Prop}:∀(l:List Oper) (k:Nat) (d:Array Bool) (a:Act) (w:World),
 (∀j,j<l.length->l[j]?=ops[k+j]?)->vv md ops l.length k d=true→
 (∀a w,K a w->wpAny P md ops Q g (sC l.length k d) a w)->wpList P ops (iZ K Q) l a w->wpAny P md ops Q (l.length+g) d a w
 |[],k,d,a,w,_,_,hk,h=>by
  simp only[List.length_nil,Nat.zero_add]
  exact hk a w h
 |o::l,k,d,a,w,hl,hB,hk,h=>by
  have h0:ops[k]?=some o:=by simpa using(hl 0 (by simp)).symm
  simp only[List.length_cons,vv,Bool.and_eq_true,decide_eq_true_eq]at hB
  rw[List.length_cons,show l.length+1+g=(l.length+g)+1 by omega]
  refine⟨λh1=>(by rw[hB.1]at h1;cases h1),λi hi=>?_⟩
  rw[hB.1]at hi
  have Kj:i=k:=zfh
  subst Kj
  have J:=λa' w' h'=>pu (Q:=Q) (g:=g) (K:=K) l (i+1) (d.setIfInBounds i true) a' w' (λj hj=>by
   have:=hl (j+1) (by simp only[List.length_cons];omega);simpa[Nat.add_assoc,Nat.add_comm 1 j]using this) hB.2 hk h'
  unfold wpOp
  simp only[h0]
  simp only[wpList]at h
  split
  . rename_i hw
    simp only[hw,if_true]at h
    rcases h with h|⟨h1,a1,w1,h2⟩
    . exact .inl (yp J iZ.o h)
    . exact .inr ⟨h1,a1,w1,iZ.o _ _ _ ze4 h2⟩
  . rename_i hw
    simp only[hw]at h
    exact J _ _ h
def tw (ops:Array Oper) (n:Nat):Bool:=
 Region.noSelect ops&&vv .any ops n 0 (Array.replicate ops.size false)&&Region.lexFrom .any ops (ops.size-n) n (sC n 0 (Array.replicate ops.size false))
theorem aU {P:Program} {id:Nat} {Q:Exit->Act->World->Prop} {a:Act} {w:World} {l:List Oper} (n:Nat) (hm:P.follows .mixedOrders=true) (hn:n<=l.length) (hB:tw l.toArray n=true) (h:∀wd,wd=w.drew->wpList P l.toArray (iZ (λa' w'=>wpQuiet P l.toArray (λw''=>∃n,w''=w'.drewN n) (λa''=>∀w'',(∃n,w''=w'.drewN n)->Q .normal a'' w'') (l.drop n) a') Q) (l.take n) a wd):(Code.region id l.toArray true).wp P Q a w:=by
 simp only[tw,Bool.and_eq_true]at hB;obtain⟨⟨hs,hq⟩,b⟩:=hB;refine wp_region_any hm ?_;have y:(l.take n).length=n:=zc4
 have r:(l.drop n).length=l.toArray.size-n:=by simp
 have:=pu (P:=P) (md:=.any) (ops:=l.toArray) (Q:=Q) (g:=l.toArray.size-n) (K:=λa' w'=>wpQuiet P l.toArray (λw''=>∃n,w''=w'.drewN n) (λa''=>∀w'',(∃n,w''=w'.drewN n)->Q .normal a'' w'') (l.drop n) a') (l.take n) 0 (Array.replicate l.toArray.size false) a {w with drawn:=w.drawn+1} (λj hj=>by rw[y]at hj;simp[hj]) (by rw[y];exact hq) (λa' w' hk=>by rw[y];have:=wpAnyQ_lex (P:=P) (C:=λw''=>∃n,w''=w'.drewN n) (md:=.any) (Q:=λa''=>∀w'',(∃n,w''=w'.drewN n)->Q .normal a'' w'') hs (l.drop n) n (sC n 0 (Array.replicate l.toArray.size false)) a' (λj=>by simp[List.getElem?_drop]) (by rw[r];exact b) hk;rw[r]at this;exact wpAny_of_quiet (P:=P) (C:=λw''=>∃n,w''=w'.drewN n) (Q:=λa''=>∀w'',(∃n,w''=w'.drewN n)->Q .normal a'' w'') (Q':=Q) (λa'' w'' hw h=>h w'' hw) (l.toArray.size-n) (sC n 0 (Array.replicate l.toArray.size false)) a' w' ⟨0,rfl⟩ this) (h _ rfl);rw[y,show n+(l.toArray.size-n)=l.toArray.size by simp;omega]at this;exact this
structure bK (w:World):Prop where
 at_:∀i,i<64->w.cell? ⟨0,i,none⟩=some (aq (tj i))
theorem bK.gr {w w':World} (h:bK w) (g:Gr w w'):bK w':=
 ⟨λi hi=>(g.below.cell (p:=⟨0,i,none⟩) (World.block_lt_of_cell? w _ (h.at_ i hi))).trans (h.at_ i hi)⟩
def gD (s:S8):Array Value:=#[aq s.a,aq s.b,aq s.c,aq s.d,aq s.e,aq s.f,aq s.g,aq s.h]
theorem IL (s:S8) (i:Nat) (h:i<8):(gD s)[i]?=some (.int .u32 ((s.list.getD i 0).toNat:Int)):=by
 match i,h with|0,_=>rfl|1,_=>rfl|2,_=>rfl|3,_=>rfl|4,_=>rfl|5,_=>rfl|6,_=>rfl|7,_=>rfl
def ld:Array Value:=#[.int .u32 0,.int .u32 0,.int .u32 0,.int .u32 0,.int .u32 0,.int .u32 0,.int .u32 0,.int .u32 0]
def fW (b:Y0) (n:Nat):Array Value:=((List.range 64).map λm=>aq (if m<n then cF b m else 0)).toArray
theorem rn (b:Y0):fW b 0=#[.int .u32 0,.int .u32 0,.int .u32 0,.int .u32 0,.int .u32 0,.int .u32 0,.int .u32 0,.int .u32 0,.int .u32 0,.int .u32 0,.int .u32 0,.int .u32 0,.int .u32 0,.int .u32 0,.int .u32 0,.int .u32 0,.int .u32 0,.int .u32 0,.int .u32 0,.int .u32 0,.int .u32 0,.int .u32 0,.int .u32 0,.int .u32 0,.int .u32 0,.int .u32 0,.int .u32 0,.int .u32 0,.int .u32 0,.int .u32 0,.int .u32 0,.int .u32 0,.int .u32 0,.int .u32 0,.int .u32 0,.int .u32 0,.int .u32 0,.int .u32 0,.int .u32 0,.int .u32 0,.int .u32 0,.int .u32 0,.int .u32 0,.int .u32 0,.int .u32 0,.int .u32 0,.int .u32 0,.int .u32 0,.int .u32 0,.int .u32 0,.int .u32 0,.int .u32 0,.int .u32 0,.int .u32 0,.int .u32 0,.int .u32 0,.int .u32 0,.int .u32 0,.int .u32 0,.int .u32 0,.int .u32 0,.int .u32 0,.int .u32 0,.int .u32 0]:=by kernel_rfl
theorem tG (b:Y0) (n:Nat):(fW b n).setIfInBounds n (aq (cF b n))=fW b (n+1):=by
 unfold fW;rw[List.setIfInBounds_toArray];congr 1;apply List.ext_getElem;. simp
 . intro i h1 h2;rw[List.getElem_set];simp at h1 h2;by_cases e:n=i;(. subst e;simp);. exact zcd
theorem rj (b:Y0) (n:Nat):(fW b n).size=64:=by unfold fW;simp
theorem lK (b:Y0) (n i:Nat) (h:i<n) (h':i<64):(fW b n)[i]?=some (aq (cF b i)):=by
 unfold fW;simp[h,h']
theorem pZ (K:S8) (b:Y0) (w:World) (hb:b.length=64) (hT:bK w):Calls Ao 119 #[.agg (gD K),b] w λe w'=>e=.returned (.agg (gD (lV K b)))/\Gr w w':=by
 have Ka:(64:Int)<=(b.length:Int):=om;have HB:=aa hb;clear hb;unfold gD;go_enter Tryz.func119,Tryz.ntmps119
 go_wp2_with fail
 go_loopw [17,6] (λiv _ wr=>∃i:Nat,iv=.int .i64 i/\i<=16/\ag wr w.heap.size 138 (gD K)/\ag wr (w.heap.size+1) 138 ld/\ag wr (w.heap.size+1+1) 241 (fW b i)/\Gr w wr) (λiv _ _=>16-(intOf iv).toNat)
 case atStart=>refine⟨0,rfl,om,((ag.new _ _ _).alloc _).alloc _,(?_:ag _ _ _ _).alloc _,?_,(((Gr.refl _).alloc _).alloc _).alloc _⟩;(. have:=ag.new (w.alloc (.cells (gD K) 138)) 138 ld;rw[World.size_alloc]at this;exact this);. have:=ag.new ((w.alloc (.cells (gD K) 138)).alloc (.cells ld 138)) 241 (fW b 0);rw[World.size_alloc,World.size_alloc,rn]at this;rw[rn];exact this
 case round=>obtain⟨i,rfl,hi,a,c,d,hg⟩:=hrel;by_cases hlt:i<16;(. have q0:IntKind.i64.wrap (4*(i:Int))=4*(i:Int):=IntWalk.i64_in _ om;have q1:IntKind.i64.wrap (4*(i:Int)+1)=4*(i:Int)+1:=IntWalk.i64_in _ om;have q2:IntKind.i64.wrap (4*(i:Int)+2)=4*(i:Int)+2:=IntWalk.i64_in _ om;have q3:IntKind.i64.wrap (4*(i:Int)+3)=4*(i:Int)+3:=IntWalk.i64_in _ om;have r0:(0:Int)<=4*(i:Int)/\4*(i:Int)<(b.length:Int):=om;have r1:(0:Int)<=4*(i:Int)+1/\4*(i:Int)+1<(b.length:Int):=om;have r2:(0:Int)<=4*(i:Int)+2/\4*(i:Int)+2<(b.length:Int):=om;have r3:(0:Int)<=4*(i:Int)+3/\4*(i:Int)+3<(b.length:Int):=om;(have t0:(4*(i:Int)).toNat=4*i:=om);(have t1:(4*(i:Int)+1).toNat=4*i+1:=om);(have t2:(4*(i:Int)+2).toNat=4*i+2:=om);(have t3:(4*(i:Int)+3).toNat=4*i+3:=om);have B:(i:Int)<16:=om;have r:(i:Int)<64:=om;have b0:4*i<b.length:=om;have b1:4*i+1<b.length:=om;have b2:4*i+2<b.length:=om;have b3:4*i+3<b.length:=om;have hw:=Fp b[4*i] b[4*i+1] b[4*i+2] b[4*i+3];have Ky:cF b i=oC b (4*i):=CJ hlt;(have m:((oC b (4*i)).toNat:Int)=((b[4*i].toNat*16777216+b[4*i+1].toNat*65536+b[4*i+2].toNat*256+b[4*i+3].toNat:Nat):Int):=by rw[xJ];simp[j9,List.getD,List.getElem?_eq_getElem b0,List.getElem?_eq_getElem b1,List.getElem?_eq_getElem b2,List.getElem?_eq_getElem b3]);have HW:=aa (hw.trans m.symm);have HS:=aa Ky;clear hw Ky m;have hc:∃v,wr.cell? (w.heap.size+1+1,i)=some v:=⟨_,(d.cell i).trans (Array.getElem?_eq_getElem (by rw[rj];omega))⟩;obtain⟨v5,C⟩:=hc;have k:=d.frozen i;(go_wp2);(go_still_tail 31,zc0);change wpList _ _ _ _ _ wr.drew;(go_wp2);(go_roundw);(case rel=>rw[HW.o];have h5:=d.drew.set_ i (aq (cF b i));rw[tG,HS.o]at h5;exact⟨i+1,by go_num,om,a.drew.far zc4 _,c.drew.far (by simp) _,h5,hg.drew.setCell zc4 _⟩);case measure=>simp[intOf];omega);. obtain rfl:i=16:=om;clear hlt hi;rw[show((16:Nat):Int)=16 from rfl];(go_wp2_with fail);(go_loopw [7,8,9] (λiv _ _ wr=>∃i:Nat,iv=.int .i64 i/\16<=i/\i<=64/\ag wr w.heap.size 138 (gD K)/\ag wr (w.heap.size+1) 138 ld/\ag wr (w.heap.size+1+1) 241 (fW b i)/\Gr w wr) (λiv _ _ _=>64-(intOf iv).toNat));(case atStart=>exact⟨16,rfl,om,om,a,c,d,hg⟩);case round=>clear a c d hg;obtain⟨i,rfl,L,hi,a,c,d,hg⟩:=hrel;by_cases hlt:i<64;(. have I:IntKind.i64.wrap ((i:Int)-15)=(i:Int)-15:=IntWalk.i64_in _ om;have q2:IntKind.i64.wrap ((i:Int)-2)=(i:Int)-2:=IntWalk.i64_in _ om;have J:IntKind.i64.wrap ((i:Int)-16)=(i:Int)-16:=IntWalk.i64_in _ om;have q7:IntKind.i64.wrap ((i:Int)-7)=(i:Int)-7:=IntWalk.i64_in _ om;have r15:(0:Int)<=(i:Int)-15/\(i:Int)-15<64:=om;have r2:(0:Int)<=(i:Int)-2/\(i:Int)-2<64:=om;have r16:(0:Int)<=(i:Int)-16/\(i:Int)-16<64:=om;have r7:(0:Int)<=(i:Int)-7/\(i:Int)-7<64:=om;have Kf:(16:Int)<=(i:Int):=om;have e7:(7:Int)<=(i:Int):=om;(have M:((i:Int)-15).toNat=i-15:=om);(have t2:((i:Int)-2).toNat=i-2:=om);(have N:((i:Int)-16).toNat=i-16:=om);(have t7:((i:Int)-7).toNat=i-7:=om);(have u:wr.cell? (w.heap.size+1+1,i-15)=some (.int .u32 ((cF b (i-15)).toNat:Int)):=(d.cell _).trans (lK b i _ om om));(have c2:wr.cell? (w.heap.size+1+1,i-2)=some (.int .u32 ((cF b (i-2)).toNat:Int)):=(d.cell _).trans (lK b i _ om om));(have n:wr.cell? (w.heap.size+1+1,i-16)=some (.int .u32 ((cF b (i-16)).toNat:Int)):=(d.cell _).trans (lK b i _ om om));(have c7:wr.cell? (w.heap.size+1+1,i-7)=some (.int .u32 ((cF b (i-7)).toNat:Int)):=(d.cell _).trans (lK b i _ om om));have Ky:=Cm (b:=b) (t:=i) om;have HS:=aa Ky;clear Ky;have hc:∃v,wr.cell? (w.heap.size+1+1,i)=some v:=⟨_,(d.cell i).trans (Array.getElem?_eq_getElem (by rw[rj];omega))⟩;obtain⟨v5,C⟩:=hc;have k:=d.frozen i;have r:(i:Int)<64:=om;(go_wp2);(go_quiet (fail));(go_wp2);refine ct 29 zc0 zc0 ?_;simp only[List.take_succ_cons,List.take_zero,List.drop_succ_cons,List.drop_zero];intro wd hwd;(have Ke:wd.cell? (w.heap.size+1+1,i-16)=some (.int .u32 ((cF b (i-16)).toNat:Int)):=by subst hwd;exact n);(have d7:wd.cell? (w.heap.size+1+1,i-7)=some (.int .u32 ((cF b (i-7)).toNat:Int)):=by subst hwd;exact c7);(have P:wd.cell? (w.heap.size+1+1,i)=some v5:=by subst hwd;exact C);(have U:wd.frozen? (w.heap.size+1+1,i)=false:=by subst hwd;exact k);(have f:ag wd w.heap.size 138 (gD K):=ziA);(have D4:ag wd (w.heap.size+1) 138 ld:=ziB);(have D5:ag wd (w.heap.size+1+1) 241 (fW b i):=ziC);(have T:Gr w wd:=zim);clear hwd n c7 u c2 C k a c d hg;(repeat(first|still_step|still_call (rL _ _ _ dc0 dc0)));refine wpStill_nil ?_;(go_wp2);(go_roundw);(case rel=>have h5:=D5.set_ i (aq (cF b i));rw[tG,HS.o]at h5;exact⟨i+1,by go_num,om,om,f.far zc4 _,D4.far (by simp) _,h5,T.setCell zc4 _⟩);case measure=>simp[intOf];omega);. obtain rfl:i=64:=om;clear hlt hi L;rw[show((64:Nat):Int)=64 from rfl];have k0:wr.cell? (w.heap.size,0)=some (.int .u32 (K.a.toNat:Int)):=a.cell 0;have k1:wr.cell? (w.heap.size,1)=some (.int .u32 (K.b.toNat:Int)):=a.cell 1;have k2:wr.cell? (w.heap.size,2)=some (.int .u32 (K.c.toNat:Int)):=a.cell 2;have k3:wr.cell? (w.heap.size,3)=some (.int .u32 (K.d.toNat:Int)):=a.cell 3;have k4:wr.cell? (w.heap.size,4)=some (.int .u32 (K.e.toNat:Int)):=a.cell 4;have k5:wr.cell? (w.heap.size,5)=some (.int .u32 (K.f.toNat:Int)):=a.cell 5;have k6:wr.cell? (w.heap.size,6)=some (.int .u32 (K.g.toNat:Int)):=a.cell 6;have k7:wr.cell? (w.heap.size,7)=some (.int .u32 (K.h.toNat:Int)):=a.cell 7;(go_wp2_with fail);obtain⟨q,hq⟩:=zq (wr.heap.size);(have Lm:w.heap.size+1+1<q:=by have:=d.lt;omega);have E2:=a.alloc (.cells (gD K) 138);have E4:=c.alloc (.cells (gD K) 138);have E5:=d.alloc (.cells (gD K) 138);have Eg:=hg.alloc (.cells (gD K) 138);have z:=ag.new wr 138 (gD K);rw[<-hq]at z;rw[<-hq];clear hq k0 k1 k2 k3 k4 k5 k6 k7 a c d hg;(go_loopw [94,11,12,13,14,15] (λiv _ _ _ _ _ wr=>∃i:Nat,iv=.int .i64 i/\i<=64/\ag wr w.heap.size 138 (gD K)/\ag wr (w.heap.size+1) 138 ld/\ag wr (w.heap.size+1+1) 241 (fW b 64)/\Gr w wr/\ag wr q 138 (gD (mV b K i))) (λiv _ _ _ _ _ _=>64-(intOf iv).toNat));(case atStart=>exact⟨0,rfl,om,E2,E4,E5,Eg,z⟩);case round=>clear E2 E4 E5 Eg z;obtain⟨i,rfl,hi,a,c,d,hg,g⟩:=hrel;by_cases hlt:i<64;(. have r:(i:Int)<64:=om;obtain⟨S,hS⟩:=zq (mV b K i);(have hSn:mV b K (i+1)=round (tj i) (cF b i) S:=by rw[hS];rfl);rw[<-hS]at g;have l:=aa hSn;clear hS hSn;have c0:wr.cell? (q,0)=some (.int .u32 (S.a.toNat:Int)):=g.cell 0;have c4:wr.cell? (q,4)=some (.int .u32 (S.e.toNat:Int)):=g.cell 4;(go_wp2);(go_quiet (fail));(go_wp2);clear c0 c4;refine ct 30 zc0 zc0 ?_;simp only[List.take_succ_cons,List.take_zero,List.drop_succ_cons,List.drop_zero];intro wd hwd;(have f:ag wd w.heap.size 138 (gD K):=ziA);(have D4:ag wd (w.heap.size+1) 138 ld:=ziB);(have D5:ag wd (w.heap.size+1+1) 241 (fW b 64):=ziC);(have o:ag wd q 138 (gD S):=by subst hwd;exact(g.drewN _).drew);(have T:Gr w wd:=zim);clear hwd a c d g hg;have c5:wd.cell? (q,5)=some (.int .u32 (S.f.toNat:Int)):=o.cell 5;have c6:wd.cell? (q,6)=some (.int .u32 (S.g.toNat:Int)):=o.cell 6;have c7:wd.cell? (q,7)=some (.int .u32 (S.h.toNat:Int)):=o.cell 7;(have ck:wd.cell? (0,i)=some (.int .u32 ((tj i).toNat:Int)):=(hT.gr T).at_ i hlt);(have W:wd.cell? (w.heap.size+1+1,i)=some (.int .u32 ((cF b i).toNat:Int)):=(D5.cell _).trans (lK b 64 i hlt hlt));(repeat(first|still_step|still_call (rL _ _ _ dc0 dc0)));refine wpStill_nil ?_;(go_wp2);clear c5 c6 c7 ck W;refine ct 24 zc0 zc0 ?_;simp only[List.take_succ_cons,List.take_zero,List.drop_succ_cons,List.drop_zero];intro we Kk;(have D:ag we w.heap.size 138 (gD K):=by subst Kk;exact f.drew);(have G:ag we (w.heap.size+1) 138 ld:=by subst Kk;exact D4.drew);(have E:ag we (w.heap.size+1+1) 241 (fW b 64):=by subst Kk;exact D5.drew);(have s:ag we q 138 (gD S):=by subst Kk;exact o.drew);(have F:Gr w we:=by subst Kk;exact T.drew);clear Kk f D4 D5 o T;have c1:we.cell? (q,1)=some (.int .u32 (S.b.toNat:Int)):=s.cell 1;have c2:we.cell? (q,2)=some (.int .u32 (S.c.toNat:Int)):=s.cell 2;(repeat(first|still_step|still_call (rL _ _ _ dc0 dc0)));refine wpStill_nil ?_;(go_wp2);clear c1 c2;refine ct 2 zc0 zc0 ?_;simp only[List.take_succ_cons,List.take_zero,List.drop_succ_cons,List.drop_zero];intro wf Kz;(have G2:ag wf w.heap.size 138 (gD K):=by subst Kz;exact D.drew);(have G4:ag wf (w.heap.size+1) 138 ld:=by subst Kz;exact G.drew);(have V:ag wf (w.heap.size+1+1) 241 (fW b 64):=by subst Kz;exact E.drew);(have A:ag wf q 138 (gD S):=by subst Kz;exact s.drew);(have H:Gr w wf:=by subst Kz;exact F.drew);clear Kz D G E s F;(repeat still_step);refine wpStill_nil ?_;refine wpList_copy_splice rfl (.tmp 155) (.tmp 156) _ _ rfl 137 rfl rfl (some (q,1)) (some (q,0)) 7 7 7 8 rfl rfl q 1 [aq S.a,aq S.b,aq S.c,aq S.d,aq S.e,aq S.f,aq S.g,aq S.h] _ A [aq S.a,aq S.b,aq S.c,aq S.d,aq S.e,aq S.f,aq S.g] rfl ?_ (by simp) ?_ q wf (RowKit.Below.refl _ _) (Dg _) ?_;(. intro _;refine⟨rfl,_,rfl,?_⟩;intro j v h;(have hj:j<7:=by obtain⟨hl,_⟩:=List.getElem?_eq_some_iff.mp h;simpa using hl);rw[show Addr.add (q,0) j=(q,j) by simp[Addr.add];omega,A.cell];match j,hj,h with|0,_,h=>exact h|1,_,h=>exact h|2,_,h=>exact h|3,_,h=>exact h|4,_,h=>exact h|5,_,h=>exact h|6,_,h=>exact h);(. intro v hv;simp only[List.mem_cons,List.not_mem_nil,or_false]at hv;rcases hv with rfl|rfl|rfl|rfl|rfl|rfl|rfl<;>rfl);. intro wh hh Q;have p:ag wh q 138 #[aq S.a,aq S.a,aq S.b,aq S.c,aq S.d,aq S.e,aq S.f,aq S.g]:=hh;have Y:=G2.below Q om;have H4:=G4.below Q om;have X:=V.below Q om;have Z:Gr w wh:=Gr.below (Below.trans H (Below.mono Q om));clear hh Q G2 G4 V A H;have c4:wh.cell? (q,4)=some (.int .u32 (S.d.toNat:Int)):=p.cell 4;have c0:wh.cell? (q,0)=some (.int .u32 (S.a.toNat:Int)):=p.cell 0;have f4:=p.frozen 4;have f0:=p.frozen 0;(go_wp2);(go_roundw);(case rel=>(have h5:=(p.set_ 4 (aq (kE S.d (tW (tj i) (cF b i) S)))).set_ 0 (aq (kE (tW (tj i) (cF b i) S) (uW S))));(have e:((#[aq S.a,aq S.a,aq S.b,aq S.c,aq S.d,aq S.e,aq S.f,aq S.g]:Array Value).setIfInBounds 4 (aq (kE S.d (tW (tj i) (cF b i) S)))).setIfInBounds 0 (aq (kE (tW (tj i) (cF b i) S) (uW S)))=gD (mV b K (i+1)):=by rw[l.o,Jf,Jk];rfl);rw[e]at h5;exact⟨i+1,by go_num,om,(Y.far zc4 _).far zc4 _,(H4.far zc4 _).far zc4 _,(X.far zc4 _).far zc4 _,(Z.setCell zc4 _).setCell zc4 _,h5⟩);case measure=>simp[intOf];omega);. obtain rfl:i=64:=om;clear hlt hi;rw[show((64:Nat):Int)=64 from rfl];obtain⟨S,hS⟩:=zq (mV b K 64);rw[<-hS]at g;have l:=aa hS;clear hS;(go_wp2_with fail);(go_loopw [168,16] (λiv _ wr=>∃i:Nat,iv=.int .i64 i/\i<=8/\ag wr w.heap.size 138 (kI K S i)/\ag wr (w.heap.size+1) 138 ld/\Gr w wr/\ag wr q 138 (gD S)) (λiv _ _=>8-(intOf iv).toNat));(case atStart=>exact⟨0,rfl,om,a,c,hg,g⟩);case round=>clear a c d g hg;obtain⟨i,rfl,hi,a,c,hg,g⟩:=hrel;by_cases hlt:i<8;(. have Eq:(i:Int)<8:=om;(have c2:wr.cell? (w.heap.size,i)=some (.int .u32 ((K.list.getD i 0).toNat:Int)):=(a.cell i).trans (yS K S i hlt));(have cq:wr.cell? (q,i)=some (.int .u32 ((S.list.getD i 0).toNat:Int)):=(g.cell i).trans (IL S i hlt));have f2:=a.frozen i;obtain⟨x,hx⟩:=zq (K.list.getD i 0);obtain⟨y,hy⟩:=zq (S.list.getD i 0);rw[<-hx]at c2;rw[<-hy]at cq;have O:=aa hx;have HY:=aa hy;clear hx hy;(go_wp2);(go_still_tail 8,zc0);change wpList _ _ _ _ _ wr.drew;(go_wp2);(go_roundw);(case rel=>have h2:=a.drew.set_ i (aq (kE (K.list.getD i 0) (S.list.getD i 0)));rw[wY,<-O.o,<-HY.o]at h2;exact⟨i+1,by go_num,om,h2,c.drew.far (by simp) _,hg.drew.setCell (by simp) _,g.drew.far zc4 _⟩);case measure=>simp[intOf];omega);. obtain rfl:i=8:=om;clear hlt hi;rw[show((8:Nat):Int)=8 from rfl];(have e8:kI K S 8=gD (lV K b):=by rw[l.o];rfl);rw[e8]at a;clear e8;obtain⟨R,hR⟩:=zq (lV K b);rw[<-hR]at a;have HR:=aa hR;clear hR l;have k0:wr.cell? (w.heap.size,0)=some (.int .u32 (R.a.toNat:Int)):=a.cell 0;have k1:wr.cell? (w.heap.size,1)=some (.int .u32 (R.b.toNat:Int)):=a.cell 1;have k2:wr.cell? (w.heap.size,2)=some (.int .u32 (R.c.toNat:Int)):=a.cell 2;have k3:wr.cell? (w.heap.size,3)=some (.int .u32 (R.d.toNat:Int)):=a.cell 3;have k4:wr.cell? (w.heap.size,4)=some (.int .u32 (R.e.toNat:Int)):=a.cell 4;have k5:wr.cell? (w.heap.size,5)=some (.int .u32 (R.f.toNat:Int)):=a.cell 5;have k6:wr.cell? (w.heap.size,6)=some (.int .u32 (R.g.toNat:Int)):=a.cell 6;have k7:wr.cell? (w.heap.size,7)=some (.int .u32 (R.h.toNat:Int)):=a.cell 7;have z0:wr.cell? (w.heap.size+1,0)=some (.int .u32 0):=c.cell 0;have z1:wr.cell? (w.heap.size+1,1)=some (.int .u32 0):=c.cell 1;have z2:wr.cell? (w.heap.size+1,2)=some (.int .u32 0):=c.cell 2;have z3:wr.cell? (w.heap.size+1,3)=some (.int .u32 0):=c.cell 3;have z4:wr.cell? (w.heap.size+1,4)=some (.int .u32 0):=c.cell 4;have z5:wr.cell? (w.heap.size+1,5)=some (.int .u32 0):=c.cell 5;have z6:wr.cell? (w.heap.size+1,6)=some (.int .u32 0):=c.cell 6;have z7:wr.cell? (w.heap.size+1,7)=some (.int .u32 0):=c.cell 7;have f0:=c.frozen 0;have f1:=c.frozen 1;have f2:=c.frozen 2;have f3:=c.frozen 3;have f4:=c.frozen 4;have f5:=c.frozen 5;have f6:=c.frozen 6;have f7:=c.frozen 7;(go_wp2);(have hz:=(((((((c.set_ 0 (aq R.a)).set_ 1 (aq R.b)).set_ 2 (aq R.c)).set_ 3 (aq R.d)).set_ 4 (aq R.e)).set_ 5 (aq R.f)).set_ 6 (aq R.g)).set_ 7 (aq R.h));(have ez:(((((((ld.setIfInBounds 0 (aq R.a)).setIfInBounds 1 (aq R.b)).setIfInBounds 2 (aq R.c)).setIfInBounds 3 (aq R.d)).setIfInBounds 4 (aq R.e)).setIfInBounds 5 (aq R.f)).setIfInBounds 6 (aq R.g)).setIfInBounds 7 (aq R.h)=gD R:=rfl);rw[ez]at hz;refine bodyPost_ret (results_cell_row rfl _ _ (w.heap.size+1) _ (gD R) (0,0) _ rfl hz rfl rfl rfl) rfl ?_;rw[HR.o];exact⟨rfl,(((((((hg.setCell (by simp) _).setCell (by simp) _).setCell (by simp) _).setCell (by simp) _).setCell (by simp) _).setCell (by simp) _).setCell (by simp) _).setCell (by simp) _⟩
section
structure aH (M:Nat->Prop) (w w':World):Prop where
 os:w'.os=w.os
 tape:w'.tape=w.tape
 output:w'.output=w.output
 size:w.heap.size<=w'.heap.size
 block:∀k,k<w.heap.size->¬M k->w'.heap[k]?=w.heap[k]?
section
variable{M M' F F':Nat→Prop} {w w' w'':World}
theorem Gr.mod (g:Gr w w'):aH M w w':=⟨g.below.os,g.below.tape,g.below.output,g.size,λk hk _=>g.below.block k hk⟩
theorem aH.refl (M:Nat->Prop) (w:World):aH M w w:=⟨rfl,rfl,rfl,Dg _,λ_ _ _=>rfl⟩
theorem aH.trans (h:aH M w w') (k:aH M w' w''):aH M w w'':=
 ⟨k.os.trans h.os,k.tape.trans h.tape,k.output.trans h.output,Nat.le_trans h.size k.size,λi hi hM=>(k.block i (Nat.lt_of_lt_of_le hi h.size) hM).trans (h.block i hi hM)⟩
theorem aH.mono (h:aH M w w') (hM:∀k,k<w.heap.size->M k->M' k):aH M' w w':=⟨h.os,h.tape,h.output,h.size,λk hk h'=>h.block k hk (λx=>h' (hM k hk x))⟩
theorem aH.gr (h:aH M w w') (hM:∀k,k<w.heap.size->¬M k):Gr w w':=⟨h.os,h.tape,h.output,h.size,λk hk=>h.block k hk (hM k hk)⟩
theorem aH.grown {row:Option Nat} (h:w.grownBy w' row) (hM:∀k,row=some k->M k):aH M w w':=
 ⟨h.os,h.tape,h.output,h.size,λk hk h'=>h.block k hk (λe=>h' (hM k e.symm))⟩
theorem aH.setCell (p:Addr) (v:Value) (hM:M p.block):aH M w (w.setCell p v):=
 ⟨rfl,rfl,rfl,by simp[World.setCell],λk _ h'=>Below.heap_setCell _ _ _ _ (λe=>h' (by rw[e];exact hM))⟩
theorem ag.mod {g:Nat} {t:TypeId} {cs:Array Value} (h:ag w g t cs) (m:aH M w w') (hg:¬M g):ag w' g t cs:=(m.block g h.lt hg).trans h
theorem jN {B e size n:Nat} {v:Value} {xs:List Value} (h:w.ownsRow B e size v n xs) (m:aH M w w') (hv:∀k,v.ownBlock=some k->¬M k):w'.ownsRow B e size v n xs:=by
 refine⟨h.1,?_⟩;rcases h.2 with h0|⟨g,cap,d,e1,hB,hb,r⟩
 . exact .inl h0
 . (have hlt:g<w.heap.size:=by rcases Nat.lt_or_ge g w.heap.size with h|h;(. exact h);. rw[Array.getElem?_eq_none h]at hb;cases hb);exact .inr ⟨g,cap,d,e1,hB,(m.block g hlt (hv g (by rw[e1];rfl))).trans hb,r⟩
def uD (F:Nat->Prop) (A:Yy) (n:Nat):Prop:=0<n->∀b off,A=some ⟨b,off,none⟩->F b
theorem uD.mono {A:Yy} {n:Nat} (h:uD F A n) (hF:∀k,F k->F' k):uD F' A n:=λhn b off e=>hF _ (h hn b off e)
theorem ak.mod {size n:Nat} {A:Yy} {vs:List Value} (h:ak w size A n vs) (hF:uD F A n) (m:aH M w w') (hd:∀k,F k->¬M k):ak w' size A n vs:=
 ⟨h.len,λhn=>by
  obtain⟨b,off,e,hc⟩:=h.at_ hn
  refine⟨b,off,e,λi v hv=>?_⟩
  have h1:=hc i v hv
  have hlt:=World.block_lt_of_cell? w _ h1
  rw[World.cell?_of_block (a:=(b,off+i)) (m.block b hlt (hd b (hF hn b off e)))]
  exact h1⟩
def fq (B:Nat) (A:Yy) (n:Nat):Prop:=uD (λk=>B<=k) A n
theorem fq.zero (B:Nat) (A:Yy):fq B A 0:=λh=>absurd h om
theorem fq.low {B B' n:Nat} {A:Yy} (h:fq B A n) (hB:B'<=B):fq B' A n:=uD.mono h (λk hk=>Nat.le_trans hB hk)
theorem fq.own {B e size n c:Nat} {A:Yy} {xs:List Value} (h:w.ownsRow B e size (A,n,c) n xs):fq B A n:=λ_ b off e=>(h.lt b zfq).1
def zC (B:Nat) (A0:Yy) (n0:Nat) (A:Yy) (n:Nat):Prop:=0<n->∀b off,A=some ⟨b,off,none⟩->B<=b\/(0<n0/\∃off0,A0=some ⟨b,off0,none⟩)
theorem zC.same (B:Nat) (A:Yy) (n:Nat):zC B A n A n:=λhn b off e=>.inr ⟨hn,off,e⟩
theorem fq.fa {B n0 n:Nat} {A0 A:Yy} (h:fq B A n):zC B A0 n0 A n:=λhn b off e=>.inl (h hn b off e)
theorem kq {B e size n c:Nat} {A:Yy} {xs:List Value} (h:w.ownsRow B e size (A,n,c) n xs):A=none->n=0/\c=0:=by
 intro e;exact zcR
theorem jI {B e size n c:Nat} {A:Yy} {xs:List Value} (h:w.ownsRow B e size (A,n,c) n xs):n<=c:=by
 exact zaA
def kQ (w:World) (A:Yy) (n c:Nat) (A':Yy) (n' c':Nat):Prop:=(A'=none->n'=0/\c'=0)/\(n<=c->n'<=c')/\zC w.heap.size A n A' n'
theorem kQ.same {A:Yy} {n c:Nat} (hA:A=none->n=0/\c=0):kQ w A n c A n c:=⟨hA,id,zC.same _ _ _⟩
structure aV (F:Nat->Prop) (w:World) (size:Nat) (A:Yy) (n c:Nat) (vs:List Value):Prop where
 row:ak w size A n vs
 inF:uD F A n
 nil:A=none->n=0/\c=0
 cap:n<=c
variable{size n c:Nat} {A:Yy} {vs:List Value}
theorem aV.mod (h:aV F w size A n c vs) (m:aH M w w') (hd:∀k,F k->¬M k):aV F w' size A n c vs:=⟨h.row.mod h.inF m hd,h.inF,h.nil,h.cap⟩
theorem aV.gr (h:aV F w size A n c vs) (g:Gr w w'):aV F w' size A n c vs:=⟨h.row.gr g,h.inF,h.nil,h.cap⟩
theorem aV.mono (h:aV F w size A n c vs) (hF:∀k,F k->F' k):aV F' w size A n c vs:=⟨h.row,h.inF.mono hF,h.nil,h.cap⟩
theorem aV.zero (F:Nat->Prop) (w:World) (size:Nat):aV F w size none 0 0 []:=⟨ak.nil _ _ _,λh=>absurd h om,λ_=>⟨rfl,rfl⟩,Dg _⟩
def eo (F:Nat->Prop) (w w':World):Nat->Prop:=λk=>F k\/(w.heap.size<=k/\k<w'.heap.size)
theorem aV.own {B e:Nat} (h:w'.ownsRow B e size (A,n,c) n vs) (hB:w.heap.size<=B):aV (eo F w w') w' size A n c vs:=by
 refine⟨ak.own h,λhn b off eA=>?_,λe=>?_,?_⟩;. have h1:=h.lt b (by rw[eA];rfl);exact .inr ⟨om,h1.2⟩
 . exact zcR
 . exact zaA
theorem aV.same_or_own {B e:Nat} {U:Yy} {n' c':Nat} {vs':List Value} (h:aV F w size A n c vs) (hg:Gr w w') (h':(U=A/\n'=n/\c'=c/\vs'=vs)\/w'.ownsRow B e size (U,n',c') n' vs') (hB:w.heap.size<=B):aV (eo F w w') w' size U n' c' vs':=by
 rcases h' with⟨rfl,rfl,rfl,rfl⟩|h';. exact(h.gr hg).mono λ_=>.inl
 . exact aV.own h' hB
theorem aV.fr {vs':List Value} {U:Yy} {n' c':Nat} (h:aV F w size A n c vs) (hr:ak w' size U n' vs') (hs:0<size) (hf:zC w.heap.size A n U n') (hn:U=none->n'=0/\c'=0) (hc:n'<=c'):aV (eo F w w') w' size U n' c' vs':=by
 refine⟨hr,λh0 b off e=>?_,hn,hc⟩;rcases hf h0 b off e with h1|⟨h1,a,h2⟩;. obtain⟨b',Kl,e',hlt⟩:=hr.lt h0 hs;rw[e]at e';injection e' with e';injection e' with e1 _;subst e1;exact .inr ⟨h1,hlt⟩
 . exact .inl (h.inF h1 b a h2)
theorem aV.frn {vs':List Value} {U:Yy} {n' c':Nat} (hr:ak w' size U n' vs') (hs:0<size) (hf:fq w.heap.size U n') (hn:U=none->n'=0/\c'=0) (hc:n'<=c'):aV (eo F w w') w' size U n' c' vs':=
 aV.fr (aV.zero F w size) hr hs hf.fa hn hc
end
end
theorem tO (ss:List (Y0)) (s:Y0) (A:Yy) (n c:Nat) (w:World) (hx:aE w A n ss) (hn:n<=140737488355328):Calls Ao 152 #[(A,n,c),s] w λe w'=>∃k:Int,e=.returned k/\((0<=k)↔s∈ss)/\Gr w w':=by
 have hl:=hx.len;subst hl;have O:=aa hx;clear hx;go_enter Tryz.func152,Tryz.ntmps152
 go_wp2_with fail
 go_loopw [8,5] (λiv _ wr=>∃i:Nat,iv=.int .i64 (i:Int)/\i<=ss.length/\ab (s∉ss.take i)/\wr=w) (λiv _ _=>ss.length-(intOf iv).toNat)
 case atStart=>exact⟨0,rfl,om,aa (by simp),rfl⟩
 case round=>obtain⟨i,rfl,hi,HA,rfl⟩:=hrel;by_cases hlt:i<ss.length;(. have L:(i:Int)<(ss.length:Int):=om;obtain⟨b,off,rfl,e0⟩:=O.o.cell hlt;have HM:ab (∀x,x∈ss.take (i+1)↔x∈ss.take i\/x=ss[i]):=aa (λx=>by rw[List.take_succ_eq_append_getElem hlt];simp only[List.mem_append,List.mem_singleton]);have z:ab (ss[i]∈ss):=aa (List.getElem_mem hlt);obtain⟨x,P⟩:=zq (ss[i]);rw[<-P]at e0 HM z;have Il:=aa hlt;clear P hlt;by_cases d:s=x;(. subst d;(go_wp2_with fail);go_ret;exact⟨_,rfl,by simp[z.o],Gr.refl _⟩);. (have hb:(s==x)=false:=by simpa using d);have HN:ab (s∉ss.take (i+1)):=aa (λh=>by(rcases(HM.o s).1 h with h|h);(. exact HA.o h);. exact d h);exact zbf);. obtain rfl:i=ss.length:=om;have HF:ab (s∉ss):=aa zfH;clear hlt;(go_wp2_with fail);go_ret;exact⟨-1,rfl,by simp[HF.o],Gr.refl _⟩
theorem jX (ss:List (Y0)) (s:Y0) (A:Yy) (n c:Nat) (w:World) (hx:aE w A n ss) (hn:n<=140737488355328):Calls Ao 106 #[(A,n,c),s] w λe w'=>e=.returned (decide (s∈ss))/\Gr w w':=by
 have HI:=aa (tO ss s A n c w hx hn);clear hx;by_cases hs:s∈ss;. rw[decide_eq_true hs];have HS:=aa hs;clear hs;(go_enter Tryz.func106,Tryz.ntmps106);(go_wp2_with(go_at_call 152;refine Bo HI.o ?_;rintro e w1 ⟨k,rfl,hk,I⟩;have hk0:0<=k:=hk.2 HS.o;clear hk));go_ret;exact⟨by simp,I⟩
 . rw[decide_eq_false hs];have HS:=aa hs;clear hs;(go_enter Tryz.func106,Tryz.ntmps106);(go_wp2_with(go_at_call 152;refine Bo HI.o ?_;rintro e w1 ⟨k,rfl,hk,I⟩;have hk0:¬0<=k:=λh=>HS.o (hk.1 h);clear hk));go_ret;exact⟨by simp;omega,I⟩
theorem Cg (s:Y0):(s.take 1==[111])=decide (s.head?=some 111):=by
 cases s with|nil=>rfl|cons c r=>by_cases h:c=111;(. subst h;simp);. (have h2:(c==111)=false:=zfc);simp[h]
theorem Bg (s:Y0) (w:World):Calls Ao 234 #[s,.string (bs [111])] w λe w'=>e=.returned (.bool (decide (s.head?=some 111)))/\Gr w w':=by
 by_cases hl:1<=s.length;. have ql:(1:Int)<=(s.length:Int):=om;have HT:=Cg s;cases hb:decide (s.head?=some 111)with|true=>rw[hb]at HT;clear hb;exact zda|false=>rw[hb]at HT;clear hb;exact zda
 . have ql:¬(1:Int)<=(s.length:Int):=om;(have hd:decide (s.head?=some 111)=false:=by have:s=[]:=List.eq_nil_of_length_eq_zero om;subst this;rfl);rw[hd];exact zda
theorem EF (s:Y0) (w:World):Calls Ao 210 #[s,.string (bs [111])] w λe w'=>e=.returned (.tuple #[.string (bs (if s.head?=some 111 then s.drop 1 else s)),.bool (decide (s.head?=some 111))])/\Gr w w':=by
 have HP:=aa (λw=>Bg s w);have HC:ab (∀w,Calls Ao 226 #[s,.string (bs [111])] w λe w'=>e=.returned (.tuple #[.string (bs (if s.head?=some 111 then s.drop 1 else s)),.bool (decide (s.head?=some 111))])/\Gr w w'):=aa (λw=>by by_cases hh:s.head?=some 111;(. (have hl:(1:Int)<=(s.length:Int):=by cases s with|nil=>(cases hh)|cons c r=>simp only[List.length_cons];omega);rw[decide_eq_true hh]at HP;rw[decide_eq_true hh,if_pos hh];clear hh;(go_enter Tryz.func226,Tryz.ntmps226);(go_wp2_with(go_at_call 234;(with_reducible refine Bo (HP.o _) ?_);rintro e w1 ⟨rfl,I⟩));go_ret2;exact⟨by rw[List.drop_one];rfl,I⟩);. rw[decide_eq_false hh]at HP;rw[decide_eq_false hh,if_neg hh];clear hh;(go_enter Tryz.func226,Tryz.ntmps226);(go_wp2_with(go_at_call 234;(with_reducible refine Bo (HP.o _) ?_);rintro e w1 ⟨rfl,I⟩));go_ret2;exact⟨rfl,I⟩);obtain⟨Kb,hV⟩:∃Kb,Kb=(if s.head?=some 111 then s.drop 1 else s):=⟨_,rfl⟩;obtain⟨B,hB⟩:=zq (decide (s.head?=some 111));rw[<-hV,<-hB]at HC;rw[<-hV,<-hB];clear hV hB HP;go_enter Tryz.func210,Tryz.ntmps210
 go_wp2_with(go_at_call 226;(with_reducible refine Bo (HC.o _) ?_);rintro e w1 ⟨rfl,I⟩)
 go_ret2;exact⟨rfl,I⟩
end Go.Proofs.YtdpombnelangjaaGreatDoor
