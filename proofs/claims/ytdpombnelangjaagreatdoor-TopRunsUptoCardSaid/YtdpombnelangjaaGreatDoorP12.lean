/- Lemmas for TopRuns; each states its conditions. -/
import Derived.Test.YtdpombnelangjaaGreatDoorP07
import Derived.Test.YtdpombnelangjaaGreatDoorP08
import Derived.Test.YtdpombnelangjaaGreatDoorP11
namespace Go.Proofs.YtdpombnelangjaaGreatDoor
open Go.RowKit
set_option maxRecDepth 100000
set_option maxHeartbeats 64000000
set_option linter.unusedVariables false
open Go.Proofs.Tryz renaming prog → Ao
open Calls renaming mono → Bo
open Gr renaming refl → B4
open Nat renaming le_refl → Dg
theorem Dn {a b:Y0} (h:aR a b=true):(a==b)=false:=by
 cases hb:a==b with|false=>rfl|true=>((have:a=b:=zfT);rw[this,eY]at h;cases h)
theorem z8 {a b:Y0} (h:aR a b=true):(b==a)=false:=by
 cases hb:b==a with|false=>rfl|true=>((have:b=a:=zfT);rw[this,eY]at h;cases h)
def jr (name:Y0) (fs:List Fl):List Fl×Int:=
 if cS name fs then
  (fs.set (bJ name fs) ((fs.getD (bJ name fs) ([],[],[])).1,(fs.getD (bJ name fs) ([],[],[])).2.1++(fs.getD (bJ name fs) ([],[],[])).2.2,[]),0)
 else(fs,7)
theorem Dt (name:Y0) (c1:Nat) (w0:World) (h1:w0.cell? ⟨c1,0,none⟩=some (.string (bs name))):s8 206 #[.pointer (some ⟨c1,0,none⟩)] (jr name) w0:=by
 intro wb w q A n cap u fs g0 gc hd hgf;show Calls Ao 206 #[.pointer (some ⟨q,0,none⟩),.pointer (some ⟨c1,0,none⟩)] w _
 have hl:=hd.len;have J:fs.length<=400:=kZ hgf;have e1:w.cell? ⟨c1,0,none⟩=some (.string (bs name)):=((g0.trans gc).cells.1 c1 _ (World.block_lt_of_cell? w0 _ h1)).trans h1
 have HD:=aa hd;have HS:=aa (ew hgf);have L:=aa gc;have y:=aa hgf;have d0:w.cell? ⟨q,0,none⟩=some (.slice A n cap):=hd.blk.cell 0;have d1:w.cell? ⟨q,1,none⟩=some (.int .i64 u):=hd.blk.cell 1;clear h1 g0 gc hd hgf;obtain⟨k,hk⟩:=zq (bJ name fs);have HK:=aa hk;clear hk;cases hB:cS name fs with|false=>have HR:ab (jr name fs=(fs,7)):=aa (by unfold jr;rw[hB];rfl);have HB:=aa hB;clear hB;(go_enter Tryz.func206,Tryz.ntmps206);(go_upto_region 1 with fail);(go_cut [4,5]from 7 to 37 (λv5 v6 wx=>v5=.int .i64 (k:Int)/\v6=.bool false/\Gr w wx));(case first=>exact zau);case rest=>exact zcS|true=>(have hX:=kO HS.o hB;rw[<-HK.o]at hX;obtain⟨S,La⟩:=hX;have HB:=aa hB;clear hB;(go_enter Tryz.func206,Tryz.ntmps206);(go_upto_region 1 with fail);(go_cut [4,5]from 7 to 37 (λv5 v6 wx=>v5=.int .i64 (k:Int)/\v6=.bool true/\Gr w wx));(case first=>exact zau);case rest=>obtain⟨rfl,rfl,gx⟩:=hcut;have d:=aa (HD.o.gr gx);have Q:Gr wb wc:=L.o.trans gx;clear d0 d1 e1 HD gx;have Kn:(k:Int)<(n:Int):=om;obtain⟨b,rfl,R,Nh,z0,z1,z2,V⟩:=d.o.at S;have Kt:wc.frozen? ⟨b,k*3+1,none⟩=false:=V 1 om;have Kg:wc.frozen? ⟨b,k*3+2,none⟩=false:=V 2 om;have i:fs[k]?=some fs[k]:=List.getElem?_eq_getElem S;(have G:fs.getD (bJ name fs) ([],[],[])=fs[k]:=zdN);have hsz:=iK y.o fs[k] (List.getElem_mem S);obtain⟨x,P⟩:=zq (fs[k]);rw[<-P]at z0 z1 z2 i G hsz;clear P La S V;obtain⟨nm,z,v⟩:=x;simp only at z0 z1 z2 hsz;obtain⟨_,M,T⟩:=hsz;have O:wc.cell? ⟨q,0,none⟩=some (.slice (some ⟨b,0,none⟩) n cap):=d.o.blk.cell 0;have HR:ab (jr name fs=(fs.set k (nm,z++v,[]),0)):=aa (by unfold jr;rw[HB.o,if_pos rfl,G,<-HK.o]);have N:ab (∀W,Gr wc W->eh ((W.setCell ⟨b,k*3+1,none⟩ (.string (bs (z++v)))).setCell ⟨b,k*3+2,none⟩ (.string (bs []))) wb.heap.size q (some ⟨b,0,none⟩) n cap u (fs.set k (nm,z++v,[]))):=aa (λW g=>⟨((d.o.gr g).blk.far (p:=⟨b,k*3+1,none⟩) (Ne.symm Nh) _).far (p:=⟨b,k*3+2,none⟩) (Ne.symm Nh) _,p8 (d.o.gr g).own k nm z v (z++v) [] i,d.o.base⟩);have a:ab (∀W,Gr wc W->Gr wb ((W.setCell ⟨b,k*3+1,none⟩ (.string (bs (z++v)))).setCell ⟨b,k*3+2,none⟩ (.string (bs [])))):=aa (λW g=>((Q.trans g).setCell (p:=⟨b,k*3+1,none⟩) R _).setCell (p:=⟨b,k*3+2,none⟩) R _);clear i G;(go_wp2_with fail);(go_region);(go_wp2_with fail);go_ret;rw[HR.o];exact⟨rfl,(a.o _ (B4 _)).drew,λ_=>⟨_,_,_,(N.o _ (B4 _)).gr (B4 _).drew⟩⟩)
theorem xK (name:Y0) (fs:List Fl) (A:Yy) (n cap:Nat) (f:Int) (w:World) (hn:n<=1099511627776) (hx:aO w A n fs) (hA:A=none->n=0/\cap=0) (hs:∀f∈fs,f.1.length<=1099511627776/\f.2.1.length<=1099511627776/\f.2.2.length<=1099511627776) (hf:-9223372036854775808<=f/\f<=9223372036854775807):Calls Ao 174 #[aI A n cap f,.string (bs name)] w (bI (cj (jr name) fs f) A n cap fs w):=by
 have I:=(B4 w).alloc (.cells #[.slice A n cap,.int .i64 f] 36)
 have Z:=I.alloc (.cells #[.string (bs name)] 9);have g4:=Z.alloc (.cells #[.slice none 0 0,.int .i64 0] 36);have b1:=((ag.new w 36 #[.slice A n cap,.int .i64 f]).alloc (.cells #[.string (bs name)] 9)).alloc (.cells #[.slice none 0 0,.int .i64 0] 36)
 have b2:=(ag.new1 w (.cells #[.slice A n cap,.int .i64 f] 36) 9 #[.string (bs name)]).alloc (.cells #[.slice none 0 0,.int .i64 0] 36)
 have b4:=ag.newAt (w:=((w.alloc (.cells #[.slice A n cap,.int .i64 f] 36)).alloc (.cells #[.string (bs name)] 9))) (g:=w.heap.size+1+1) (by simp) 36 #[.slice none 0 0,.int .i64 0];obtain⟨J,H⟩:=zq ((((w.alloc (.cells #[.slice A n cap,.int .i64 f] 36)).alloc (.cells #[.string (bs name)] 9))).alloc (.cells #[.slice none 0 0,.int .i64 0] 36));rw[<-H]at b1 b2 b4 g4;obtain⟨p,V⟩:=zq (w.heap.size);have Kd:w.heap.size<=p:=om;rw[<-V]at b1 b2 b4;have c0:J.cell? ⟨p,0,none⟩=some (.slice A n cap):=b1.cell 0;have c1:J.cell? ⟨p,1,none⟩=some (.int .i64 f):=b1.cell 1;have HS:=aa (pr 206 #[.pointer (some ⟨p+1,0,none⟩)] (jr name) (eV Tryz.func206 zc0 rfl) fs A n cap f J hn (hx.gr g4) hA hs hf (Dt name (p+1) J (b2.cell 0)));have v:=aa b4;have Mc:=aa g4;clear hx hA hs I Z g4 b1 b2 b4;unfold aI at HS;unfold aI;have Nc:∀(fn:Fn) (first cap:Array Value) (w:World),(Instr.makeFunc fn first cap).run Ao w=.ok (.func fn first cap) w:=λ_ _ _ _=>rfl
 obtain⟨R,hR⟩:=zq (cj (jr name) fs f);rw[<-hR]at HS;rw[<-hR];clear hR;obtain⟨a,m,Y⟩:=R;go_enter Tryz.func174,Tryz.ntmps174
 exact zaw
theorem uY (i:Nat) (f:Fl) (fs:List Fl):(fD i f fs).length<=fs.length+1:=by unfold fD;simp;omega
theorem Gh (name s:Y0) (fs:List Fl):(iw name s fs).1.length<=fs.length+1:=by
 have h1:(dF name fs).length<=fs.length+1:=by unfold dF;split;(. omega);. exact uY _ _ _
 unfold iw;split;. split;(. simp);. split;(. simpa using h1);. simp
 . simp
theorem Hl (name:Y0) (fs:List Fl):(jr name fs).1.length<=fs.length+1:=by
 unfold jr;split<;>simp
theorem GM (name:Y0) (fs:List Fl):(j5 name fs).1.length<=fs.length+1:=by
 unfold j5;split;. (have:=(List.eraseIdx_sublist fs (bJ name fs)).length_le);simp only;omega
 . simp
theorem F9 (frm dst:Y0) (fs:List Fl):(iN frm dst fs).1.length<=fs.length+1:=by
 unfold iN;split;. split;(. (have h1:=(List.eraseIdx_sublist fs (bJ frm fs)).length_le);simp only;unfold pq;split;(. simp only[List.length_set];omega);. have:=uY (bJ dst (fs.eraseIdx (bJ frm fs))) (dst,(fs.getD (bJ frm fs) ([],[],[])).2) (fs.eraseIdx (bJ frm fs));omega);. simp
 . simp
structure gO (w0:World) (p:Nat) (A0:Yy) (n0 cap0:Nat) (fs0:List Fl) (w:World) (A:Yy) (n cap:Nat) (f:Int) (fs:List Fl):Prop where
 g:Gr w0 w
 bp:ag w p 36 #[(A,n,cap),f]
 bq:ag w (p+1) 36 #[n_,i0]
 nil:A=none->n=0/\cap=0
 le:n<=cap
 alt:(A=A0/\n=n0/\cap=cap0/\fs=fs0)\/w.ownsRow (p+2) 70 3 (A,n,cap) n (fs.flatMap ap)
theorem gO.row {w0 w:World} {p n0 cap0 n cap:Nat} {A0 A:Yy} {f:Int} {b fs:List Fl} (h:gO w0 p A0 n0 cap0 b w A n cap f fs) (hx:aO w0 A0 n0 b):aO w A n fs:=by
 rcases h.alt with⟨rfl,rfl,_,rfl⟩|h1;. exact hx.gr h.g
 . exact ak.own h1
theorem gO.gr {w0 w w':World} {p n0 cap0 n cap:Nat} {A0 A:Yy} {f:Int} {b fs:List Fl} (h:gO w0 p A0 n0 cap0 b w A n cap f fs) (hg:Gr w w'):gO w0 p A0 n0 cap0 b w' A n cap f fs:=
 ⟨h.g.trans hg,h.bp.gr hg,h.bq.gr hg,h.nil,h.le,h.alt.elim .inl (λh1=>.inr (av h1 hg))⟩
theorem gO.facts {w0 w:World} {p n0 cap0 n cap:Nat} {A0 A:Yy} {f:Int} {b fs:List Fl} (h:gO w0 p A0 n0 cap0 b w A n cap f fs):
 w.cell? (p,0)=(A,n,cap)/\w.cell? (p,1)=f/\w.frozen? (p,0)=false/\w.frozen? (p,1)=false∧
 w.cell? (p+1,0)=n_/\w.cell? (p+1,1)=i0/\w.frozen? (p+1,0)=false/\w.frozen? (p+1,1)=false:=
 ⟨h.bp.cell 0,h.bp.cell 1,h.bp.frozen 0,h.bp.frozen 1,h.bq.cell 0,h.bq.cell 1,h.bq.frozen 0,h.bq.frozen 1⟩
theorem gO.next {w0 w w':World} {p n0 cap0 n cap n' D:Nat} {A0 A U:Yy} {f u:Int} {b fs gs:List Fl} (h:gO w0 p A0 n0 cap0 b w A n cap f fs) (V:p=w0.heap.size) (hg:Gr w w') (X:U=none->n'=0/\D=0) (hr:(U=A/\n'=n/\D=cap/\gs=fs)\/w'.ownsRow w.heap.size 70 3 (U,n',D) n' (gs.flatMap ap)):gO w0 p A0 n0 cap0 b ((w'.setCell (p,0) (U,n',D)).setCell (p,1) u) U n' D u gs:=by
 have x:w0.heap.size<=p:=om;have hq:=h.bq.lt;refine⟨((h.g.trans hg).setCell (p:=⟨p,0,none⟩) x _).setCell (p:=⟨p,1,none⟩) x _,((h.bp.gr hg).set_ 0 _).set_ 1 _,((h.bq.gr hg).far (p:=⟨p,0,none⟩) ze8 _).far (p:=⟨p,1,none⟩) ze8 _,X,bI.cap (r:=(gs,u,0)) h.le hr,?_⟩;have N:∀B,p+2<=B->w'.ownsRow B 70 3 (U,n',D) n' (gs.flatMap ap)->((w'.setCell (p,0) (U,n',D)).setCell (p,1) u).ownsRow (p+2) 70 3 (U,n',D) n' (gs.flatMap ap):=λB hB ho=>by(have hne:(Value.slice U n' D).ownBlock≠some p:=λe=>by have:=(ho.lt _ e).1;omega);exact zcX
 exact zbj
theorem gO.done {w0 w:World} {p n0 cap0 n cap:Nat} {A0 A:Yy} {f:Int} {b fs:List Fl} (h:gO w0 p A0 n0 cap0 b w A n cap f fs) (V:p=w0.heap.size):ag ((w.setCell (p+1,0) (A,n,cap)).setCell (p+1,1) f) (p+1) 36 #[(A,n,cap),f]∧Gr w0 ((w.setCell (p+1,0) (A,n,cap)).setCell (p+1,1) f)/\(A=none->n=0/\cap=0)∧((A=A0/\n=n0/\cap=cap0/\fs=b)\/((w.setCell (p+1,0) (A,n,cap)).setCell (p+1,1) f).ownsRow w0.heap.size 70 3 (A,n,cap) n (fs.flatMap ap)):=by
 have x:w0.heap.size<=p+1:=om;refine⟨(h.bq.set_ 0 _).set_ 1 _,(h.g.setCell (p:=⟨p+1,0,none⟩) x _).setCell (p:=⟨p+1,1,none⟩) x _,h.nil,?_⟩;rcases h.alt with h1|h1;. exact .inl h1
 . (have hne:(Value.slice A n cap).ownBlock≠some (p+1):=λe=>by have:=(h1.lt _ e).1;omega);exact .inr (eJ (ownsRow_setCell_other (ownsRow_setCell_other h1 (a:=⟨p+1,0,none⟩) hne _) (a:=⟨p+1,1,none⟩) hne _) om)
theorem gO.last {w0 w w':World} {p n0 cap0 n cap n' D:Nat} {A0 A U:Yy} {f u:Int} {b fs gs:List Fl} (h:gO w0 p A0 n0 cap0 b w A n cap f fs) (V:p=w0.heap.size) (hg:Gr w w') (X:U=none->n'=0/\D=0) (hr:(U=A/\n'=n/\D=cap/\gs=fs)\/w'.ownsRow w.heap.size 70 3 (U,n',D) n' (gs.flatMap ap)):ag ((w'.setCell (p+1,0) (U,n',D)).setCell (p+1,1) u) (p+1) 36 #[(U,n',D),u]∧Gr w0 ((w'.setCell (p+1,0) (U,n',D)).setCell (p+1,1) u)/\(U=none->n'=0/\D=0)∧((U=A0/\n'=n0/\D=cap0/\gs=b)\/((w'.setCell (p+1,0) (U,n',D)).setCell (p+1,1) u).ownsRow w0.heap.size 70 3 (U,n',D) n' (gs.flatMap ap)):=by
 have x:w0.heap.size<=p+1:=om;have hq:=h.bq.lt;refine⟨((h.bq.gr hg).set_ 0 _).set_ 1 _,((h.g.trans hg).setCell (p:=⟨p+1,0,none⟩) x _).setCell (p:=⟨p+1,1,none⟩) x _,X,?_⟩;have N:∀B,p+2<=B->w'.ownsRow B 70 3 (U,n',D) n' (gs.flatMap ap)->((w'.setCell (p+1,0) (U,n',D)).setCell (p+1,1) u).ownsRow w0.heap.size 70 3 (U,n',D) n' (gs.flatMap ap):=λB hB ho=>by(have hne:(Value.slice U n' D).ownBlock≠some (p+1):=λe=>by have:=(ho.lt _ e).1;omega);exact eJ (ownsRow_setCell_other (ownsRow_setCell_other ho (a:=⟨p+1,0,none⟩) hne _) (a:=⟨p+1,1,none⟩) hne _) om
 exact zbj
def Sz (fs:List Fl):Prop:=fs.length<=1048576/\∀f∈fs,f.1.length<=1099511627776/\f.2.1.length<=1099511627776/\f.2.2.length<=1099511627776
theorem Cc {s:Y0} (h:em s=true):s.length<=80:=by
 unfold em at h;simp only[Bool.and_eq_true,decide_eq_true_eq]at h;omega
theorem tX {fs:List Fl} (h:aQ fs=true):fs.length<=400/\∀f∈fs,f.1.length<=80/\f.2.1.length<=1048576/\f.2.2.length<=1048576:=by
 refine⟨kZ h,λf hf=>?_⟩;have:=iK h f hf;exact⟨Cc this.1,this.2.1,om⟩
theorem gL {F:List Fl->List Fl×Int} (hF:∀fs,aQ fs=true->Sz (F fs).1) {fs:List Fl} (f:Int) (h:Sz fs):Sz (cj F fs f).1:=by
 unfold cj;cases hg:aQ fs with|false=>exact h|true=>simp only[if_true];split;(. exact h);. split;(. exact hF fs hg);. exact h
theorem eT {F:List Fl->List Fl×Int} {fs:List Fl} {f:Int} (h:-9223372036854775808<=f/\f<=9223372036854775807):-9223372036854775808<=(cj F fs f).2.1/\(cj F fs f).2.1<=9223372036854775807:=by
 unfold cj;split;. split;(. exact h);. split;(. simp only;split<;>omega);. exact h
 . exact h
theorem vD {fs gs:List Fl} (h:aQ fs=true) (hl:gs.length<=fs.length+1) (hm:∀f∈gs,f∈fs\/(f.1.length<=1099511627776/\f.2.1.length<=1099511627776/\f.2.2.length<=1099511627776)):Sz gs:=by
 obtain⟨h1,h2⟩:=tX h;refine⟨om,λf hf=>?_⟩;rcases hm f hf with h3|h3;. have:=h2 f h3;omega
 . exact h3
theorem xc {i:Nat} {f x:Fl} {fs:List Fl} (h:x∈fD i f fs):x∈fs\/x=f:=by
 unfold fD at h;rcases List.mem_append.1 h with h|h
 . exact .inl (List.mem_of_mem_take h)
 . (rcases List.mem_cons.1 h with h|h);(. exact .inr h);. exact .inl (List.mem_of_mem_drop h)
theorem zO {fs:List Fl} (h:aQ fs=true) (i:Nat):(fs.getD i ([],[],[])).1.length<=80/\(fs.getD i ([],[],[])).2.1.length<=1048576/\(fs.getD i ([],[],[])).2.2.length<=1048576:=by
 rw[List.getD_eq_getElem?_getD];cases he:fs[i]? with|none=>simp|some x=>exact(tX h).2 x (List.mem_of_getElem? he)
theorem Dl (name:Y0) (fs:List Fl) (h:aQ fs=true):Sz (j5 name fs).1:=
 vD h (GM name fs) (λf hf=>by
  unfold j5 at hf
  split at hf
  . exact .inl ((List.eraseIdx_sublist fs _).subset hf)
  . exact .inl hf)
theorem yj (name:Y0) (fs:List Fl) (h:aQ fs=true):Sz (jr name fs).1:=
 vD h (Hl name fs) (λf hf=>by
  unfold jr at hf
  split at hf
  . rcases List.mem_or_eq_of_mem_set hf with h1|h1
    . exact .inl h1
    . have:=zO h (bJ name fs)
      rw[h1]
      exact .inr ⟨by simp only;omega,by simp only[List.length_append];omega,by simp⟩
  . exact .inl hf)
theorem wN (frm dst:Y0) (hd:dst.length<=1099511627776) (fs:List Fl) (h:aQ fs=true):Sz (iN frm dst fs).1:=
 vD h (F9 frm dst fs) (λf hf=>by
  have hg:=zO h (bJ frm fs)
  unfold iN at hf
  split at hf
  . split at hf
    . simp only at hf
      unfold pq at hf
      split at hf
      . rcases List.mem_or_eq_of_mem_set hf with h1|h1
        . exact .inl ((List.eraseIdx_sublist fs _).subset h1)
        . rw[h1]
          exact .inr ⟨hd,by simp only;omega,by simp only;omega⟩
      . rcases xc hf with h1|h1
        . exact .inl ((List.eraseIdx_sublist fs _).subset h1)
        . rw[h1]
          exact .inr ⟨hd,by simp only;omega,by simp only;omega⟩
    . exact .inl hf
  . exact .inl hf)
theorem ww (name s:Y0) (hd:name.length<=1099511627776) (fs:List Fl) (h:aQ fs=true):Sz (iw name s fs).1:=
 vD h (Gh name s fs) (λf hf=>by
  have a:∀x∈dF name fs,x∈fs\/(x.1.length<=1099511627776/\x.2.1.length<=1099511627776/\x.2.2.length<=1099511627776):=λx hx=>by
   unfold dF at hx
   split at hx
   . exact .inl hx
   . rcases xc hx with h1|h1
     . exact .inl h1
     . rw[h1];exact .inr ⟨hd,by simp,by simp⟩
  unfold iw at hf
  split at hf
  . split at hf
    . exact .inl hf
    . split at hf
      . rename_i z
        rcases List.mem_or_eq_of_mem_set hf with h1|h1
        . exact a f h1
        . obtain⟨hk,La,_⟩:=yd name fs h
          have G:(dF name fs).getD (bJ name fs) ([],[],[])=(dF name fs)[bJ name fs]:=by
           rw[List.getD_eq_getElem?_getD,List.getElem?_eq_getElem hk];rfl
          rw[G]at z h1
          rw[h1]
          refine .inr ⟨by simp only;rw[La];exact hd,by simp only;omega,by simp only[List.length_append];omega⟩
      . exact .inl hf
  . exact .inl hf)
def cK:Y0:=[46,110,101,119]
def gj (fs:List Fl) (f:Int) (name:Y0):List Fl×Int×Int:=if cS (name++cK) fs then cj (j5 (name++cK)) fs f else(fs,f,0)
def fR (fs:List Fl) (f:Int) (name s:Y0):List Fl×Int×Int:=
 if(gj fs f name).2.2=0 then cj (iw (name++cK) s) (gj fs f name).1 (gj fs f name).2.1 else gj fs f name
def fp (fs:List Fl) (f:Int) (name s:Y0):List Fl×Int×Int:=
 if(fR fs f name s).2.2=0 then cj (jr (name++cK)) (fR fs f name s).1 (fR fs f name s).2.1 else fR fs f name s
def ie (fs:List Fl) (f:Int) (name s:Y0):List Fl×Int×Int:=
 if(fp fs f name s).2.2=0 then cj (iN (name++cK) name) (fp fs f name s).1 (fp fs f name s).2.1 else fp fs f name s
def aY (fs:List Fl) (f:Int) (name s:Y0):List Fl×Int×Int:=
 if aQ fs then(if em name&&em (name++cK)then ie fs f name s else(fs,f,2))else(fs,f,3)
theorem xi (fs:List Fl) (f:Int) (name s:Y0) (hl:name.length<=1048576) (hz:Sz fs):Sz (aY fs f name s).1:=by
 have hd:(name++cK).length<=1099511627776:=by rw[List.length_append];simp only[cK,List.length_cons,List.length_nil];omega
 have h0:Sz (gj fs f name).1:=by unfold gj;split;(. exact gL (Dl _) _ hz);. exact hz
 have h1:Sz (fR fs f name s).1:=by unfold fR;split;(. exact gL (ww _ _ hd) _ h0);. exact h0
 have h2:Sz (fp fs f name s).1:=by unfold fp;split;(. exact gL (yj _) _ h1);. exact h1
 have h3:Sz (ie fs f name s).1:=by unfold ie;split;(. exact gL (wN _ _ om) _ h2);. exact h2
 unfold aY;split;. split;(. exact h3);. exact hz
 . exact hz
def ca (id:Y0):Y0:=111::km id
theorem uH (id:Y0):(ca id).length=2*id.length+1:=by unfold ca;rw[List.length_cons,ug]
def dW (fs:List Fl) (id:Y0):Y0×Int:=
 if id.length=32 then(if(du fs (ca id)).2=0 then(if aj (du fs (ca id)).1=id then((du fs (ca id)).1,0)else([],5))else([],(du fs (ca id)).2))else([],2)
def gh (fs:List Fl) (f:Int) (s:Y0):List Fl×Int×Y0×Int:=
 if(cO s).2=0 then
  (if(dW fs (aj s)).2=0 then(fs,f,aj s,0)
   else if(aY fs f (ca (aj s)) s).2.2=0 then((aY fs f (ca (aj s)) s).1,(aY fs f (ca (aj s)) s).2.1,aj s,0)
   else((aY fs f (ca (aj s)) s).1,(aY fs f (ca (aj s)) s).2.1,[],(aY fs f (ca (aj s)) s).2.2))
 else(fs,f,[],(cO s).2)
def fk (fs:List Fl) (nm:Y0):Option (Y0):=
 if nm.head?=some 111 then(match eL (nm.drop 1)with|none=>none|some id=>if(dW fs id).2=0 then some id else none)else none
def nY (fs:List Fl):List (Y0):=fs.filterMap λf=>fk fs f.1
def gI (fs:List Fl):List (Y0):=(nY fs).map λid=>(dW fs id).1
theorem rS (fs:List Fl) (name:Y0):(du fs name).1.length<=1048576:=by
 unfold du;split;. rename_i h;split;(. rename_i h2;obtain⟨hi,_⟩:=kO (ew h) h2;have:=iK h _ (List.getElem_mem hi);simp only[List.getD_eq_getElem?_getD,List.getElem?_eq_getElem hi,Option.getD_some,List.length_append];omega);. simp
 . simp
theorem FY (fs:List Fl) (id:Y0):(dW fs id).1.length<=1048576:=by
 have:=rS fs (ca id);unfold dW;split;. split;(. split;(. exact this);. simp);. simp
 . simp
theorem Gc {fs:List Fl} {id:Y0} (h:(dW fs id).2=0):id.length=32/\aj (dW fs id).1=id:=by
 unfold dW at h⊢;split at h;. rename_i h1;split at h;(. rename_i h2;split at h;(. rename_i h3;rw[if_pos h1,if_pos h2,if_pos h3];exact⟨h1,h3⟩);. cases h);. rename_i h2;exact absurd h h2
 . cases h
theorem GQ (fs:List Fl) (f:Int) (s:Y0) (hz:Sz fs):Sz (gh fs f s).1:=by
 have h:=xi fs f (ca (aj s)) s (by rw[uH,br];omega) hz;unfold gh;split;. split;(. exact hz);. split;(. exact h);. exact h
 . exact hz
theorem u9:∀(n:Nat) (s:Y0),s.length<=n->∀{r:Y0},eL s=some r->s.length=2*r.length
 |_,[],_,r,h=>by simp only[eL,Option.some.injEq]at h;subst h;rfl
 |_,[_],_,r,h=>by cases h
 |0,a::b::t,hn,r,h=>by simp at hn
 |n+1,a::b::t,hn,r,h=>by
  rw[eL]at h
  split at h
  . cases ht:eL t with
    |none=>rw[ht]at h;cases h
    |some u=>
     rw[ht]at h
     simp only[Option.map_some,Option.some.injEq]at h
     subst h
     have:=u9 n t (by simp only[List.length_cons]at hn;omega) ht
     simp only[List.length_cons]
     omega
  . cases h
theorem Cs (fs l:List Fl) (i:Nat) (h:i<l.length):(l.take (i+1)).filterMap (λf=>fk fs f.1)=(l.take i).filterMap (λf=>fk fs f.1)++(match fk fs l[i].1 with|none=>[]|some id=>[id]):=by
 rw[List.take_succ_eq_append_getElem h,List.filterMap_append];congr 1;simp only[List.filterMap_cons,List.filterMap_nil];cases fk fs l[i].1<;>rfl
theorem xq (fs:List Fl):(nY fs).length<=fs.length:=List.length_filterMap_le _ _
theorem FU {fs:List Fl} {id:Y0} (h:id∈nY fs):(dW fs id).2=0:=by
 unfold nY at h;obtain⟨f,_,hf⟩:=List.mem_filterMap.1 h
 unfold fk at hf;split at hf;. split at hf;(. cases hf);. split at hf;(. injection hf with hf;subst hf;assumption);. cases hf
 . cases hf
section
open Go.RowKit Go.ChangeShapes Go.WideShapes
theorem dJ.up {k m:Nat} {s:aF} (h:dJ k s) (hk:k<=m):dJ m s:=⟨Nat.le_trans h.r hk,Nat.le_trans h.o hk,Nat.le_trans h.n hk,Nat.le_trans h.who hk,Nat.le_trans h.seals hk,λx hx=>Nat.le_trans (h.each x hx) hk⟩
end
theorem Bh (L:List (Y0)) (A:Yy) (n cap:Nat) (w:World) (hn:n<=1099511627776) (hx:aE w A n L) (hA:A=none->n=0/\cap=0):Calls Ao 110 #[(A,n,cap)] w λe w'=>∃U D,e=.returned (U,n,D)/\w'.ownsRow w.heap.size 9 1 (.slice U n D) n (L.map aC)/\Gr w w':=by
 cases A with|none=>(obtain⟨rfl,rfl⟩:=hA rfl;have hl:=hx.len;obtain rfl:L=[]:=List.eq_nil_of_length_eq_zero hl;(have hq:∀w,(eqGuard .eql 48 (.tmp 3) (.const n_) n_ n_).run Ao w=.ok () w:=zgN);(have hz:∀w,(binOp .eql 48 n_ n_).run Ao w=.ok true w:=λw=>Lib.run_eql_slice_nil w _ _ none 0 0 0 0 Tryz.underlying48);(go_enter Tryz.func110,Tryz.ntmps110);exact zcJ)|some ad=>(have hq:∀w,(eqGuard .eql 48 (.tmp 3) (.const n_) (.slice (some ad) n cap) n_).run Ao w=.ok () w:=zgN);(have hz:∀w,(binOp .eql 48 (.slice (some ad) n cap) n_).run Ao w=.ok false w:=λw=>Lib.run_eql_slice_nil w _ _ (some ad) n cap 0 0 Tryz.underlying48);have Ka:(0+n)*16<=140737488355328:=om;(have Kc:0+n<=maxLen:=zc1);have O:=aa hx;clear hx;(go_enter Tryz.func110,Tryz.ntmps110);(go_wp2_with(refine bQ E.str rfl (.tmp 5) (.tmp 6) rfl (B:=w.heap.size) (A0:=some ⟨w.heap.size,0,none⟩) (n0:=0) (cap0:=0) (xs:=[]) rfl (World.ownsRow_lit w #[] 0 (Dg _) (by simp) rfl) rfl (ak.gr O.o ((B4 w).alloc _)) hA (λv hv=>by obtain⟨l,_,rfl⟩:=List.mem_map.1 hv;rfl) Ka Kc (by simp) ?_;intro U c' w' N d));exact zaY
def lD (g:Nat) (caps:Array Value) (G:Tl) (w0:World):Prop:=
 ∀(W:World) (x:Y0),Gr w0 W->x.length<=1099511627776->Calls Ao g (#[.string (bs x)]++caps) W λe w'=>e=.returned (.tuple #[.string (bs (G x).1),.int .i64 (G x).2])/\Gr W w'
theorem lD.gr {g:Nat} {M:Array Value} {G:Tl} {w0 w1:World} (h:lD g M G w0) (k:Gr w0 w1):lD g M G w1:=λW x hW hx=>h W x (k.trans hW) hx
theorem rD (id:Y0) (w:World) (Kn:id.length<=1099511627776):Calls Ao 70 #[id] w λe w'=>e=.returned (ca id)/\Gr w w':=by
 have HH:=aa (Hy id w om);have hl:=ug id;obtain⟨X,hX⟩:=zq (km id);have HF:ab (ca id=111::X):=aa (by rw[hX];rfl);rw[<-hX]at HH hl;have Kt:¬9223372036854775807<1+X.length:=om;clear hX hl;go_enter Tryz.func70,Tryz.ntmps70
 go_wp2_with(go_at_call 115;(with_reducible refine Bo HH.o ?_);rintro e w1 ⟨rfl,I⟩)
 go_ret;rw[HF.o];exact⟨rfl,I⟩
theorem mr (fs:List Fl) (id:Y0) (A:Yy) (n cap:Nat) (f:Int) (w:World) (hn:n<=1099511627776) (hx:aO w A n fs) (hs:∀f∈fs,f.1.length<=1099511627776/\f.2.1.length<=1099511627776/\f.2.2.length<=1099511627776) (Kn:id.length<=1099511627776) (hT:bK w):Calls Ao 42 #[aI A n cap f,id] w λe w'=>e=.returned (.tuple #[(dW fs id).1,.int .i64 (dW fs id).2])/\Gr w w':=by
 have t:=(B4 w).alloc (.cells #[(A,n,cap),f] 36)
 have Ka:=ag.new w 36 #[(A,n,cap),f];obtain⟨J,H⟩:=zq (w.alloc (.cells #[(A,n,cap),f] 36));rw[<-H]at t Ka;obtain⟨p,V⟩:=zq (w.heap.size);rw[<-V]at Ka;have Ld:ab (∀W,Gr J W->Calls Ao 69 #[aI A n cap f,ca id] W λe w'=>e=.returned (.tuple #[(du fs (ca id)).1,.int .i64 (du fs (ca id)).2])/\Gr W w'):=aa (λW g=>wX fs (ca id) A n cap f W hn (hx.gr (t.trans g)) hs);have Lh:=rS fs (ca id);obtain⟨Kb,hV⟩:=zq (dW fs id);obtain⟨⟨r,Y⟩,hR⟩:=zq (du fs (ca id));have HV:ab (Kb=if id.length=32 then(if Y=0 then(if aj r=id then(r,0)else([],5))else([],Y))else([],2)):=aa (by rw[hV];unfold dW;rw[<-hR]);rw[<-hR]at Ld Lh;rw[<-hV];simp only at Lh Ld;unfold aI at Ld;unfold aI;have Lv:ab (∀W,Gr J W->Calls Ao 40 #[r] W λe w'=>e=.returned (aj r)/\Gr W w'):=aa (λW g=>jD r W ((hT.gr t).gr g) om);have F:ab (∀W,Gr J W->W.cell? (p,0)=(A,n,cap)/\W.cell? (p,1)=f/\Gr J W):=aa (λW g=>⟨(Ka.gr g).cell 0,(Ka.gr g).cell 1,g⟩);have c:=aa (λW=>rD id W Kn);obtain⟨X,hX⟩:=zq (ca id);rw[<-hX]at c Ld;clear hX;obtain⟨c0,c1,_⟩:=F.o J (B4 _);clear hx hs hV hR Ka hT;by_cases Kh:id.length=32;case neg=>(have q1:((id.length:Int)!=32)=true:=zc3);have O:ab (Kb=([],2)):=aa (by rw[HV.o,if_neg Kh]);clear Kh HV;(go_enter Tryz.func42,Tryz.ntmps42);(go_wp2_with fail);go_ret2;rw[O.o];rw[<-H];exact⟨rfl,t⟩
 have q1:((id.length:Int)!=32)=false:=zeC
 have Eq:ab (Kb=if Y=0 then(if aj r=id then(r,0)else([],5))else([],Y)):=aa (by rw[HV.o,if_pos Kh]);clear Kh HV;by_cases Ku:Y=0;case neg=>(have q2:(Y !=0)=true:=by rw[bne_iff_ne];exact Ku);have O:ab (Kb=([],Y)):=aa (by rw[Eq.o,if_neg Ku]);clear Ku Eq;(go_enter Tryz.func42,Tryz.ntmps42);(go_upto_region 3 with fail);rw[<-H,<-V];clear H V;(have gd:Gr J J.drew:=(B4 _).drew);(go_region_held3 (λw'=>w'.cell? (p,0)=(A,n,cap)/\w'.cell? (p,1)=f/\Gr J w') (first|with_reducible assumption|with_reducible exact F.o _ gd|with_reducible exact F.o _ I|with_reducible exact F.o _ Z|with_reducible exact F.o _ (B4 _)|fail) (first|(go_at_call 70;(with_reducible refine Bo (c.o J.drew) ?_);rintro e w1 ⟨rfl,a⟩;have I:Gr J w1:=Gr.trans gd a)|(go_at_call 69;(with_reducible refine Bo (Ld.o w1 I) ?_);rintro e w2 ⟨rfl,v⟩;have Z:Gr J w2:=Gr.trans I v)|fail));all_goals(go_wp2_with fail;go_ret2;rw[O.o];exact⟨rfl,t.trans Z⟩)
 subst Ku;cases hq:aj r==id with|true=>(have u:aj r=id:=zfM);have O:ab (Kb=(r,0)):=aa (by rw[Eq.o,if_pos rfl,if_pos u]);rw[u]at Lv;clear hq u Eq;exact zap|false=>((have u:¬aj r=id:=zfM);have O:ab (Kb=([],5)):=aa (by rw[Eq.o,if_pos rfl,if_neg u]);obtain⟨S,hS⟩:=zq (aj r);rw[<-hS]at Lv hq;clear u hS Eq;exact zap)
theorem M.ss:kH 221 9 9 (α:=Y0) Lit.string (λx=>.string (bs x)) (λx=>x.length<=maxLen) []:=
 yt Tryz.underlying221 Tryz.underlying9 Tryz.underlying9 (λw=>by kernel_rfl)
structure kf (w:World) (g:Nat) (A B:Yy) (n:Nat) (L:List (Y0×Nat)):Prop where
 txt:aE w A n (L.map (·.1))
 deep:ak w 1 B n (L.map λx=>ng (x.2:Int))
 na:∀b off,A=some ⟨b,off,none⟩->b≠g
 nb:∀b off,B=some ⟨b,off,none⟩->b≠g
theorem kf.only {w w':World} {g n:Nat} {A B:Yy} {L:List (Y0×Nat)} (h:kf w g A B n L) (hg:w.grownBy w' (some g)):kf w' g A B n L:=
 ⟨h.txt.only hg (λ_ b off e=>h.na b off e),h.deep.only hg (λ_ b off e=>h.nb b off e),h.na,h.nb⟩
theorem kf.len {w:World} {g n:Nat} {A B:Yy} {L:List (Y0×Nat)} (h:kf w g A B n L):L.length=n:=by have:=h.txt.len;simpa using this
theorem kf.cell {w:World} {g n:Nat} {A B:Yy} {L:List (Y0×Nat)} (h:kf w g A B n L) {i:Nat} (hi:i<L.length):∃b off b' Kl,A=some ⟨b,off,none⟩/\B=some ⟨b',Kl,none⟩/\w.cell? ⟨b,off+i,none⟩=some (.string (bs L[i].1))/\w.cell? ⟨b',Kl+i,none⟩=L[i].2:=by
 have hn:=h.len;obtain⟨b,off,hA,h1⟩:=h.txt.cell (i:=i) zfh;obtain⟨b',Kl,hB,hl,h2⟩:=h.deep.cell1 (i:=i) om;exact⟨b,off,b',Kl,hA,hB,by simpa using h1,by simpa[ng]using h2⟩
theorem C4 (g:Nat) (q:St) (L:List (Y0×Nat)) (A B:Yy) (n c c' m mc:Nat) (F:Y0->Option (Y0)) (w:World) (hr:an 196 w g q) (hl:kf w g A B n L) (hm:a6 9 9 Lit.string w m mc F) (Lp:m≠g) (hL:ue L) (hF:∀id x,F id=some x->x.length<=1048576) (hq:q.1.length<=35184372088832) (hn:n<=1099511627776):Calls Ao 177 #[(g,0),(A,n,c),(B,n,c'),.map (some m)] w λe w'=>e=.returned (.tuple #[(kh F L q).1.1,(kh F L q).1.2.1,(kh F L q).1.2.2])/\an 196 w' g (kh F L q).2/\w.grownBy w' (some g):=by
 have Lb:=hl.len;obtain⟨Kb,hV⟩:=zq (kh F L q);obtain⟨Kh,E⟩:=zq (aD q);obtain⟨⟨l,e1⟩,Kg⟩:=zq (ao q);have HV:ab (Kb=if e1≠0\/2<Kh then(([],0,2),(l,e1))else if Kh=0 then zI (l,e1)else if Kh=1 then zU L (l,e1)else zj F (l,e1)):=aa (by rw[hV,E];unfold kh;rw[<-Kg]);have Lq:l.length<=35184372088832:=by have:=fU q;rw[<-Kg]at this;simp only at this;omega
 have Kc:Kh<4611686018427387904:=by rw[E];exact lB q
 have f:ab (Calls Ao 72 #[(g,0)] w λe w'=>e=.returned Kh/\an 196 w' g (l,e1)/\w.grownBy w' (some g)):=aa (by rw[E,Kg];exact aW g q w hr);have a:ab (∀q W,an 196 W g q->Calls Ao 74 #[(g,0)] W λe w'=>e=.returned q.2/\W=w'):=aa (λq W h=>dD g q W h);have HN:=aa (λq W (h:an 196 W g q)=>aW g q W h);have Lf:=aa hl;have HM:=aa hm;have Il:=aa hL;have X:=aa hF;rw[<-hV];clear hV E Kg hr hl hm hL hF hq;by_cases Li:e1=0;case neg=>(have qb:((e1:Int)!=0)=true:=zc3);have O:ab (Kb=(([],0,2),(l,e1))):=aa (by rw[HV.o,if_pos (.inl Li)]);clear Li;exact zdW
 subst Li;by_cases K:2<Kh;. have qh:(2:Int)<(Kh:Int):=om;have O:ab (Kb=(([],0,2),(l,0))):=aa (by rw[HV.o,if_pos (.inr K)]);clear K;exact zdW
 have Eq:ab (Kb=if Kh=0 then zI (l,0)else if Kh=1 then zU L (l,0)else zj F (l,0)):=aa (by rw[HV.o,if_neg om]);clear HV;by_cases h0:Kh=0;. subst h0;obtain⟨k,hk⟩:=zq (aD (l,0));obtain⟨q2,Kk⟩:=zq (ao (l,0));obtain⟨x,hx⟩:∃x,x=cu (k:Int) q2:=⟨_,rfl⟩;obtain⟨⟨s3,e3⟩,P⟩:∃x,x=aN (k:Int) q2:=⟨_,rfl⟩;(have S:k<4611686018427387904:=by rw[hk];exact lB _);have Kf:ab (Kb=if e3≠0 then(([],0,2),(s3,e3))else((x,0,0),(s3,e3))):=aa (by rw[Eq.o,if_pos rfl];unfold zI;rw[<-hk,<-Kk,<-hx,<-P]);have Y:ab (∀W,an 196 W g (l,0)->Calls Ao 72 #[(g,0)] W λe w'=>e=.returned k/\an 196 w' g q2/\W.grownBy w' (some g)):=aa (λW h=>by rw[hk,Kk];exact aW g (l,0) W h);have H3:ab (∀W,an 196 W g q2->Calls Ao 75 #[(g,0),k] W λe w'=>e=.returned (.string (bs x))/\an 196 w' g (s3,e3)/\W.grownBy w' (some g)):=aa (λW h=>by rw[hx,P];exact iE g q2 (k:Int) W h om);clear hk Kk hx P Eq;by_cases Ni:e3=0;(. subst Ni;have O:ab (Kb=((x,0,0),(s3,0))):=aa (by rw[Kf.o,if_neg (by simp)]);exact zcu);. (have qb:((e3:Int)!=0)=true:=zc3);have O:ab (Kb=(([],0,2),(s3,e3))):=aa (by rw[Kf.o,if_pos Ni]);clear Ni;exact zcu
 have q0:((Kh:Int)==0)=false:=zc2
 by_cases h1:Kh=1;. subst h1;obtain⟨k,hk⟩:=zq (aD (l,0));obtain⟨⟨s2,e2⟩,Kk⟩:=zq (ao (l,0));(have S:k<4611686018427387904:=by rw[hk];exact lB _);(have Lz:s2.length<=35184372088832:=by have:=fU (l,0);rw[<-Kk]at this;simp only at this;omega);have Kf:ab (Kb=if e2≠0 then(([],0,2),(s2,e2))else(match L[k]? with|none=>(([],0,3),(s2,e2))|some x=>ru (s2,e2) x.1 x.2)):=aa (by rw[Eq.o,if_neg (by simp),if_pos rfl];unfold zU;rw[<-hk,<-Kk];try rfl);have Y:ab (∀W,an 196 W g (l,0)->Calls Ao 72 #[(g,0)] W λe w'=>e=.returned k/\an 196 w' g (s2,e2)/\W.grownBy w' (some g)):=aa (λW h=>by rw[hk,Kk];exact aW g (l,0) W h);clear hk Kk Eq;by_cases R:e2=0;(case neg=>(have qb:((e2:Int)!=0)=true:=zc3);have O:ab (Kb=(([],0,2),(s2,e2))):=aa zhw;clear R;exact zdu);subst R;by_cases C:n<=k;(. have qk:(n:Int)<=(k:Int):=om;have O:ab (Kb=(([],0,3),(s2,0))):=aa (by rw[Kf.o,if_neg (by simp),List.getElem?_eq_none om]);clear C;exact zdu);have qk:¬(n:Int)<=(k:Int):=om;have J:k<L.length:=om;have o:=aa (λW (h:kf W g A B n L)=>h.cell J);have Q:=Il.o.len _ (List.getElem_mem J);have H:=Il.o.deep _ (List.getElem_mem J);have Km:ab (Kb=ru (s2,0) L[k].1 L[k].2):=aa (by rw[Kf.o,if_neg (by simp),List.getElem?_eq_getElem J]);obtain⟨y,hy⟩:=zq (L[k]);rw[<-hy]at Km o Q H;clear hy Kf C;obtain⟨d,u⟩:=y;simp only at Km o Q H;have Pj:k<=1099511627776:=om;clear J;obtain⟨T,hT⟩:=zq (cx (s2,0));obtain⟨⟨z,e4⟩,v⟩:=zq (aS (s2,0));(have N:T.length<=35184372088832:=zgE);have D:ab (Kb=if e4≠0 then(([],0,2),(z,e4))else if 8<=u then(([],0,10),(z,e4))else(((fJ d T).1,u+1,(fJ d T).2),(z,e4))):=aa zhX;have H4:ab (∀W,an 196 W g (s2,0)->Calls Ao 73 #[(g,0)] W λe w'=>e=.returned T/\an 196 w' g (z,e4)/\W.grownBy w' (some g)):=aa (λW h=>by rw[hT,v];exact mU g (s2,0) W h);obtain⟨Ka,t⟩:=zq (fJ d T);have HA:ab (∀W,Calls Ao 209 #[d,T] W λe w'=>e=.returned (.tuple #[Ka.1,Ka.2])/\Gr W w'):=aa (λW=>by rw[t];exact CG d T W om N);rw[<-t]at D;clear hT v t Km;by_cases p:e4=0;(case neg=>(have qb:((e4:Int)!=0)=true:=zc3);have O:ab (Kb=(([],0,2),(z,e4))):=aa (by rw[D.o,if_pos p]);clear p H;exact zah);subst p;by_cases h8:8<=u;(. have q8:(8:Int)<=(u:Int):=om;have O:ab (Kb=(([],0,10),(z,0))):=aa (by rw[D.o,if_neg (by simp),if_pos h8]);clear h8 H;exact zah);. have q8:¬(8:Int)<=(u:Int):=om;have O:ab (Kb=((Ka.1,u+1,Ka.2),(z,0))):=aa (by rw[D.o,if_neg (by simp),if_neg h8]);clear h8;(go_enter Tryz.func177,Tryz.ntmps177);(go_upto_region 23 with(first|(go_at_call 74;(with_reducible refine Bo (a.o _ _ d4) ?_);rintro e G ⟨rfl,rfl⟩;dsimp only)|(go_at_call 73;(with_reducible refine Bo (H4.o _ (d2.gr ((B4 _).drewN _))) ?_);rintro e w4 ⟨rfl,d4,g4⟩;have G4:=aM (aM G2 (fO ((B4 _).drewN _) (some g))) g4)|(go_at_call 209;(with_reducible refine Bo (HA.o _) ?_);rintro e w5 ⟨rfl,g5⟩;have d5:=d4.gr g5;have V:=aM G4 (fO g5 (some g)))|(go_at_call 74;(with_reducible refine Bo (a.o _ _ d2) ?_);rintro e G ⟨rfl,rfl⟩;dsimp only)|(go_at_call 72;(with_reducible refine Bo f.o ?_);rintro e w1 ⟨rfl,d1,I⟩)|(go_at_call 72;(with_reducible refine Bo (Y.o _ d1) ?_);rintro e w2 ⟨rfl,d2,Z⟩;have G2:=aM I Z;obtain⟨b,off,b',Kl,i,j,z1,z2⟩:=o.o _ (Lf.o.only G2);subst i;subst j)|(go_at_call 74;(with_reducible refine Bo (a.o _ _ d1) ?_);rintro e G ⟨rfl,rfl⟩;dsimp only)));(go_quiet (fail));(go_wp2_with(first|(go_at_call 74;(with_reducible refine Bo (a.o _ _ d4) ?_);rintro e G ⟨rfl,rfl⟩;dsimp only)|(go_at_call 73;(with_reducible refine Bo (H4.o _ (d2.gr ((B4 _).drewN _))) ?_);rintro e w4 ⟨rfl,d4,g4⟩;have G4:=aM (aM G2 (fO ((B4 _).drewN _) (some g))) g4)|(go_at_call 209;(with_reducible refine Bo (HA.o _) ?_);rintro e w5 ⟨rfl,g5⟩;have d5:=d4.gr g5;have V:=aM G4 (fO g5 (some g)))|(go_at_call 74;(with_reducible refine Bo (a.o _ _ d2) ?_);rintro e G ⟨rfl,rfl⟩;dsimp only)|(go_at_call 72;(with_reducible refine Bo f.o ?_);rintro e w1 ⟨rfl,d1,I⟩)|(go_at_call 72;(with_reducible refine Bo (Y.o _ d1) ?_);rintro e w2 ⟨rfl,d2,Z⟩;have G2:=aM I Z;obtain⟨b,off,b',Kl,i,j,z1,z2⟩:=o.o _ (Lf.o.only G2);subst i;subst j)|(go_at_call 74;(with_reducible refine Bo (a.o _ _ d1) ?_);rintro e G ⟨rfl,rfl⟩;dsimp only)));(go_ret3);rw[O.o];exact⟨rfl,d5,V⟩
 have q1:((Kh:Int)==1)=false:=zc2
 obtain⟨id,Kn⟩:=zq (cu 32 (l,0));obtain⟨⟨s2,e2⟩,Kk⟩:=zq (aN 32 (l,0));have U:id.length<=maxLen:=by have:=ly (l,0);rw[<-Kn]at this;unfold maxLen;omega
 have Lz:s2.length<=35184372088832:=by have:=kn 32 (l,0);rw[<-Kk]at this;simp only at this;omega
 have Kf:ab (Kb=if e2≠0 then(([],0,2),(s2,e2))else(match F id with|none=>(([],0,11),(s2,e2))|some x=>ru (s2,e2) x 0)):=aa (by rw[Eq.o,if_neg h0,if_neg h1];unfold zj;rw[<-Kn,<-Kk];try rfl);have Y:ab (∀W,an 196 W g (l,0)->Calls Ao 75 #[(g,0),.int .i64 32] W λe w'=>e=.returned id/\an 196 w' g (s2,e2)/\W.grownBy w' (some g)):=aa (λW h=>by rw[Kn,Kk];exact iE g (l,0) 32 W h om);have s:¬(2:Int)<(Kh:Int):=om;have hne:some m≠some g:=λe=>Lp zgR;clear Kn Kk Eq h0 h1 K;by_cases R:e2=0;case neg=>(have qb:((e2:Int)!=0)=true:=zc3);have O:ab (Kb=(([],0,2),(s2,e2))):=aa zhw;clear R;(go_enter Tryz.func177,Tryz.ntmps177);(go_wp2_with(first|(go_at_call 74;(with_reducible refine Bo (a.o _ _ d2) ?_);rintro e G ⟨rfl,rfl⟩;dsimp only)|(go_at_call 72;(with_reducible refine Bo f.o ?_);rintro e w1 ⟨rfl,d1,I⟩)|(go_at_call 75;(with_reducible refine Bo (Y.o _ d1) ?_);rintro e w2 ⟨rfl,d2,Z⟩;have G2:=aM I Z)|(go_at_call 74;(with_reducible refine Bo (a.o _ _ d1) ?_);rintro e G ⟨rfl,rfl⟩;dsimp only)));(go_ret3);rw[O.o];exact⟨rfl,d2,G2⟩
 subst R;cases hFi:F id with|none=>have O:ab (Kb=(([],0,11),(s2,0))):=aa zif;have Le:ab ((F id).getD []=[]):=aa zhz;have Ko:ab ((F id).isSome=false):=aa zhz;clear hFi Kf;(go_enter Tryz.func177,Tryz.ntmps177);(go_wp2_with(first|(go_at_call 74;(with_reducible refine Bo (a.o _ _ d2) ?_);rintro e G ⟨rfl,rfl⟩;dsimp only)|(go_at_call 72;(with_reducible refine Bo f.o ?_);rintro e w1 ⟨rfl,d1,I⟩)|(go_at_call 75;(with_reducible refine Bo (Y.o _ d1) ?_);rintro e w2 ⟨rfl,d2,Z⟩;have G2:=aM I Z)|(go_at_call 74;(with_reducible refine Bo (a.o _ _ d1) ?_);rintro e G ⟨rfl,rfl⟩;dsimp only)|(refine eX M.ss rfl (.tmp 30) (.tmp 31) rfl rfl (HM.o.kept G2 hne) rfl U (r:=[]) (q:=false) Le.o Ko.o ?_)));(go_ret3);rw[O.o];exact⟨rfl,d2,G2⟩|some d=>(have Km:ab (Kb=ru (s2,0) d 0):=aa zif;have Q:=X.o _ _ hFi;have Le:ab ((F id).getD []=d):=aa zhz;have Ko:ab ((F id).isSome=true):=aa zhz;have H:(0:Nat)<=8:=om;clear hFi Kf;obtain⟨T,hT⟩:=zq (cx (s2,0));obtain⟨⟨z,e4⟩,v⟩:=zq (aS (s2,0));(have N:T.length<=35184372088832:=zgE);have D:ab (Kb=if e4≠0 then(([],0,2),(z,e4))else if 8<=0 then(([],0,10),(z,e4))else(((fJ d T).1,0+1,(fJ d T).2),(z,e4))):=aa zhX;have H4:ab (∀W,an 196 W g (s2,0)->Calls Ao 73 #[(g,0)] W λe w'=>e=.returned T/\an 196 w' g (z,e4)/\W.grownBy w' (some g)):=aa (λW h=>by rw[hT,v];exact mU g (s2,0) W h);obtain⟨Ka,t⟩:=zq (fJ d T);have HA:ab (∀W,Calls Ao 209 #[d,T] W λe w'=>e=.returned (.tuple #[Ka.1,Ka.2])/\Gr W w'):=aa (λW=>by rw[t];exact CG d T W om N);rw[<-t]at D;clear hT v t Km;by_cases p:e4=0;(case neg=>(have qb:((e4:Int)!=0)=true:=zc3);have O:ab (Kb=(([],0,2),(z,e4))):=aa (by rw[D.o,if_pos p]);clear p H;(go_enter Tryz.func177,Tryz.ntmps177);(go_wp2_with(first|(go_at_call 74;(with_reducible refine Bo (a.o _ _ d4) ?_);rintro e G ⟨rfl,rfl⟩;dsimp only)|(go_at_call 73;(with_reducible refine Bo (H4.o _ d2) ?_);rintro e w4 ⟨rfl,d4,g4⟩;have G4:=aM G2 g4)|(go_at_call 209;(with_reducible refine Bo (HA.o _) ?_);rintro e w5 ⟨rfl,g5⟩;have d5:=d4.gr g5;have V:=aM G4 (fO g5 (some g)))|(go_at_call 74;(with_reducible refine Bo (a.o _ _ d2) ?_);rintro e G ⟨rfl,rfl⟩;dsimp only)|(go_at_call 72;(with_reducible refine Bo f.o ?_);rintro e w1 ⟨rfl,d1,I⟩)|(go_at_call 75;(with_reducible refine Bo (Y.o _ d1) ?_);rintro e w2 ⟨rfl,d2,Z⟩;have G2:=aM I Z)|(go_at_call 74;(with_reducible refine Bo (a.o _ _ d1) ?_);rintro e G ⟨rfl,rfl⟩;dsimp only)|(refine eX M.ss rfl (.tmp 30) (.tmp 31) rfl rfl (HM.o.kept G2 hne) rfl U (r:=d) (q:=true) Le.o Ko.o ?_)));(go_ret3);rw[O.o];exact⟨rfl,d4,G4⟩);subst p;have O:ab (Kb=((Ka.1,0+1,Ka.2),(z,0))):=aa (by rw[D.o,if_neg (by simp),if_neg om]);(go_enter Tryz.func177,Tryz.ntmps177);(go_wp2_with(first|(go_at_call 74;(with_reducible refine Bo (a.o _ _ d4) ?_);rintro e G ⟨rfl,rfl⟩;dsimp only)|(go_at_call 73;(with_reducible refine Bo (H4.o _ d2) ?_);rintro e w4 ⟨rfl,d4,g4⟩;have G4:=aM G2 g4)|(go_at_call 209;(with_reducible refine Bo (HA.o _) ?_);rintro e w5 ⟨rfl,g5⟩;have d5:=d4.gr g5;have V:=aM G4 (fO g5 (some g)))|(go_at_call 74;(with_reducible refine Bo (a.o _ _ d2) ?_);rintro e G ⟨rfl,rfl⟩;dsimp only)|(go_at_call 72;(with_reducible refine Bo f.o ?_);rintro e w1 ⟨rfl,d1,I⟩)|(go_at_call 75;(with_reducible refine Bo (Y.o _ d1) ?_);rintro e w2 ⟨rfl,d2,Z⟩;have G2:=aM I Z)|(go_at_call 74;(with_reducible refine Bo (a.o _ _ d1) ?_);rintro e G ⟨rfl,rfl⟩;dsimp only)|(refine eX M.ss rfl (.tmp 30) (.tmp 31) rfl rfl (HM.o.kept G2 hne) rfl U (r:=d) (q:=true) Le.o Ko.o ?_)));(go_ret3);rw[O.o];exact⟨rfl,d5,V⟩)
def tk (w:World) (L:List (Y0)) (e:Ending) (w':World):Prop:=
 ∃A' n' c',n'=L.length/\e=.returned (.slice A' n' c')/\aE w' A' n' L/\(A'=none->n'=0/\c'=0)/\n'<=c'/\Gr w w'
theorem DX {s r:Y0} (h:eL s=some r):r.length<=s.length:=by have:=u9 s.length s (Dg _) h;omega
theorem Hc {fs:List Fl} {nm:Y0} (h:¬nm.head?=some 111):fk fs nm=none:=by unfold fk;rw[if_neg h]
theorem D0 {fs:List Fl} {nm:Y0} (h:eL (nm.drop 1)=none):fk fs nm=none:=by
 unfold fk;split;. rw[h]
 . rfl
theorem Hm {fs:List Fl} {nm id:Y0} (h:nm.head?=some 111) (h2:eL (nm.drop 1)=some id):fk fs nm=if(dW fs id).2=0 then some id else none:=by
 unfold fk;rw[if_pos h,h2]
theorem Bw (fs:List Fl) (A:Yy) (n cap:Nat) (f:Int) (w:World) (hn:n<=1099511627776) (hx:aO w A n fs) (hs:∀f∈fs,f.1.length<=1099511627776/\f.2.1.length<=1099511627776/\f.2.2.length<=1099511627776) (hT:bK w):Calls Ao 178 #[aI A n cap f] w (tk w (nY fs)):=by
 have Lb:=hx.len;have t:=(B4 w).alloc (.cells #[(A,n,cap),f] 36)
 have Ka:=ag.new w 36 #[(A,n,cap),.int .i64 f];obtain⟨J,H⟩:=zq (w.alloc (.cells #[(A,n,cap),.int .i64 f] 36));rw[<-H]at t Ka;obtain⟨p,V⟩:=zq (w.heap.size);rw[<-V]at Ka;have F:ab (∀W,Gr J W->W.cell? (p,0)=(A,n,cap)/\W.cell? (p,1)=some (.int .i64 f)):=aa (λW g=>⟨(Ka.gr g).cell 0,(Ka.gr g).cell 1⟩);have a:ab (∀id W,id.length<=1099511627776->Gr w W->Calls Ao 42 #[aI A n cap f,.string (bs id)] W λe w'=>e=.returned (.tuple #[(dW fs id).1,.int .i64 (dW fs id).2])/\Gr W w'):=aa (λid W h g=>mr fs id A n cap f W hn (hx.gr g) hs h (hT.gr g));have q:ab (∀s W,s.length<=1099511627776->Calls Ao 211 #[.string (bs s)] W λe w'=>e=.returned (Fz (eL s))/\Gr W w'):=aa (λs W h=>DG s W om);have Lc:=aa hx;have Kq:=aa hs;have Ma:ab (∀i (h:i<fs.length),(fs.take (i+1)).filterMap (λf=>fk fs f.1)=(fs.take i).filterMap (λf=>fk fs f.1)++(match fk fs fs[i].1 with|none=>[]|some id=>[id])):=aa (λi h=>Cs fs fs i h);have r:ab (∀i,((fs.take i).filterMap (λf=>fk fs f.1)).length<=i):=aa (λi=>Nat.le_trans (List.length_filterMap_le _ _) zeA);obtain⟨c0,c1⟩:=F.o J (B4 _);obtain⟨Kb,hV⟩:=zq (nY fs);have HV:ab (Kb=fs.filterMap (λf=>fk fs f.1)):=aa hV;have L:=aa Lb;have Kg:=aa t;rw[<-hV];unfold aI at a;unfold aI;clear hx hs hV Ka Lb hT;go_enter Tryz.func178,Tryz.ntmps178
 go_upto_region 1 with fail
 rw[<-H,<-V];clear H V t;go_wp2_with fail
 go_loopg [15,3,5,6,7,8,9,10,11] n (λfuel iv ov _ _ _ _ _ _ _ wr=>∃(i m:Nat) (C:Yy) (d:Nat),iv=.int .i64 (i:Int)/\ov=.slice C m d/\n<=i+fuel/\i<=n/\ab (m=((fs.take i).filterMap (λf=>fk fs f.1)).length/\wr.ownsRow J.heap.size 9 1 (C,m,d) m (((fs.take i).filterMap (λf=>fk fs f.1)).map aC))/\ab (Gr J wr))
 case atStart=>exact⟨0,0,none,0,rfl,rfl,om,om,aa ⟨rfl,World.ownsRow_nil _ _ _ _⟩,aa (B4 _)⟩
 case round=>clear c0 c1;obtain⟨i,m,C,d,rfl,rfl,Kj,hi,HO,HG⟩:=hrel;obtain⟨c0,c1⟩:=F.o wr HG.o;by_cases hlt:i<n;(. have Ki:(i:Int)<(n:Int):=om;(have D:i<fs.length:=by rw[L.o];exact hlt);(obtain⟨bb,off,rfl,x0,x1,x2⟩:=(Lc.o.gr (Kg.o.trans HG.o)).cell D);have B:=Kq.o _ (List.getElem_mem D);have u:=aa (Ma.o i D);obtain⟨x,P⟩:=zq (fs[i]);rw[<-P]at x0 x1 x2 B u;obtain⟨nm,z,v⟩:=x;simp only at x0 x1 x2 B u;(have y:=B.1);have Il:=aa hlt;(have Nl:m<=1099511627776:=by have:=HO.o.1;have:=r.o i;omega);have Ku:(m+1)*16<=140737488355328:=om;(have Le:m+1<=maxLen:=zc1);clear P hlt D B;(have GA:=(B4 wr).alloc (.cells #[nm,z,v] 70));have b:ab (fk fs nm=none->∀W,Gr wr W->ab (m=((fs.take (i+1)).filterMap (λf=>fk fs f.1)).length/\W.ownsRow J.heap.size 9 1 (C,m,d) m (((fs.take (i+1)).filterMap (λf=>fk fs f.1)).map aC))):=aa (λh W g=>by have h1:=u.o;rw[h]at h1;simp only[List.append_nil]at h1;rw[h1];exact aa ⟨HO.o.1,av HO.o.2 g⟩);have j:=aa (λW=>EF nm W);by_cases hh:nm.head?=some 111;(case neg=>rw[decide_eq_false hh,if_neg hh]at j;have l:ab (fk fs nm=none):=aa (Hc hh);clear hh;(go_wp2_with(first|(go_at_call 210;(with_reducible refine Bo (j.o _) ?_);rintro e w1 ⟨rfl,I⟩)));(go_roundg (gk-1));(case rel=>exact⟨i+1,m,C,d,by go_num,rfl,om,Il.o,b.o l.o _ (GA.trans I),aa (HG.o.trans (GA.trans I))⟩);case measure=>have:=Il.o;omega);rw[decide_eq_true hh,if_pos hh]at j;obtain⟨s,Kt⟩:=zq (nm.drop 1);(have Kv:s.length<=1099511627776:=by rw[Kt,List.length_drop];omega);have c:=aa (λW=>q.o s W Kv);rw[<-Kt]at j;cases hu:eL s with|none=>have l:ab (fk fs nm=none):=aa (D0 (by rw[<-Kt];exact hu));rw[hu]at c;unfold Fz at c;simp only at c;clear hu hh Kt;(go_wp2_with(first|(go_at_call 210;(with_reducible refine Bo (j.o _) ?_);rintro e w1 ⟨rfl,I⟩)|(go_at_call 211;(with_reducible refine Bo (c.o _) ?_);rintro e w2 ⟨rfl,Z⟩)));(go_roundg (gk-1));(case rel=>exact⟨i+1,m,C,d,by go_num,rfl,om,Il.o,b.o l.o _ ((GA.trans I).trans Z),aa (HG.o.trans ((GA.trans I).trans Z))⟩);case measure=>have:=Il.o;omega|some id=>((have U:id.length<=1099511627776:=by have:=DX hu;omega);have K:=aa (Hm (fs:=fs) hh (by rw[<-Kt];exact hu));have Kc:=aa (λW g=>a.o id W U g);rw[hu]at c;unfold Fz at c;simp only at c;clear hu hh Kt;obtain⟨⟨M,o⟩,hG⟩:=zq (dW fs id);rw[<-hG]at K Kc;simp only at K Kc;clear hG;by_cases Q:o=0;(. subst Q;have Kw:ab ((fs.take (i+1)).filterMap (λf=>fk fs f.1)=(fs.take i).filterMap (λf=>fk fs f.1)++[id]):=aa (by have h1:=u.o;rw[K.o,if_pos rfl]at h1;exact h1);clear b u K;(go_wp2_with(first|(go_at_call 210;(with_reducible refine Bo (j.o _) ?_);rintro e w1 ⟨rfl,I⟩;obtain⟨k0,k1⟩:=F.o w1 (HG.o.trans (GA.trans I)))|(go_at_call 211;(with_reducible refine Bo (c.o _) ?_);rintro e w2 ⟨rfl,Z⟩;have G:=I.trans Z;obtain⟨k0,k1⟩:=F.o w2 (HG.o.trans (GA.trans G)))|(go_at_call 42;(with_reducible refine Bo (Kc.o _ (Kg.o.trans (HG.o.trans (GA.trans G)))) ?_);rintro e w3 ⟨rfl,g3⟩;have G3:=(GA.trans G).trans g3;have X:J.heap.size<=w3.heap.size:=(HG.o.trans G3).size;have o3:=av HO.o.2 G3)|(at_builtin;refine fL E.str rfl (.tmp 42) (.tmp 44) rfl rfl o3 rfl rfl Ku Le X ?_;intro g5 c5 w5 o5 Kr)));(go_roundg (gk-1));(case rel=>refine⟨i+1,m+1,some ⟨g5,0,none⟩,c5,by go_num,rfl,om,Il.o,aa ⟨?_,?_⟩,aa ((HG.o.trans G3).grown Kr (λk hk=>?_))⟩;(. rw[Kw.o,List.length_append,<-HO.o.1];rfl);(. rw[Kw.o,List.map_append];exact o5);. exact(o3.lt k hk).1);case measure=>have:=Il.o;omega);. (have R:(o==0)=false:=ziG);have l:ab (fk fs nm=none):=aa (by rw[K.o,if_neg Q]);clear Q K;(go_wp2_with(first|(go_at_call 210;(with_reducible refine Bo (j.o _) ?_);rintro e w1 ⟨rfl,I⟩;obtain⟨k0,k1⟩:=F.o w1 (HG.o.trans (GA.trans I)))|(go_at_call 211;(with_reducible refine Bo (c.o _) ?_);rintro e w2 ⟨rfl,Z⟩;have G:=I.trans Z;obtain⟨k0,k1⟩:=F.o w2 (HG.o.trans (GA.trans G)))|(go_at_call 42;(with_reducible refine Bo (Kc.o _ (Kg.o.trans (HG.o.trans (GA.trans G)))) ?_);rintro e w3 ⟨rfl,g3⟩;have G3:=(GA.trans G).trans g3;have X:J.heap.size<=w3.heap.size:=(HG.o.trans G3).size;have o3:=av HO.o.2 G3)));(go_roundg (gk-1));(case rel=>exact⟨i+1,m,C,d,by go_num,rfl,om,Il.o,b.o l.o _ G3,aa (HG.o.trans G3)⟩);case measure=>have:=Il.o;omega));. obtain rfl:i=n:=om;have HF:ab (Kb=(fs.take i).filterMap (λf=>fk fs f.1)):=aa (by rw[HV.o,List.take_of_length_le (by rw[L.o];exact Dg _)]);clear hlt;(go_wp2_with fail);go_ret;rw[HF.o];exact⟨C,m,d,HO.o.1,rfl,ak.own HO.o.2,rQ HO.o.2,rR HO.o.2,Kg.o.trans HG.o⟩
theorem Ba (fs:List Fl) (A:Yy) (n cap:Nat) (f:Int) (w:World) (hn:n<=1099511627776) (hx:aO w A n fs) (hs:∀f∈fs,f.1.length<=1099511627776/\f.2.1.length<=1099511627776/\f.2.2.length<=1099511627776) (hT:bK w):Calls Ao 141 #[aI A n cap f] w (tk w (gI fs)):=by
 have Lb:=hx.len;have t:=(B4 w).alloc (.cells #[(A,n,cap),f] 36)
 have Ka:=ag.new w 36 #[(A,n,cap),f];obtain⟨J,H⟩:=zq (w.alloc (.cells #[(A,n,cap),f] 36));rw[<-H]at t Ka;obtain⟨p,V⟩:=zq (w.heap.size);rw[<-V]at Ka;have F:ab (∀W,Gr J W->W.cell? (p,0)=(A,n,cap)/\W.cell? (p,1)=f):=aa (λW g=>⟨(Ka.gr g).cell 0,(Ka.gr g).cell 1⟩);have a:ab (∀id W,id.length<=1099511627776->Gr w W->Calls Ao 42 #[aI A n cap f,.string (bs id)] W λe w'=>e=.returned (.tuple #[(dW fs id).1,.int .i64 (dW fs id).2])/\Gr W w'):=aa (λid W h g=>mr fs id A n cap f W hn (hx.gr g) hs h (hT.gr g));have b:ab (∀W,Gr w W->Calls Ao 178 #[aI A n cap f] W (tk W (nY fs))):=aa (λW g=>Bw fs A n cap f W hn (hx.gr g) hs (hT.gr g));have c:ab (∀id∈nY fs,id.length<=1099511627776):=aa (λid h=>by have:=(Gc (FU h)).1;omega);have P:=xq fs;obtain⟨Kb,hV⟩:=zq (gI fs);have HV:ab (Kb=(nY fs).map λid=>(dW fs id).1):=aa hV;obtain⟨L,hL⟩:=zq (nY fs);rw[<-hL]at b c HV P;obtain⟨N,hN⟩:=zq (L.length);have HN:=aa hN;have j:N<=1099511627776:=om;unfold tk at b;have Kg:=aa t;obtain⟨c0,c1⟩:=F.o J (B4 _);rw[<-hV];unfold aI at a b;unfold aI;rw[<-hN]at b;clear hx hs hV Ka Lb hL hN P hT;go_enter Tryz.func141,Tryz.ntmps141
 go_upto_region 1 with fail
 rw[<-H,<-V];clear H V;go_wp2_with(first|(go_at_call 178;(with_reducible refine Bo (b.o _ Kg.o) ?_);rintro e w1 ⟨A1,n1,k1,rfl,rfl,r1,_,_,I⟩))
 have Ni:=aa r1;have s:=aa I;clear r1 I c0 c1 t;go_loopg [11,3,5,6,7] n1 (λfuel iv ov _ _ _ wr=>∃(i:Nat) (C:Yy) (d:Nat),iv=.int .i64 (i:Int)/\ov=.slice C i d/\n1<=i+fuel/\i<=n1/\ab (wr.ownsRow w1.heap.size 9 1 (C,i,d) i (((L.take i).map λid=>(dW fs id).1).map aC))/\ab (Gr w1 wr))
 case atStart=>exact⟨0,none,0,rfl,rfl,om,om,aa (World.ownsRow_nil _ _ _ _),aa (B4 _)⟩
 case round=>obtain⟨i,C,d,rfl,rfl,Kj,hi,HO,HG⟩:=hrel;obtain⟨c0,c1⟩:=F.o wr (s.o.trans HG.o);by_cases hlt:i<n1;(. have Ki:(i:Int)<(n1:Int):=om;(have D:i<L.length:=ze9);(obtain⟨bb,off,rfl,x0⟩:=(Ni.o.gr HG.o).cell D);have U:=c.o _ (List.getElem_mem D);have u:ab (((L.take (i+1)).map λid=>(dW fs id).1).map aC=((L.take i).map λid=>(dW fs id).1).map aC++[.string (bs (dW fs L[i]).1)]):=aa (by rw[List.take_succ_eq_append_getElem D,List.map_append,List.map_append];rfl);obtain⟨id,Kn⟩:=zq (L[i]);rw[<-Kn]at x0 U u;have Kc:=aa (λW g=>a.o id W U g);obtain⟨⟨M,o⟩,hG⟩:=zq (dW fs id);rw[<-hG]at u Kc;simp only at u Kc;have Il:=aa hlt;have Ku:(i+1)*16<=140737488355328:=om;(have Le:i+1<=maxLen:=zc1);clear hG Kn hlt D;(go_wp2_with(first|(go_at_call 42;(with_reducible refine Bo (Kc.o _ (Kg.o.trans (s.o.trans HG.o))) ?_);rintro e w3 ⟨rfl,g3⟩;have G3:=HG.o.trans g3;have X:w1.heap.size<=w3.heap.size:=G3.size;have o3:=av HO.o g3)|(at_builtin;refine fL E.str rfl (.tmp 21) (.tmp 23) rfl rfl o3 rfl rfl Ku Le X ?_;intro g5 c5 w5 o5 Kr)));(go_roundg (gk-1));(case rel=>refine⟨i+1,some ⟨g5,0,none⟩,c5,by go_num,rfl,om,Il.o,aa (by rw[u.o];exact o5),aa (G3.grown Kr (λk hk=>(o3.lt k hk).1))⟩);case measure=>have:=Il.o;omega);. obtain rfl:i=n1:=om;have HF:ab (Kb=(L.take i).map λid=>(dW fs id).1):=aa (by rw[HV.o,List.take_of_length_le zf9]);(have Kd:i=((L.take i).map λid=>(dW fs id).1).length:=by rw[List.length_map,List.take_of_length_le zf9];exact HN.o);have Nb:=aa Kd;clear hlt Kd;(go_wp2_with fail);go_ret;rw[HF.o];exact⟨C,i,d,Nb.o,rfl,ak.own HO.o,rQ HO.o,rR HO.o,Kg.o.trans (s.o.trans HG.o)⟩
structure II where
 fs:List Fl
 u:Int
 so:Int
 ro:Y0
 mw:Int
 ms:Y0
 e:Int
def dY (fs:List Fl) (f:Int) (who:Int) (key:Y0) (so:Int) (ro:Y0) (n:Int) (r:Y0) (ps:List (Y0)):II:=
 if(aG n r).2=0 then
  (if kC so ro n r ps=0 then
   (if(fi who key n r).2.2=0 then
    (if(aY fs f cH ((aG n r).1++aj (aG n r).1)).2.2=0 then⟨(aY fs f cH ((aG n r).1++aj (aG n r).1)).1,(aY fs f cH ((aG n r).1++aj (aG n r).1)).2.1,n,r,(fi who key n r).1,(fi who key n r).2.1,0⟩
    else⟨(aY fs f cH ((aG n r).1++aj (aG n r).1)).1,(aY fs f cH ((aG n r).1++aj (aG n r).1)).2.1,so,ro,0,[],(aY fs f cH ((aG n r).1++aj (aG n r).1)).2.2⟩)
   else⟨fs,f,so,ro,0,[],(fi who key n r).2.2⟩)
  else⟨fs,f,so,ro,0,[],kC so ro n r ps⟩)
 else⟨fs,f,so,ro,0,[],(aG n r).2⟩
def DP (R:II) (who:Int) (key:Y0) (A:Yy) (m cap:Nat) (w:World) (e:Ending) (w':World):Prop:=
 ∃A' n' cap',e=.returned (.tuple #[.agg (dj who key A' n' cap' R.u R.so R.ro),.agg (et R.mw R.ms),R.e])/\aO w' A' n' R.fs/\kQ w A m cap A' n' cap'/\Gr w w'
theorem ft {fn:Func} {p q r:Tmp} {ty d:TypeId} (h:fn.results=#[.cell p ty,.cell q d,.tmp r]) (tmps:Array Value) {w:World} {g Z:Nat} {t t2:TypeId} {cs c:Array Value} (V:tmps.getD p undef=.pointer (some ⟨g,0,none⟩)) (hq:tmps.getD q undef=.pointer (some ⟨Z,0,none⟩)) (hB:ag w g t cs) (A:dZ ty cs.size) (a:ag w Z t2 c) (A2:dZ d c.size):(results fn tmps).run Ao w=.ok (.tuple #[.agg cs,.agg c,tmps.getD r undef]) w:=by
 have b:tmps[p]?.getD undef=.pointer (some ⟨g,0,none⟩):=by simpa using V
 have u:tmps[q]?.getD undef=.pointer (some ⟨Z,0,none⟩):=zfM
 simp[results,h,b,u,asAddr,ia hB A,ia a A2]
theorem ag.new3 (w:World) (o p q:Obj) (t:TypeId) (cs:Array Value):ag ((((w.alloc o).alloc p).alloc q).alloc (.cells cs t)) (w.heap.size+1+1+1) t cs:=by
 have:=ag.new (((w.alloc o).alloc p).alloc q) t cs;exact zb5
theorem nk {W:World} {g p:Nat} {t:TypeId} {cs:Array Value} (h:ag W g t cs) (hne:g≠p) (i j:Nat) (u v:Value):ag ((W.setCell (p,i) u).setCell (p,j) v) g t cs:=
 (h.far (p:=⟨p,i,none⟩) hne u).far (p:=⟨p,j,none⟩) hne v
theorem zV {w W:World} {p:Nat} (h:Gr w W) (V:w.heap.size<=p) (i j:Nat) (u v:Value):Gr w ((W.setCell (p,i) u).setCell (p,j) v):=
 (h.setCell (p:=⟨p,i,none⟩) V u).setCell (p:=⟨p,j,none⟩) V v
theorem He {W:World} {p q n cap:Nat} {who:Int} {key r ms:Y0} {A:Yy} {f sz mw:Int} {z y:Array Value} (hz:z.size=6) (hy:y.size=2) (hne:p≠q) (Ka:ag W p 38 z) (Y:ag W q 164 y):ag ((((((((W.setCell (p,0) who).setCell (p,1) key).setCell (p,2) (A,n,cap)).setCell (p,3) f).setCell (p,4) sz).setCell (p,5) r).setCell (q,0) mw).setCell (q,1) ms).drew p 38 (dj who key A n cap f sz r)∧ag ((((((((W.setCell (p,0) who).setCell (p,1) key).setCell (p,2) (A,n,cap)).setCell (p,3) f).setCell (p,4) sz).setCell (p,5) r).setCell (q,0) mw).setCell (q,1) ms).drew q 164 (et mw ms)∧(∀(w:World),Gr w W->w.heap.size<=p->w.heap.size<=q->Gr w ((((((((W.setCell (p,0) who).setCell (p,1) key).setCell (p,2) (A,n,cap)).setCell (p,3) f).setCell (p,4) sz).setCell (p,5) r).setCell (q,0) mw).setCell (q,1) ms).drew):=by
 obtain⟨a0,a1,a2,a3,a4,a5,rfl⟩:∃a0 a1 a2 a3 a4 a5,z=#[a0,a1,a2,a3,a4,a5]:=by obtain⟨l⟩:=z;match l,hz with|[a0,a1,a2,a3,a4,a5],_=>exact⟨a0,a1,a2,a3,a4,a5,rfl⟩
 obtain⟨b0,b1,rfl⟩:∃b0 b1,y=#[b0,b1]:=by obtain⟨l⟩:=y;match l,hy with|[b0,b1],_=>exact⟨b0,b1,rfl⟩
 refine⟨?_,?_,?_⟩;. (have h1:=(((((Ka.set_ 0 who).set_ 1 key).set_ 2 (A,n,cap)).set_ 3 f).set_ 4 sz).set_ 5 r);exact(nk h1 hne 0 1 _ _).drew
 . have c:q≠p:=λh=>hne h.symm;have h1:=nk (nk (nk Y c 0 1 who key) c 2 3 (A,n,cap) f) c 4 5 sz r;exact((h1.set_ 0 mw).set_ 1 ms).drew
 . intro w g V hq;exact(zV (zV (zV (zV g V 0 1 _ _) V 2 3 _ _) V 4 5 _ _) hq 0 1 _ _).drew
def yo (q:Nat) (A0:Yy) (n0 cap0:Nat) (fs:List Fl) (A:Yy) (n cap:Nat) (gs:List Fl) (wx:World):Prop:=
 (A=A0/\n=n0/\cap=cap0/\gs=fs)\/∃B,q<B/\wx.ownsRow B 70 3 (A,n,cap) n (gs.flatMap ap)
theorem lu {W:World} {B n cap p:Nat} {A:Yy} {xs:List Value} (h:W.ownsRow B 70 3 (A,n,cap) n xs) (V:p<B) (i j:Nat) (u v:Value):((W.setCell (p,i) u).setCell (p,j) v).ownsRow B 70 3 (A,n,cap) n xs:=by
 have hne:(Value.slice A n cap).ownBlock≠some p:=λe=>by have:=(h.lt _ e).1;omega
 exact ownsRow_setCell_other (ownsRow_setCell_other h (a:=⟨p,i,none⟩) hne u) (a:=⟨p,j,none⟩) hne v
theorem Cu {w wx x2 x3:World} {q n0 cap0 n cap a b:Nat} {A0 A:Yy} {fs gs:List Fl} (h:yo q A0 n0 cap0 fs A n cap gs wx) (hx:aO w A0 n0 fs) (g:Gr w x3) (h2:wx.grownBy x2 (some a)) (h3:x2.grownBy x3 (some b)) (ha:a<=q) (hb:b<=q):aO x3 A n gs:=by
 rcases h with⟨rfl,rfl,_,rfl⟩|⟨B,hB,ho⟩;. exact hx.gr g
 . have r:aO wx A n gs:=ak.own ho;have r2:aO x2 A n gs:=ak.only r h2 (λ_ c off e=>by have:=(ho.lt c zfq).1;omega);exact ak.only r2 h3 (λ_ c off e=>by have:=(ho.lt c zfq).1;omega)
theorem ES {w wx:World} {q n0 cap0 n cap a b c:Nat} {A0 A:Yy} {fs gs:List Fl} {Y i1 i2 i3 i4 i5 i6 i7 j0 j1:Value} (h:yo q A0 n0 cap0 fs A n cap gs wx) (hx:aO w A0 n0 fs) (ha:a<=q) (hb:b<=q) (hc:c<=q) (g:Gr w ((((((((((wx.setCell (a,4) j0).setCell (a,5) j1).setCell (b,0) Y).setCell (b,1) i1).setCell (b,2) i2).setCell (b,3) i3).setCell (b,4) i4).setCell (b,5) i5).setCell (c,0) i6).setCell (c,1) i7).drew):aO ((((((((((wx.setCell (a,4) j0).setCell (a,5) j1).setCell (b,0) Y).setCell (b,1) i1).setCell (b,2) i2).setCell (b,3) i3).setCell (b,4) i4).setCell (b,5) i5).setCell (c,0) i6).setCell (c,1) i7).drew A n gs:=by
 rcases h with⟨rfl,rfl,_,rfl⟩|⟨B,hB,ho⟩;. exact hx.gr g
 . have o:=lu (lu (lu (lu (lu ho (show a<B by omega) 4 5 j0 j1) (show b<B by omega) 0 1 Y i1) (show b<B by omega) 2 3 i2 i3) (show b<B by omega) 4 5 i4 i5) (show c<B by omega) 0 1 i6 i7;have r:aO _ A n gs:=ak.own o;exact r.gr (B4 _).drew
theorem yo.rid {q n0 cap0 n cap:Nat} {A0 A:Yy} {fs gs:List Fl} {w wx:World} (h:yo q A0 n0 cap0 fs A n cap gs wx) (hA:A0=none->n0=0/\cap0=0) (hq:w.heap.size<=q):kQ w A0 n0 cap0 A n cap:=by
 rcases h with⟨rfl,rfl,rfl,_⟩|⟨B,hB,ho⟩;. exact kQ.same hA
 . exact⟨kq ho,λ_=>jI ho,((fq.own ho).low om).fa⟩
structure EK (w:World) (p q:Nat) (A0:Yy) (n0 cap0:Nat) (fs:List Fl) (who:Int) (key:Y0) (A:Yy) (n cap:Nat) (u so:Int) (ro:Y0) (hn:Int) (hr:Y0) (mw:Int) (ms:Y0) (gs:List Fl) (wx:World):Prop where
 wit:ag wx p 38 (dj who key A n cap u so ro)
 hd:ag wx (p+1) 24 (a7 hn hr)
 zw:ag wx (p+1+1) 38 (dj 0 [] none 0 0 0 0 [])
 zm:ag wx (p+1+1+1) 164 (et 0 [])
 mb:ag wx q 164 (et mw ms)
 alt:yo q A0 n0 cap0 fs A n cap gs wx
 gr:Gr w wx
theorem Jy {w w4 w5:World} {p q m cap n' D:Nat} {who:Int} {key ro hr ms:Y0} {A U:Yy} {f u so hn mw:Int} {fs gs:List Fl}
 (hg:Gr w w4) (Kr:Gr w4 w5) (Kd:w.heap.size<=p) (L:p+1+1+1<q)
 (B:ag w4 p 38 (dj who key A m cap f so ro)) (H:ag w4 (p+1) 24 (a7 hn hr)) (Ka:ag w4 (p+1+1) 38 (dj 0 [] none 0 0 0 0 []))
 (Y:ag w4 (p+1+1+1) 164 (et 0 [])) (M:ag w4 q 164 (et mw ms))
 (h:(U=A/\n'=m/\D=cap/\gs=fs)\/w5.ownsRow w4.heap.size 70 3 (U,n',D) n' (gs.flatMap ap)):
 EK w p q A m cap fs who key U n' D u so ro hn hr mw ms gs ((w5.setCell (p,2) (U,n',D)).setCell (p,3) u):=
 ⟨((B.gr Kr).set_ 2 (U,n',D)).set_ 3 u,nk (H.gr Kr) om 2 3 _ _,nk (Ka.gr Kr) om 2 3 _ _,nk (Y.gr Kr) om 2 3 _ _,nk (M.gr Kr) om 2 3 _ _,
  (by
   rcases h with h|h
   . exact .inl h
   . exact .inr ⟨_,M.lt,lu h B.lt 2 3 _ _⟩),zV (hg.trans Kr) Kd 2 3 _ _⟩
def lk (fs:List Fl) (n:Y0):Option Fl:=fs.find? (λf=>f.1==n)
theorem lf (name:Y0):∀{fs:List Fl},cd fs->∃a b,(∀x∈a,aR x.1 name=true)/\(∀x∈b,aR name x.1=true)/\bJ name fs=a.length∧
 ((cS name fs=true/\∃g:Fl,g.1=name/\fs=a++g::b)\/(cS name fs=false/\fs=a++b))
 |[],_=>⟨[],[],by simp,by simp,by simp[bJ],.inr ⟨by simp[cS],rfl⟩⟩
 |x::r,h=>by
  have hr:cd r:=(List.pairwise_cons.1 h).2
  have hx:=(List.pairwise_cons.1 h).1
  by_cases h1:aR x.1 name=true
  . obtain⟨a,b,ha,hb,hl,hc⟩:=lf name hr
    refine⟨x::a,b,λy hy=>?_,hb,?_,?_⟩
    . rcases List.mem_cons.1 hy with rfl|hy
      . exact h1
      . exact ha y hy
    . unfold bJ at hl⊢
      rw[List.takeWhile_cons_of_pos ziM,List.length_cons,List.length_cons,hl]
    . have e:cS name (x::r)=cS name r:=by
       unfold cS
       rw[List.any_cons,Dn h1,Bool.false_or]
      rw[e]
      rcases hc with⟨hh,g,hg,hf⟩|⟨hh,hf⟩
      . exact .inl ⟨hh,g,hg,by rw[hf];rfl⟩
      . exact .inr ⟨hh,by rw[hf];rfl⟩
  . have i:aR x.1 name=false:=by simpa using h1
    have hl:bJ name (x::r)=0:=by
     unfold bJ
     rw[List.takeWhile_cons_of_neg ziM]
     rfl
    by_cases h2:x.1=name
    . subst h2
      exact⟨[],r,by simp,hx,hl,.inl ⟨by simp[cS],x,rfl,rfl⟩⟩
    . have h3:aR name x.1=true:=by
       cases h4:aR name x.1 with
       |true=>rfl
       |false=>exact absurd (qO _ _ i h4) h2
      have Kq:∀y∈x::r,aR name y.1=true:=λy hy=>by
       rcases List.mem_cons.1 hy with rfl|hy
       . exact h3
       . exact gA _ _ _ h3 (hx y hy)
      refine⟨[],x::r,by simp,Kq,hl,.inr ⟨?_,rfl⟩⟩
      unfold cS
      rw[List.any_eq_false]
      intro y hy
      rw[z8 (Kq y hy)]
      simp
theorem rk:∀(fs:List Fl) (u:Y0),(∀f∈fs,aR u f.1=true/\ea f=true)->cd fs->cE u fs=true
 |[],_,_,_=>rfl
 |f::r,u,h,hs=>by
  obtain⟨h1,h2⟩:=h f List.mem_cons_self
  rw[cE,h1,h2,rk r f.1 (λg hg=>⟨(List.pairwise_cons.1 hs).1 g hg,(h g (List.mem_cons_of_mem _ hg)).2⟩) (List.pairwise_cons.1 hs).2]
  rfl
theorem xN {f:Fl} (h:ea f=true):em f.1=true:=by
 unfold ea at h;rw[Bool.and_eq_true]at h;exact h.1
theorem eu {fs:List Fl}:aQ fs=true↔fs.length<=400/\cd fs/\∀f∈fs,ea f=true:=by
 unfold aQ;rw[Bool.and_eq_true,decide_eq_true_eq];constructor;. rintro⟨h1,h2⟩;obtain⟨h3,h4⟩:=jq fs [] h2;exact⟨h1,h4,λf hf=>(h3 f hf).2⟩
 . rintro⟨h1,h2,h3⟩;exact⟨h1,rk fs [] (λf hf=>⟨qE (ut (xN (h3 f hf))),h3 f hf⟩) h2⟩
theorem Af {a b:List Fl} {f g:Fl} (h:cd (a++g::b)) (e:f.1=g.1):cd (a++f::b):=by
 have h':=List.pairwise_append.1 h
 have h2:=List.pairwise_cons.1 h'.2.1
 refine List.pairwise_append.2 ⟨h'.1,List.pairwise_cons.2 ⟨λy hy=>by rw[e];exact h2.1 y hy,h2.2⟩,λx hx y hy=>?_⟩
 rcases List.mem_cons.1 hy with rfl|hy
 . rw[e];exact h'.2.2 x hx g List.mem_cons_self
 . exact h'.2.2 x hx y (List.mem_cons_of_mem _ hy)
theorem Aw {a b:List Fl} {f:Fl} (h:cd (a++b)) (ha:∀x∈a,aR x.1 f.1=true) (hb:∀x∈b,aR f.1 x.1=true):cd (a++f::b):=by
 exact za2
theorem By {a b:List Fl} {g:Fl} (h:cd (a++g::b)):cd (a++b):=
 h.sublist (List.Sublist.append_left (List.sublist_cons_self g b) a)
theorem Cl (a b:List Fl) (n:Y0):lk (a++b) n=(lk a n).or (lk b n):=List.find?_append
theorem zo {a:List Fl} {n:Y0} (h:∀x∈a,x.1≠n):lk a n=none:=by
 unfold lk;rw[List.find?_eq_none];intro x hx;simpa using h x hx
theorem G7 (f:Fl) (r:List Fl) (n:Y0):lk (f::r) n=if f.1=n then some f else lk r n:=by
 unfold lk;rw[List.find?_cons];by_cases h:f.1=n
 . rw[if_pos h];simp[h]
 . rw[if_neg h];(have:(f.1==n)=false:=zfc);rw[this]
theorem tM {a b:Y0} (h:aR a b=true):a≠b:=by
 intro e;subst e;rw[eY]at h;cases h
theorem tq {a b:List Fl} {f:Fl} {n:Y0} (ha:∀x∈a,aR x.1 f.1=true) (hb:∀x∈b,aR f.1 x.1=true):lk (a++f::b) n=if f.1=n then some f else lk (a++b) n:=by
 rw[Cl,G7,Cl];by_cases h:f.1=n
 . subst h;rw[if_pos rfl,if_pos rfl,zo (λx hx=>tM (ha x hx))];rfl
 . rw[if_neg h,if_neg h]
theorem tY {fs:List Fl} {n:Y0} {f:Fl} (h:lk fs n=some f):f.1=n:=by
 have:=List.find?_some h;simpa using this
theorem CK {fs:List Fl} {n:Y0} {f:Fl} (h:lk fs n=some f):f∈fs:=List.mem_of_find?_eq_some h
theorem vE (fs:List Fl) (n:Y0):cS n fs=(lk fs n).isSome:=by
 unfold cS lk;rw[Bool.eq_iff_iff,List.any_eq_true,List.find?_isSome]
def qV (f:Fl) (fs:List Fl):List Fl:=if cS f.1 fs then fs.set (bJ f.1 fs) f else fD (bJ f.1 fs) f fs
structure Je (fs:List Fl) (f:Fl) (gs:List Fl):Prop where
 sorted:cd gs
 lk:∀n,lk gs n=if f.1=n then some f else lk fs n
 mem:∀x∈gs,x∈fs\/x=f
theorem sL {fs:List Fl} (f:Fl) (h:cd fs):Je fs f (qV f fs)/\(qV f fs).length=fs.length+(if cS f.1 fs then 0 else 1):=by
 obtain⟨a,b,ha,hb,hl,hc⟩:=lf f.1 h
 unfold qV;rcases hc with⟨hh,g,hg,hf⟩|⟨hh,hf⟩;. rw[hh,hl,if_pos rfl,if_pos rfl];(have e:fs.set a.length f=a++f::b:=by rw[hf];simp);rw[e];refine⟨⟨Af zhH hg.symm,λn=>?_,λx hx=>?_⟩,by rw[hf];simp⟩;(. rw[tq ha hb,hf,tq (f:=g) (by rw[hg];exact ha) (by rw[hg];exact hb),hg];(by_cases h1:f.1=n);(. rw[if_pos h1,if_pos h1]);. rw[if_neg h1,if_neg h1,if_neg h1]);. rw[hf];simp only[List.mem_append,List.mem_cons]at hx⊢;rcases hx with hx|hx|hx;(. exact .inl (.inl hx));(. exact .inr hx);. exact .inl (.inr (.inr hx))
 . rw[hh,hl,if_neg (by simp),if_neg (by simp)];(have e:fD a.length f fs=a++f::b:=by unfold fD;rw[hf];simp);rw[e];refine⟨⟨Aw zhH ha hb,λn=>?_,λx hx=>?_⟩,by rw[hf];simp;omega⟩;(. rw[tq ha hb,hf]);. rw[hf];simp only[List.mem_append,List.mem_cons]at hx⊢;rcases hx with hx|hx|hx;(. exact .inl (.inl hx));(. exact .inr hx);. exact .inl (.inr hx)
theorem xG {fs:List Fl} {name:Y0} (h:cd fs) (hh:cS name fs=true):cd (fs.eraseIdx (bJ name fs))/\(∀n,lk (fs.eraseIdx (bJ name fs)) n=if name=n then none else lk fs n)∧(∀x∈fs.eraseIdx (bJ name fs),x∈fs)/\lk fs name=some (fs.getD (bJ name fs) ([],[],[]))/\(fs.eraseIdx (bJ name fs)).length+1=fs.length:=by
 obtain⟨a,b,ha,hb,hl,hc⟩:=lf name h;rcases hc with⟨_,g,hg,hf⟩|⟨c,_⟩;. rw[hl];(have e:fs.eraseIdx a.length=a++b:=by rw[hf,List.eraseIdx_append_of_length_le (Dg _)];simp);(have e2:fs.getD a.length ([],[],[])=g:=by rw[hf];simp);rw[e,e2];(have hm:∀n,lk fs n=if name=n then some g else lk (a++b) n:=λn=>by rw[hf,tq (f:=g) (by rw[hg];exact ha) (by rw[hg];exact hb),hg]);refine⟨By (g:=g) zhH,λn=>?_,λx hx=>?_,by rw[hm,if_pos rfl],by rw[hf];simp;omega⟩;(. rw[hm];by_cases h1:name=n;(. rw[if_pos h1,<-h1];refine zo (λx hx=>?_);(rcases List.mem_append.1 hx with hx|hx);(. exact tM (ha x hx));. exact(tM (hb x hx)).symm);. rw[if_neg h1,if_neg h1]);. rw[hf];simp only[List.mem_append,List.mem_cons]at hx⊢;rcases hx with hx|hx;(. exact .inl hx);. exact .inr (.inr hx)
 . rw[hh]at c;cases c
theorem xa {fs:List Fl} {name:Y0} (h:cd fs) (hh:cS name fs=true):lk fs name=some (fs.getD (bJ name fs) ([],[],[])):=(xG h hh).2.2.2.1
theorem IN {fs:List Fl} {name:Y0} (h:aQ fs=true) (h0:(j5 name fs).2=0):aQ (j5 name fs).1=true/\∀n,lk (j5 name fs).1 n=if name=n then none else lk fs n:=by
 obtain⟨h1,h2,h3⟩:=eu.1 h
 unfold j5 at h0⊢;split at h0;. rename_i hh;rw[if_pos hh];obtain⟨e1,e2,e3,_,e5⟩:=xG h2 hh;exact⟨eu.2 ⟨by simp only;omega,e1,λf hf=>h3 f (e3 f hf)⟩,e2⟩
 . cases h0
theorem IP {fs:List Fl} {name s:Y0} (h:aQ fs=true) (h0:(iw name s fs).2=0):aQ (iw name s fs).1=true∧∀n,lk (iw name s fs).1 n=if name=n then some (name,(((lk fs name).getD (name,[],[])).2.1,((lk fs name).getD (name,[],[])).2.2++s))else lk fs n:=by
 obtain⟨h1,h2,h3⟩:=eu.1 h
 unfold iw at h0⊢;split at h0;. rename_i hn;rw[if_pos hn];split at h0;(. cases h0);. rename_i c;rw[if_neg c];split at h0;(. rename_i Kd;rw[if_pos Kd];obtain⟨a,b,ha,hb,hl,hc⟩:=lf name h2;unfold dF at Kd⊢;rcases hc with⟨hh,g,hg,hf⟩|⟨hh,hf⟩;(. rw[hh,if_pos rfl]at Kd⊢;have eg:lk fs name=some (fs.getD (bJ name fs) ([],[],[])):=xa h2 hh;have en:=tY eg;obtain⟨⟨i,xs,d⟩,hx⟩:=zq (fs.getD (bJ name fs) ([],[],[]));rw[<-hx]at Kd eg en⊢;simp only at Kd en;(have e:fs.set (bJ name fs) (i,xs,d++s)=qV (name,xs,d++s) fs:=by unfold qV;simp only;rw[if_pos hh,en]);obtain⟨⟨l,s2,s3⟩,z⟩:=sL (name,xs,d++s) h2;simp only;rw[e];simp only at s2 z;rw[if_pos hh]at z;refine⟨eu.2 ⟨om,l,λf hf=>?_⟩,λn=>?_⟩;(. rcases s3 f hf with hf|rfl;(. exact h3 f hf);. unfold ea;simp only[hn,Bool.true_and,decide_eq_true_eq,List.length_append];have:=Kd;refine⟨?_,?_⟩;(. omega);. omega);. rw[s2 n,eg];rfl);. rw[hh,if_neg (by simp)]at Kd⊢;(have en:lk fs name=none:=by have:=vE fs name;rw[hh]at this;cases hk:lk fs name with|none=>rfl|some y=>(rw[hk]at this;cases this));(have eg:(fD (bJ name fs) (name,[],[]) fs).getD (bJ name fs) ([],[],[])=(name,[],[]):=by rw[List.getD_eq_getElem?_getD,xO _ _ _ (oy _ _)];rfl);rw[eg]at Kd⊢;(have e:(fD (bJ name fs) (name,[],[]) fs).set (bJ name fs) (name,[],s)=qV (name,[],s) fs:=by unfold qV;rw[if_neg (by rw[hh];simp)];unfold fD;rw[List.set_append_right _ _ (by simp[Nat.min_eq_left (oy name fs)])];simp[Nat.min_eq_left (oy name fs)]);simp only[List.nil_append]at Kd⊢;rw[e];obtain⟨⟨l,s2,s3⟩,z⟩:=sL (name,[],s) h2;simp only at s2 z;rw[if_neg (by rw[hh];simp)]at z;refine⟨eu.2 ⟨?_,l,λf hf=>?_⟩,λn=>?_⟩;(. have:¬400<=fs.length:=λh'=>c ⟨hh,h'⟩;omega);(. rcases s3 f hf with hf|rfl;(. exact h3 f hf);. unfold ea;simp only[hn,Bool.true_and,decide_eq_true_eq,List.length_nil]at Kd⊢;omega);. rw[s2 n,en];rfl);. cases h0
 . cases h0
theorem Id {fs:List Fl} {name:Y0} (h:aQ fs=true) (h0:(jr name fs).2=0):aQ (jr name fs).1=true∧∀n,lk (jr name fs).1 n=if name=n then some (name,((lk fs name).getD (name,[],[])).2.1++((lk fs name).getD (name,[],[])).2.2,[])else lk fs n:=by
 obtain⟨h1,h2,h3⟩:=eu.1 h
 unfold jr at h0⊢;split at h0;. rename_i hh;rw[if_pos hh];have eg:lk fs name=some (fs.getD (bJ name fs) ([],[],[])):=xa h2 hh;have en:=tY eg;have j:=h3 _ (CK eg);obtain⟨x,hx⟩:=zq (fs.getD (bJ name fs) ([],[],[]));rw[<-hx]at eg en j⊢;(have e:fs.set (bJ name fs) (x.1,x.2.1++x.2.2,[])=qV (name,x.2.1++x.2.2,[]) fs:=by unfold qV;simp only;rw[if_pos hh,en]);obtain⟨⟨l,s2,s3⟩,z⟩:=sL (name,x.2.1++x.2.2,[]) h2;simp only;rw[e];simp only at s2 z;rw[if_pos hh]at z;refine⟨eu.2 ⟨om,l,λf hf=>?_⟩,λn=>?_⟩;(. rcases s3 f hf with hf|rfl;(. exact h3 f hf);. unfold ea at j⊢;simp only[Bool.and_eq_true,decide_eq_true_eq,List.length_append,List.length_nil]at j⊢;rw[<-en];exact⟨j.1,om,om⟩);. rw[s2 n,eg];rfl
 . cases h0
theorem I7 {fs:List Fl} {frm dst:Y0} (h:aQ fs=true) (hne:frm≠dst) (h0:(iN frm dst fs).2=0):aQ (iN frm dst fs).1=true∧∀n,lk (iN frm dst fs).1 n=if dst=n then some (dst,((lk fs frm).getD (frm,[],[])).2)else if frm=n then none else lk fs n:=by
 obtain⟨h1,h2,h3⟩:=eu.1 h
 unfold iN at h0⊢;split at h0;. rename_i hn;rw[if_pos hn];split at h0;(. rename_i hh;rw[if_pos hh];obtain⟨e1,e2,e3,e4,e5⟩:=xG h2 hh;have en:=tY e4;have j:=h3 _ (CK e4);obtain⟨x,hx⟩:=zq (fs.getD (bJ frm fs) ([],[],[]));rw[<-hx]at e4 en j⊢;obtain⟨gs,a⟩:=zq (fs.eraseIdx (bJ frm fs));rw[<-a]at e1 e2 e3 e5⊢;have e:pq dst x gs=qV (dst,x.2) gs:=rfl;simp only;rw[e];obtain⟨⟨l,s2,s3⟩,z⟩:=sL (dst,x.2) e1;simp only at s2 z;refine⟨eu.2 ⟨?_,l,λf hf=>?_⟩,λn=>?_⟩;(. split at z<;>omega);(. rcases s3 f hf with hf|rfl;(. exact h3 f (e3 f hf));. unfold ea at j⊢;simp only[Bool.and_eq_true]at j⊢;exact⟨hn,j.2⟩);. rw[s2 n,e2 n,e4];rfl);. cases h0
 . cases h0
theorem oN {F:List Fl->List Fl×Int} {fs:List Fl} {f:Int} (h:aQ fs=true):((cj F fs f).2.2≠0/\(cj F fs f).1=fs)\/((cj F fs f).2.2=0/\(F fs).2=0/\(cj F fs f).1=(F fs).1):=by
 unfold cj;rw[if_pos h];split;. exact .inl ⟨by simp,rfl⟩
 . split;(. rename_i h1;exact .inr ⟨rfl,h1,rfl⟩);. rename_i h1;exact .inl ⟨h1,rfl⟩
theorem CX (name:Y0):name++cK≠name:=by
 intro e;have:=congrArg List.length e;rw[List.length_append]at this;simp[cK]at this
theorem sk {fs:List Fl} (f:Int) (name s:Y0) (h:aQ fs=true):aQ (aY fs f name s).1=true/\(∀n,n≠name->n≠name++cK->lk (aY fs f name s).1 n=lk fs n)∧((aY fs f name s).2.2≠0->lk (aY fs f name s).1 name=lk fs name)/\((aY fs f name s).2.2=0->lk (aY fs f name s).1 name=some (name,s,[])):=by
 unfold aY;rw[if_pos h];split;case isFalse=>exact⟨h,λ_ _ _=>rfl,λ_=>rfl,λh0=>by cases h0⟩
 have hne:=CX name;have c:¬name++cK=name:=hne;have h0:aQ (gj fs f name).1=true/\(∀n,n≠name++cK->lk (gj fs f name).1 n=lk fs n)/\((gj fs f name).2.2=0->lk (gj fs f name).1 (name++cK)=none):=by unfold gj;split;(. rename_i hh;rcases oN (F:=j5 (name++cK)) (f:=f) h with⟨e1,e2⟩|⟨e1,e2,e3⟩;(. rw[e2];exact⟨h,λ_ _=>rfl,λh'=>absurd h' e1⟩);. rw[e3];obtain⟨a,b⟩:=IN h e2;exact⟨a,λn hn=>by rw[b,if_neg (Ne.symm hn)],λ_=>by rw[b,if_pos rfl]⟩);. rename_i hh;refine⟨h,λ_ _=>rfl,λ_=>?_⟩;have:=vE fs (name++cK);cases hk:lk fs (name++cK)with|none=>rfl|some y=>rw[hk]at this;exact absurd this hh
 obtain⟨g0,l0,n0⟩:=h0;have h1:aQ (fR fs f name s).1=true/\(∀n,n≠name++cK->lk (fR fs f name s).1 n=lk fs n)/\((fR fs f name s).2.2=0->lk (fR fs f name s).1 (name++cK)=some (name++cK,[],s)):=by unfold fR;split;(. rename_i hh;rcases oN (F:=iw (name++cK) s) (f:=(gj fs f name).2.1) g0 with⟨e1,e2⟩|⟨e1,e2,e3⟩;(. rw[e2];exact⟨g0,l0,λh'=>absurd h' e1⟩);. rw[e3];obtain⟨a,b⟩:=IP g0 e2;refine⟨a,λn hn=>by rw[b,if_neg (Ne.symm hn)];exact l0 n hn,λ_=>?_⟩;rw[b,if_pos rfl,n0 hh];rfl);. rename_i hh;exact⟨g0,l0,λh'=>absurd h' hh⟩
 obtain⟨I,l1,n1⟩:=h1;have h2:aQ (fp fs f name s).1=true/\(∀n,n≠name++cK->lk (fp fs f name s).1 n=lk fs n)/\((fp fs f name s).2.2=0->lk (fp fs f name s).1 (name++cK)=some (name++cK,s,[])):=by unfold fp;split;(. rename_i hh;rcases oN (F:=jr (name++cK)) (f:=(fR fs f name s).2.1) I with⟨e1,e2⟩|⟨e1,e2,e3⟩;(. rw[e2];exact⟨I,l1,λh'=>absurd h' e1⟩);. rw[e3];obtain⟨a,b⟩:=Id I e2;refine⟨a,λn hn=>by rw[b,if_neg (Ne.symm hn)];exact l1 n hn,λ_=>?_⟩;rw[b,if_pos rfl,n1 hh];rfl);. rename_i hh;exact⟨I,l1,λh'=>absurd h' hh⟩
 obtain⟨Z,l2,n2⟩:=h2;unfold ie;split;. rename_i hh;rcases oN (F:=iN (name++cK) name) (f:=(fp fs f name s).2.1) Z with⟨e1,e2⟩|⟨e1,e2,e3⟩;(. rw[e2];exact⟨Z,λn _ hn=>l2 n hn,λ_=>l2 name hne.symm,λh'=>absurd h' e1⟩);. rw[e3];obtain⟨a,b⟩:=I7 Z hne e2;refine⟨a,λn hn hn2=>by rw[b,if_neg (Ne.symm hn),if_neg (Ne.symm hn2)];exact l2 n hn2,λh'=>absurd e1 h',λ_=>?_⟩;rw[b,if_pos rfl,n2 hh];rfl
 . rename_i hh;exact⟨Z,λn _ hn=>l2 n hn,λ_=>l2 name hne.symm,λh'=>absurd h' hh⟩
end Go.Proofs.YtdpombnelangjaaGreatDoor
