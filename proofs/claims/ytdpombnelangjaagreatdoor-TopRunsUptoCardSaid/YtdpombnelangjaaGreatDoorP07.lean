/- Lemmas for TopRuns; each states its conditions. -/
import Derived.Test.YtdpombnelangjaaGreatDoorP06
namespace Go.Proofs.YtdpombnelangjaaGreatDoor
open Go.RowKit
set_option maxRecDepth 100000
set_option maxHeartbeats 64000000
open Go.Proofs.Tryz renaming prog → Ao
open Calls renaming mono → Bo
open Gr renaming refl → B4
open Nat renaming le_refl → Dg
theorem cd.erase {fs:List Fl} (h:cd fs) (k:Nat):cd (fs.eraseIdx k):=h.sublist (List.eraseIdx_sublist fs k)
def pq (dst:Y0) (f:Fl) (g:List Fl):List Fl:=if cS dst g then g.set (bJ dst g) (dst,f.2)else fD (bJ dst g) (dst,f.2) g
def iN (frm dst:Y0) (fs:List Fl):List Fl×Int:=
 if em dst then
  (if cS frm fs then(pq dst (fs.getD (bJ frm fs) ([],[],[])) (fs.eraseIdx (bJ frm fs)),0)else(fs,7))
 else(fs,2)
theorem DQ {w:World} {B e n cap g:Nat} {fs:List Fl} (h:w.ownsRow B e 3 (.slice (some ⟨g,0,none⟩) n cap) n (fs.flatMap ap)) (i:Nat) (x:Fl) (nm z v:Y0) (hi:fs[i]?=some x):(((w.setCell (g,i*3) nm).setCell (g,i*3+1) z).setCell (g,i*3+2) v).ownsRow B e 3 (.slice (some ⟨g,0,none⟩) n cap) n ((fs.set i (nm,z,v)).flatMap ap):=by
 obtain⟨a,b,c⟩:=x;obtain⟨hl,hg⟩:=List.getElem?_eq_some_iff.1 hi
 have T:(fs.flatMap ap).length=fs.length*3:=cW ap 3 (λ_=>rfl) fs
 have o1:=oh h (i*3+0) zfR nm;rw[pd fs i hl 0 nm (nm,b,c) om (by rw[hg];rfl)]at o1;have:=p8 o1 i nm b c z v (by rw[List.getElem?_set_self hl]);rw[List.set_set]at this;exact this
theorem yW (frm dst:Y0) (c1 c2:Nat) (w0:World) (h1:w0.cell? (c1,0)=dst) (h2:w0.cell? (c2,0)=frm) (Me:dst.length<=1099511627776):s8 207 #[.pointer (some ⟨c1,0,none⟩),.pointer (some ⟨c2,0,none⟩)] (iN frm dst) w0:=by
 intro wb w q A n cap u fs g0 gc hd hgf;show Calls Ao 207 #[.pointer (some ⟨q,0,none⟩),.pointer (some ⟨c1,0,none⟩),.pointer (some ⟨c2,0,none⟩)] w _
 have hl:=hd.len;have J:fs.length<=400:=kZ hgf;have j:ab (∀W,Gr wb W->W.cell? (c1,0)=dst):=aa (λW g=>((g0.trans g).cells.1 c1 _ (World.block_lt_of_cell? w0 _ h1)).trans h1);have f:ab (∀W,Gr wb W->W.cell? (c2,0)=frm):=aa (λW g=>((g0.trans g).cells.1 c2 _ (World.block_lt_of_cell? w0 _ h2)).trans h2);have HN:=aa (λw=>lF dst w om);have HD:=aa hd;have HS:=aa (ew hgf);have L:=aa gc;have y:=aa hgf;have e1:=j.o w gc;clear h1 h2 g0 gc hd hgf
 cases hnb:em dst with
 |false=>
  have HR:ab (iN frm dst fs=(fs,2)):=aa (by unfold iN;rw[hnb];rfl)
  rw[HR.o]
  rw[hnb]at HN
  go_enter Tryz.func207,Tryz.ntmps207
  exact zbo
 |true=>
  rw[hnb]at HN
  have Kc:=aa hnb
  clear hnb
  obtain⟨k,hk⟩:=zq (bJ frm fs)
  have HK:=aa hk
  clear hk
  obtain⟨B,hB⟩:=zq (cS frm fs)
  have HB:=aa hB
  clear hB
  go_enter Tryz.func207,Tryz.ntmps207
  go_upto_region 3 with(go_at_call 156;refine(HN.o _).mono ?_;rintro e w1 ⟨rfl,I⟩)
  have E:=aa (HD.o.gr I)
  have d0:w1.cell? (q,0)=(A,n,cap):=E.o.blk.cell 0
  have d1:w1.cell? (q,1)=u:=E.o.blk.cell 1
  have Ki:w1.cell? (c2,0)=frm:=f.o _ (L.o.trans I)
  go_cut [5,6]from 8 to 67 (λv5 v6 wx=>v5=.int .i64 (k:Int)/\v6=.bool B/\Gr w1 wx)
  case first=>
   go_region_with (go_at_call 114;refine(ef fs frm A n cap u w1.drew om (aO.gr (ak.own E.o.own) (B4 _).drew) HS.o).mono ?_;rw[<-HK.o,<-HB.o];rintro e w2 ⟨rfl,Z⟩)
   all_goals(go_wp2_with fail;go_meet;exact⟨rfl,rfl,Gr.trans (B4 _).drew Z⟩)
  case rest=>
   obtain⟨rfl,rfl,gx⟩:=hcut
   have H:=aa (E.o.gr gx)
   have t:Gr wb wc:=L.o.trans (I.trans gx)
   clear d0 d1 Ki
   cases B with
   |false=>
    have HR:ab (iN frm dst fs=(fs,7)):=aa (by unfold iN;rw[Kc.o,if_pos rfl,<-HB.o];rfl)
    exact zc7
   |true=>
    have hX:=kO HS.o HB.o.symm
    rw[<-HK.o]at hX
    obtain⟨S,La⟩:=hX
    have Kn:(k:Int)<(n:Int):=om
    obtain⟨b,rfl,R,Nh,z0,z1,z2,V⟩:=H.o.at S
    have i:fs[k]?=some fs[k]:=List.getElem?_eq_getElem S
    have G:fs.getD (bJ frm fs) ([],[],[])=fs[k]:=by
     exact zdN
    obtain⟨x,P⟩:=zq (fs[k])
    rw[<-P]at z0 z1 z2 i G
    obtain⟨nm,z,v⟩:=x
    simp only at z0 z1 z2
    have HR:ab (iN frm dst fs=(pq dst (nm,z,v) (fs.eraseIdx k),0)):=aa (by unfold iN;rw[Kc.o,if_pos rfl,<-HB.o,if_pos rfl,G,<-HK.o])
    have C:k<n:=om
    clear P La S V i G
    have O:wc.cell? (q,0)=((b,0),n,cap):=H.o.blk.cell 0
    have Li:ab (∀W,Gr wc W->Calls Ao 203 #[((b,0),n,cap),k,.int .i64 ((k:Int)+1)] W λe w'=>
     e=.returned ((b,0),n-1,cap)/\w'.ownsRow wb.heap.size 70 3 (.slice (some ⟨b,0,none⟩) (n-1) cap) (n-1) ((fs.eraseIdx k).flatMap ap)/\W.grownBy w' (Value.ownBlock (.slice (some ⟨b,0,none⟩) n cap))):=aa
     (λW g=>tH (some ⟨b,0,none⟩) n cap k wb.heap.size fs W (H.o.gr g).own C om)
    have Lg:IntKind.i64.wrap ((k:Int)+1)=(k:Int)+1:=IntWalk.i64_in _ om
    clear C
    have X:wc.cell? (c1,0)=dst:=j.o _ t
    have Kk:(wc.alloc (.cells #[nm,z,v] 70)).cell? (c1,0)=dst:=j.o _ (t.alloc _)
    have Y:(wc.alloc (.cells #[dst,z,v] 70)).cell? (q,0)=((b,0),n,cap):=(H.o.blk.alloc _).cell 0
    have c:ab (∀w3,(wc.alloc (.cells #[dst,z,v] 70)).grownBy w3 (Value.ownBlock (.slice (some ⟨b,0,none⟩) n cap))->ag w3 wc.heap.size 70 #[dst,z,v]):=aa (λw3 F=>
     (ag.new wc _ _).grown F (λe=>by have:=(H.o.own.lt _ e.symm).2;omega))
    have Lj:=aa (H.o.gr ((B4 wc).alloc (.cells #[dst,z,v] 70)))
    have Kl:q<wc.heap.size:=H.o.blk.lt
    go_upto_region 9 with(go_at_call 203;refine(Li.o _ ((B4 wc).alloc _)).mono ?_;rintro e w3 ⟨rfl,ho,F⟩;obtain⟨Ks,l,N⟩:=Lj.o.del ho F;have s:w3.cell? (q,0)=((b,0),n,cap):=Ks.cell 0;have Kb:w3.frozen? (q,0)=false:=Ks.frozen 0)
    have Eq:=(c.o w3 F).far (p:=⟨q,0,none⟩) (by show wc.heap.size≠q;omega) (.slice (some ⟨b,0,none⟩) (n-1) cap)
    have g6:=N wb rfl (t.alloc _)
    obtain⟨w6,Lf⟩:=zq (w3.setCell (q,0) ((b,0),n-1,cap))
    obtain⟨r,hr⟩:=zq (wc.heap.size)
    rw[<-Lf,<-hr]at Eq
    rw[<-Lf]at l g6
    rw[<-Lf,<-hr]
    have K:=aa l
    have Km:=aa Eq
    have Lo:=aa g6
    have Lq:wb.heap.size<=r:=by have:=t.size;omega
    clear Lf hr Eq l g6 N Ks s Kb ho F Li c Lj Y Kk X O z0 z1 z2 Kl
    obtain⟨m,hm⟩:=zq (n-1)
    rw[<-hm]at K
    rw[<-hm]
    have Kq:m<=400:=om
    clear hm
    obtain⟨g,hg⟩:=zq (fs.eraseIdx k)
    have Kp:ab (cd g):=aa (by rw[hg];exact HS.o.erase k)
    rw[<-hg]at K HR
    clear hg
    obtain⟨k2,Kn⟩:=zq (bJ dst g)
    obtain⟨B2,a⟩:=zq (cS dst g)
    have Ko:=aa Kn
    have Kh:=aa a
    have Lr:=K.o.len
    clear Kn a
    have Kr:w6.cell? (q,0)=((b,0),m,cap):=K.o.blk.cell 0
    have Ke:w6.cell? (q,1)=u:=K.o.blk.cell 1
    have Kf:w6.cell? (c1,0)=dst:=j.o _ Lo.o
    go_cut [5,6]from 8 to 67 (λv5 v6 wx=>v5=.int .i64 (k2:Int)/\v6=.bool B2/\Gr w6 wx)
    case first=>
     go_region_with (go_at_call 114;refine(ef g dst (some ⟨b,0,none⟩) m cap u w6.drew om (aO.gr (ak.own K.o.own) (B4 _).drew) Kp.o).mono ?_;rw[<-Ko.o,<-Kh.o];rintro e w2 ⟨rfl,Z⟩)
     all_goals(go_wp2_with fail;go_meet;exact⟨rfl,rfl,Gr.trans (B4 _).drew Z⟩)
    case rest=>
     obtain⟨rfl,rfl,gy⟩:=hcut
     clear Kr Ke Kf
     have d:=aa (K.o.gr gy)
     have Kd:=aa (Km.o.gr gy)
     have Q:Gr wb wc:=Lo.o.trans gy
     have f0:wc.cell? (r,0)=dst:=Kd.o.cell 0
     have f1:wc.cell? (r,1)=z:=Kd.o.cell 1
     have f2:wc.cell? (r,2)=v:=Kd.o.cell 2
     have Kz:wc.cell? (q,0)=((b,0),m,cap):=d.o.blk.cell 0
     have Lb:wc.frozen? (q,0)=false:=d.o.blk.frozen 0
     cases B2 with
     |true=>
      have hX:=kO Kp.o Kh.o.symm
      rw[<-Ko.o]at hX
      obtain⟨Kw,Kx⟩:=hX
      have Kv:(k2:Int)<(m:Int):=om
      obtain⟨b2,Ka,_,_,z0,z1,z2,V⟩:=d.o.at Kw
      injection Ka with Ka
      injection Ka with Ka
      subst Ka
      have Lc:wc.frozen? (b,k2*3)=false:=V 0 om
      have Kt:wc.frozen? (b,k2*3+1)=false:=V 1 om
      have Kg:wc.frozen? (b,k2*3+2)=false:=V 2 om
      have Kj:ab (pq dst (nm,z,v) g=g.set k2 (dst,z,v)):=aa (by unfold pq;rw[<-Kh.o,if_pos rfl,<-Ko.o])
      go_wp2_with fail
      go_region
      go_wp2_with fail
      go_ret
      rw[HR.o,Kj.o]
      have Il:g[k2]?=some g[k2]:=List.getElem?_eq_getElem Kw
      have Ku:eh (((wc.setCell (b,k2*3) dst).setCell (b,k2*3+1) z).setCell (b,k2*3+2) v) wb.heap.size q (some ⟨b,0,none⟩) m cap u (g.set k2 (dst,z,v)):=
       ⟨((d.o.blk.far (p:=⟨b,k2*3,none⟩) (Ne.symm Nh) _).far (p:=⟨b,k2*3+1,none⟩) (Ne.symm Nh) _).far (p:=⟨b,k2*3+2,none⟩) (Ne.symm Nh) _,DQ d.o.own k2 _ dst z v Il,d.o.base⟩
      exact⟨rfl,(((Q.setCell (p:=⟨b,k2*3,none⟩) R _).setCell (p:=⟨b,k2*3+1,none⟩) R _).setCell (p:=⟨b,k2*3+2,none⟩) R _).drew,λ_=>⟨_,_,_,Ku.gr (B4 _).drew⟩⟩
     |false=>
      have T:k2<=m:=by rw[Ko.o,<-Lr];exact oy dst g
      have M:ab (Calls Ao 205 #[((b,0),m,cap),k2,((wc.heap.size,0),1,1)] (wc.alloc (.cells #[dst,z,v] 70)).drew λe w'=>
       ∃U D,e=.returned (.slice U (m+1) D)/\w'.ownsRow wb.heap.size 70 3 (.slice U (m+1) D) (m+1) ((fD k2 (dst,z,v) g).flatMap ap)/\(wc.alloc (.cells #[dst,z,v] 70)).drew.grownBy w' (Value.ownBlock (.slice (some ⟨b,0,none⟩) m cap))):=aa (by
       refine sZ (some ⟨b,0,none⟩) m cap k2 wc.heap.size 1 wb.heap.size g (dst,z,v) _ (av d.o.own ((B4 wc).alloc _).drew) T om ((ag.new wc _ _).gr (B4 _).drew) (λh=>?_) ?_
       . have:=(d.o.own.lt _ h).2;omega
       . have:=Q.size;have:=(((B4 wc).alloc (.cells #[dst,z,v] 70)).drew).size;omega)
      have HI:ab (∀(U:Yy) (D:Nat) (w3:World) (o:Obj),w3.ownsRow wb.heap.size 70 3 (U,m+1,D) (m+1) ((fD k2 (dst,z,v) g).flatMap ap)->(wc.alloc o).drew.grownBy w3 (Value.ownBlock (.slice (some ⟨b,0,none⟩) m cap))→
       w3.cell? (q,0)=((b,0),m,cap)/\w3.frozen? (q,0)=false/\ab (eh (w3.setCell (q,0) (U,m+1,D)) wb.heap.size q U (m+1) D u (fD k2 (dst,z,v) g)/\Gr wb (w3.setCell (q,0) (U,m+1,D)))):=aa (λU D w3 o ho F=>by
        obtain⟨x1,x2,x3⟩:=d.o.ins ho F
        exact⟨x1.cell 0,x1.frozen 0,aa ⟨x2,x3 wb rfl Q⟩⟩)
      have Kj:ab (pq dst (nm,z,v) g=fD k2 (dst,z,v) g):=aa (by unfold pq;rw[<-Kh.o,<-Ko.o];rfl)
      have Y:(wc.alloc (.cells #[dst,z,v] 70)).cell? (q,0)=((b,0),m,cap):=(d.o.blk.alloc _).cell 0
      clear T
      go_wp2_with fail
      go_region_with (go_at_call 205;refine M.o.mono ?_;rintro e w3 ⟨U,D,rfl,ho,F⟩;obtain⟨O,Ky,Lt⟩:=HI.o U D w3 _ ho F)
      all_goals(go_wp2_with fail;go_ret;rw[HR.o,Kj.o];exact⟨rfl,Lt.o.2,λ_=>⟨_,_,_,Lt.o.1⟩⟩)
theorem tB (frm dst:Y0) (fs:List Fl) (A:Yy) (n cap:Nat) (f:Int) (w:World) (hn:n<=1099511627776) (hx:aO w A n fs) (hA:A=none->n=0/\cap=0) (hs:∀f∈fs,f.1.length<=1099511627776/\f.2.1.length<=1099511627776/\f.2.2.length<=1099511627776) (hf:-9223372036854775808<=f/\f<=9223372036854775807) (Kx:dst.length<=1099511627776):Calls Ao 175 #[aI A n cap f,frm,dst] w (bI (cj (iN frm dst) fs f) A n cap fs w):=by
 have I:=(B4 w).alloc (.cells #[(A,n,cap),f] 36)
 have Z:=I.alloc (.cells #[frm] 9);have g3:=Z.alloc (.cells #[dst] 9);have g4:=g3.alloc (.cells #[n_,i0] 36);have b1:=(((ag.new w 36 #[(A,n,cap),f]).alloc (.cells #[frm] 9)).alloc (.cells #[dst] 9)).alloc (.cells #[n_,i0] 36)
 have b2:=((ag.new1 w (.cells #[(A,n,cap),f] 36) 9 #[frm]).alloc (.cells #[dst] 9)).alloc (.cells #[n_,i0] 36)
 have b3:=(ag.new2 w (.cells #[(A,n,cap),f] 36) (.cells #[frm] 9) 9 #[dst]).alloc (.cells #[n_,i0] 36)
 have b4:=ag.newAt (w:=((w.alloc (.cells #[(A,n,cap),f] 36)).alloc (.cells #[frm] 9)).alloc (.cells #[dst] 9)) (g:=w.heap.size+1+1+1) (by simp) 36 #[n_,i0];obtain⟨J,H⟩:=zq ((((w.alloc (.cells #[(A,n,cap),f] 36)).alloc (.cells #[frm] 9)).alloc (.cells #[dst] 9)).alloc (.cells #[n_,i0] 36));rw[<-H]at b1 b2 b3 b4 g4;obtain⟨p,V⟩:=zq (w.heap.size);have Kd:w.heap.size<=p:=om;rw[<-V]at b1 b2 b3 b4;have c0:J.cell? (p,0)=(A,n,cap):=b1.cell 0;have c1:J.cell? (p,1)=f:=b1.cell 1;have HS:=aa (pr 207 #[.pointer (some ⟨p+1+1,0,none⟩),.pointer (some ⟨p+1,0,none⟩)] (iN frm dst) (eV Tryz.func207 zc0 rfl) fs A n cap f J hn (hx.gr g4) hA hs hf (yW frm dst (p+1+1) (p+1) J (b3.cell 0) (b2.cell 0) Kx));have v:=aa b4;have Mc:=aa g4;clear hx hA hs I Z g3 g4 b1 b2 b3 b4;unfold aI at HS;unfold aI;have Nc:∀(fn:Fn) (first cap:Array Value) (w:World),(Instr.makeFunc fn first cap).run Ao w=.ok (.func fn first cap) w:=λ_ _ _ _=>rfl
 obtain⟨R,hR⟩:=zq (cj (iN frm dst) fs f);rw[<-hR]at HS;rw[<-hR];clear hR;obtain⟨a,m,Y⟩:=R;go_enter Tryz.func175,Tryz.ntmps175
 exact zav
end Go.Proofs.YtdpombnelangjaaGreatDoor
