/- Lemmas for TopRuns; each states its conditions. -/
import Derived.Test.YtdpombnelangjaaGreatDoorP01
import Derived.Test.YtdpombnelangjaaGreatDoorP05
namespace Go.Proofs.YtdpombnelangjaaGreatDoor
open Go.RowKit
set_option maxRecDepth 100000
set_option maxHeartbeats 64000000
set_option linter.unusedVariables false
open Go.Proofs.Tryz renaming prog → Ao
open Calls renaming mono → Bo
open Gr renaming refl → B4
open Nat renaming le_refl → Dg
theorem eh.len {w:World} {B q n cap:Nat} {A:Yy} {u:Int} {fs:List Fl} (h:eh w B q A n cap u fs):fs.length=n:=aO.len (ak.own h.own)
theorem eh.at {w:World} {B q n cap:Nat} {A:Yy} {u:Int} {fs:List Fl} (h:eh w B q A n cap u fs) {k:Nat} (hk:k<fs.length):∃b,A=some ⟨b,0,none⟩/\B<=b/\b≠q/\w.cell? ⟨b,k*3,none⟩=some (.string (bs fs[k].1))/\w.cell? ⟨b,k*3+1,none⟩=some (.string (bs fs[k].2.1))/\w.cell? ⟨b,k*3+2,none⟩=some (.string (bs fs[k].2.2))∧(∀j,j<3->w.frozen? ⟨b,k*3+j,none⟩=false):=by
 have hl:=h.len;have hne:=h.ne;obtain⟨b,off,e,h0,h1,h2⟩:=aO.cell (ak.own h.own) hk;rcases h.own.2 with⟨_,h0⟩|⟨g,c,d,a,hB,hh,z,hm,hs,ht⟩
 . omega
 . injection a with e1 e2 e3;rw[e1]at e;injection e with e;injection e with e4 e5;subst e4 e5;simp only[Nat.zero_add]at h0 h1 h2;have hb:ag w g 70 d:=hh;exact⟨g,e1,hB,λe=>hne (by rw[e1];simp[Value.ownBlock,e]),h0,h1,h2,λj hj=>hb.frozen _⟩
theorem Hh {w:World} {B e n cap g:Nat} {fs:List Fl} (h:w.ownsRow B e 3 ((g,0),n,cap) n (fs.flatMap ap)) (i:Nat) (nm z v t:Y0) (hi:fs[i]?=some (nm,z,v)):(w.setCell (g,i*3+2) t).ownsRow B e 3 ((g,0),n,cap) n ((fs.set i (nm,z,t)).flatMap ap):=by
 obtain⟨hl,hg⟩:=List.getElem?_eq_some_iff.1 hi
 have T:(fs.flatMap ap).length=fs.length*3:=cW ap 3 (λ_=>rfl) fs
 have o1:=oh h (i*3+2) zfR t;rw[pd fs i hl 2 t (nm,z,t) om (by rw[hg];rfl)]at o1;exact o1
theorem eh.tail {w:World} {B q n cap b:Nat} {u:Int} {fs:List Fl} (h:eh w B q (some (b,0)) n cap u fs) (i:Nat) (nm z v t:Y0) (hi:fs[i]?=some (nm,z,v)) (hb:b≠q):
 eh (w.setCell (b,i*3+2) t) B q (some (b,0)) n cap u (fs.set i (nm,z,t)):=
 ⟨h.blk.far (p:=⟨b,i*3+2,none⟩) (Ne.symm hb) _,Hh h.own i nm z v t hi,h.base⟩
theorem eh.ins {w w3:World} {B q n cap D i:Nat} {A U:Yy} {u:Int} {fs:List Fl} {f:Fl} {o:Obj} (h:eh w B q A n cap u fs) (ho:w3.ownsRow B 70 3 (U,n+1,D) (n+1) ((fD i f fs).flatMap ap)) (F:(w.alloc o).drew.grownBy w3 (Value.ownBlock (A,n,cap))):ag w3 q 36 #[(A,n,cap),u]/\eh (w3.setCell (q,0) (U,n+1,D)) B q U (n+1) D u (fD i f fs)/\(∀wc,wc.heap.size=B->Gr wc w->Gr wc (w3.setCell (q,0) (U,n+1,D))):=by
 have hb:ag w3 q 36 #[(A,n,cap),u]:=((h.blk.alloc o).gr (B4 _).drew).grown F (Ne.symm h.ne)
 refine⟨hb,⟨hb.set_ 0 _,ownsRow_setCell_other ho (a:=⟨q,0,none⟩) (bD ho hb dc0) _,h.base⟩,λwc hB hg=>?_⟩;subst hB;exact(Gr.grown (hg.alloc o).drew F (λk hk=>(h.own.lt k hk).1)).setCell (p:=⟨q,0,none⟩) h.base _
def dF (name:Y0) (fs:List Fl):List Fl:=if cS name fs then fs else fD (bJ name fs) (name,[],[]) fs
def iw (name s:Y0) (fs:List Fl):List Fl×Int:=
 if em name then
  if cS name fs=false/\400<=fs.length then(fs,6)
  else
   if((dF name fs).getD (bJ name fs) ([],[],[])).2.1.length+((dF name fs).getD (bJ name fs) ([],[],[])).2.2.length+s.length<=1048576 then
    ((dF name fs).set (bJ name fs) (((dF name fs).getD (bJ name fs) ([],[],[])).1,((dF name fs).getD (bJ name fs) ([],[],[])).2.1,((dF name fs).getD (bJ name fs) ([],[],[])).2.2++s),0)
   else(fs,1)
 else(fs,2)
theorem xO (i:Nat) (f:Fl) (fs:List Fl) (h:i<=fs.length):(fD i f fs)[i]?=some f:=by
 unfold fD;rw[List.getElem?_append_right zc4];simp[Nat.min_eq_left h]
theorem yd (name:Y0) (fs:List Fl) (hg:aQ fs=true):∃(h:bJ name fs<(dF name fs).length),(dF name fs)[bJ name fs].1=name/\(dF name fs)[bJ name fs].2.1.length+(dF name fs)[bJ name fs].2.2.length<=1048576:=by
 unfold dF;cases hh:cS name fs with|true=>(obtain⟨h1,h2⟩:=kO (ew hg) hh;exact⟨h1,h2,(iK hg _ (List.getElem_mem h1)).2.2⟩)|false=>have h1:=xO (bJ name fs) (name,[],[]) fs (oy name fs);(obtain⟨h2,h3⟩:=List.getElem?_eq_some_iff.1 h1);refine⟨h2,?_⟩;simp only[Bool.false_eq_true,if_false];rw[h3];exact⟨rfl,by simp⟩
theorem As (name s:Y0) (c1 c2:Nat) (w0:World) (h1:w0.cell? ⟨c1,0,none⟩=some (.string (bs name))) (h2:w0.cell? ⟨c2,0,none⟩=some (.string (bs s))) (Me:name.length<=1099511627776) (Kx:s.length<=1099511627776):s8 204 #[.pointer (some ⟨c1,0,none⟩),.pointer (some ⟨c2,0,none⟩)] (iw name s) w0:=by
 intro wb w q A n cap u fs g0 gc hd hgf;show Calls Ao 204 #[.pointer (some ⟨q,0,none⟩),.pointer (some ⟨c1,0,none⟩),.pointer (some ⟨c2,0,none⟩)] w _
 have hl:=hd.len;have J:fs.length<=400:=kZ hgf;have j:ab (∀W,Gr w W->W.cell? ⟨c1,0,none⟩=some (.string (bs name))):=aa (λW g=>(((g0.trans gc).trans g).cells.1 c1 _ (World.block_lt_of_cell? w0 _ h1)).trans h1);have f:ab (∀W,Gr wb W->W.cell? ⟨c2,0,none⟩=some (.string (bs s))):=aa (λW g=>((g0.trans g).cells.1 c2 _ (World.block_lt_of_cell? w0 _ h2)).trans h2);have HN:=aa (λw=>lF name w om);have HD:=aa hd;have HS:=aa (ew hgf);have L:=aa gc;have y:=aa hgf;have e1:=j.o w (B4 w);have e2:=f.o w gc;clear h1 h2 g0 gc hd hgf
 cases hnb:em name with
 |false=>
  have HR:ab (iw name s fs=(fs,2)):=aa (by unfold iw;rw[hnb];rfl)
  rw[HR.o]
  rw[hnb]at HN
  go_enter Tryz.func204,Tryz.ntmps204
  exact zbo
 |true=>
  rw[hnb]at HN
  have Kc:=aa hnb
  clear hnb
  obtain⟨k,hk⟩:=zq (bJ name fs)
  have HK:=aa hk
  have C:k<=n:=by rw[hk,<-hl];exact oy name fs
  clear hk
  obtain⟨B,hB⟩:=zq (cS name fs)
  have HB:=aa hB
  clear hB
  go_enter Tryz.func204,Tryz.ntmps204
  go_upto_region 3 with(go_at_call 156;refine(HN.o _).mono ?_;rintro e w1 ⟨rfl,I⟩)
  have E:=aa (HD.o.gr I)
  have d0:w1.cell? ⟨q,0,none⟩=some (.slice A n cap):=E.o.blk.cell 0
  have d1:w1.cell? ⟨q,1,none⟩=some (.int .i64 u):=E.o.blk.cell 1
  have T:w1.cell? ⟨c1,0,none⟩=some (.string (bs name)):=j.o _ I
  go_cut [5,6]from 8 to 67 (λv5 v6 wx=>v5=.int .i64 (k:Int)/\v6=.bool B/\Gr w1 wx)
  case first=>
   go_region_with (go_at_call 114;refine(ef fs name A n cap u w1.drew om (aO.gr (ak.own E.o.own) (B4 _).drew) HS.o).mono ?_;rw[<-HK.o,<-HB.o];rintro e w2 ⟨rfl,Z⟩)
   all_goals(go_wp2_with fail;go_meet;exact⟨rfl,rfl,Gr.trans (B4 _).drew Z⟩)
  case rest=>
   obtain⟨rfl,rfl,gx⟩:=hcut
   have H:=aa (E.o.gr gx)
   have t:Gr wb wc:=L.o.trans (I.trans gx)
   have X:wc.cell? ⟨c1,0,none⟩=some (.string (bs name)):=j.o _ (I.trans gx)
   have Il:wc.cell? ⟨c2,0,none⟩=some (.string (bs s)):=f.o _ t
   have Ka:wc.cell? ⟨q,0,none⟩=some (.slice A n cap):=H.o.blk.cell 0
   have Kb:wc.cell? ⟨q,1,none⟩=some (.int .i64 u):=H.o.blk.cell 1
   have Kd:wc.frozen? ⟨q,0,none⟩=false:=H.o.blk.frozen 0
   clear d0 d1 T
   by_cases c:B=false/\400<=n
   . have HR:ab (iw name s fs=(fs,6)):=aa (by unfold iw;rw[Kc.o,if_pos rfl,if_pos ⟨by rw[<-HB.o];exact c.1,om⟩])
     obtain⟨Ke,Ko⟩:=c
     subst Ke
     have h4:(400:Int)<=(n:Int):=om
     exact zc7
   . have K:=aa c
     clear c
     go_upto_if 20 with fail
     go_cut []from 21 to 67 (λwx=>∃(U:Yy) (n' D:Nat),ab (eh wx wb.heap.size q U n' D u (dF name fs))/\Gr wb wx)
     case first=>
      cases B with
      |true=>
       go_wp2_with fail
       go_meet
       exact⟨A,n,cap,by unfold dF;rw[<-HB.o];exact H,t⟩
      |false=>
       have h4:¬(400:Int)<=(n:Int):=by have:=K.o;simp at this;omega
       have HI:ab (∀(U:Yy) (D:Nat) (w3:World) (o:Obj),w3.ownsRow wb.heap.size 70 3 (.slice U (n+1) D) (n+1) ((fD k (name,[],[]) fs).flatMap ap)->(wc.alloc o).drew.grownBy w3 (Value.ownBlock (.slice A n cap))→
        w3.cell? ⟨q,0,none⟩=some (.slice A n cap)/\w3.frozen? ⟨q,0,none⟩=false/\(∃(A1:Yy) (n1 cap1:Nat),ab (eh (w3.setCell ⟨q,0,none⟩ (.slice U (n+1) D)) wb.heap.size q A1 n1 cap1 u (dF name fs))/\Gr wb (w3.setCell ⟨q,0,none⟩ (.slice U (n+1) D)))):=aa (λU D w3 o ho F=>by
         obtain⟨x1,x2,x3⟩:=H.o.ins ho F
         refine⟨x1.cell 0,x1.frozen 0,U,n+1,D,?_,x3 wb rfl t⟩
         unfold dF;rw[<-HB.o,<-HK.o];exact aa x2)
       have M:ab (Calls Ao 205 #[.slice A n cap,.int .i64 (k:Int),.slice (some ⟨wc.heap.size,0,none⟩) 1 1] (wc.alloc (.cells #[.string (bs name),.string (bs []),.string (bs [])] 70)).drew λe w'=>
        ∃U D,e=.returned (.slice U (n+1) D)/\w'.ownsRow wb.heap.size 70 3 (.slice U (n+1) D) (n+1) ((fD k (name,[],[]) fs).flatMap ap)/\(wc.alloc (.cells #[.string (bs name),.string (bs []),.string (bs [])] 70)).drew.grownBy w' (Value.ownBlock (.slice A n cap))):=aa (by
        refine sZ A n cap k wc.heap.size 1 wb.heap.size fs (name,[],[]) _ (av H.o.own ((B4 wc).alloc _).drew) C om ((ag.new wc _ _).gr (B4 _).drew) (λh=>?_) ?_
        . have:=(H.o.own.lt _ h).2;omega
        . have:=t.size;have:=(((B4 wc).alloc (.cells #[.string (bs name),.string (bs []),.string (bs [])] 70)).drew).size;omega)
       have Y:(wc.alloc (.cells #[.string (bs name),.string (bs []),.string (bs [])] 70)).cell? ⟨q,0,none⟩=some (.slice A n cap):=(H.o.blk.alloc _).cell 0
       go_upto_region 7 with fail
       go_region_with (go_at_call 205;refine M.o.mono ?_;rintro e w3 ⟨U,D,rfl,ho,F⟩;obtain⟨O,Ky,Lt⟩:=HI.o U D w3 _ ho F)
       all_goals(go_wp2_with fail;go_meet;exact Lt)
     case rest=>
      obtain⟨A2,n2,r,d,Q⟩:=hcut
      have l:ab (¬(cS name fs=false/\400<=fs.length)):=aa (λh=>K.o ⟨by rw[HB.o];exact h.1,om⟩)
      clear X Il Ka Kb Kd t H gx I E K C HD HN j
      have hX:=yd name fs y.o
      rw[<-HK.o]at hX
      obtain⟨S,La,hsz⟩:=hX
      have hn2:=d.o.len
      have Kn:(k:Int)<(n2:Int):=om
      obtain⟨b,rfl,R,Nh,z0,z1,z2,V⟩:=d.o.at S
      have Kg:wc.frozen? ⟨b,k*3+2,none⟩=false:=V 2 om
      have i:(dF name fs)[k]?=some (dF name fs)[k]:=List.getElem?_eq_getElem S
      have G:(dF name fs).getD (bJ name fs) ([],[],[])=(dF name fs)[k]:=by
       exact zdN
      obtain⟨x,P⟩:=zq ((dF name fs)[k])
      rw[<-P]at z0 z1 z2 i G hsz
      clear P La S V
      obtain⟨nm,z,v⟩:=x
      simp only at z0 z1 z2 hsz
      have Eq:wc.cell? ⟨c2,0,none⟩=some (.string (bs s)):=f.o _ Q
      have O:wc.cell? ⟨q,0,none⟩=some (.slice (some ⟨b,0,none⟩) n2 r):=d.o.blk.cell 0
      by_cases a:z.length+v.length+s.length<=1048576
      . have HR:ab (iw name s fs=((dF name fs).set k (nm,z,v++s),0)):=aa (by
         unfold iw;rw[Kc.o,if_pos rfl,if_neg l.o,G,if_pos a,<-HK.o])
        have N:ab (∀m,eh ((wc.drewN m).setCell ⟨b,k*3+2,none⟩ (.string (bs (v++s)))) wb.heap.size q (some ⟨b,0,none⟩) n2 r u ((dF name fs).set k (nm,z,v++s))):=aa (λm=>(d.o.gr ((B4 wc).drewN m)).tail k nm z v (v++s) i Nh)
        have y:=aa (λm=>(Q.drewN m).setCell (p:=⟨b,k*3+2,none⟩) R (.string (bs (v++s))))
        clear i G
        go_wp2_with fail
        go_quiet (fail)
        go_wp2_with fail
        go_region
        go_wp2_with fail
        go_ret
        rw[HR.o]
        exact⟨rfl,y.o _,λ_=>⟨_,_,_,N.o _⟩⟩
      . have HR:ab (iw name s fs=(fs,1)):=aa (by
         unfold iw;rw[Kc.o,if_pos rfl,if_neg l.o,G,if_neg a])
        clear i G
        go_wp2_with fail
        go_quiet (fail)
        go_wp2_with fail
        go_ret
        rw[HR.o]
        exact⟨rfl,Q.drewN _,λh=>by cases h⟩
theorem us (name s:Y0) (fs:List Fl) (A:Yy) (n cap:Nat) (f:Int) (w:World) (hn:n<=1099511627776) (hx:aO w A n fs) (hA:A=none->n=0/\cap=0) (hs:∀f∈fs,f.1.length<=1099511627776/\f.2.1.length<=1099511627776/\f.2.2.length<=1099511627776) (hf:-9223372036854775808<=f/\f<=9223372036854775807) (Me:name.length<=1099511627776) (Kx:s.length<=1099511627776):Calls Ao 173 #[aI A n cap f,.string (bs name),.string (bs s)] w (bI (cj (iw name s) fs f) A n cap fs w):=by
 have I:=(B4 w).alloc (.cells #[.slice A n cap,.int .i64 f] 36)
 have Z:=I.alloc (.cells #[.string (bs name)] 9);have g3:=Z.alloc (.cells #[.string (bs s)] 9);have g4:=g3.alloc (.cells #[.slice none 0 0,.int .i64 0] 36);have b1:=(((ag.new w 36 #[.slice A n cap,.int .i64 f]).alloc (.cells #[.string (bs name)] 9)).alloc (.cells #[.string (bs s)] 9)).alloc (.cells #[.slice none 0 0,.int .i64 0] 36)
 have b2:=((ag.new1 w (.cells #[.slice A n cap,.int .i64 f] 36) 9 #[.string (bs name)]).alloc (.cells #[.string (bs s)] 9)).alloc (.cells #[.slice none 0 0,.int .i64 0] 36)
 have b3:=(ag.new2 w (.cells #[.slice A n cap,.int .i64 f] 36) (.cells #[.string (bs name)] 9) 9 #[.string (bs s)]).alloc (.cells #[.slice none 0 0,.int .i64 0] 36)
 have b4:=ag.newAt (w:=((w.alloc (.cells #[.slice A n cap,.int .i64 f] 36)).alloc (.cells #[.string (bs name)] 9)).alloc (.cells #[.string (bs s)] 9)) (g:=w.heap.size+1+1+1) (by simp) 36 #[.slice none 0 0,.int .i64 0];obtain⟨J,H⟩:=zq ((((w.alloc (.cells #[.slice A n cap,.int .i64 f] 36)).alloc (.cells #[.string (bs name)] 9)).alloc (.cells #[.string (bs s)] 9)).alloc (.cells #[.slice none 0 0,.int .i64 0] 36));rw[<-H]at b1 b2 b3 b4 g4;obtain⟨p,V⟩:=zq (w.heap.size);have Kd:w.heap.size<=p:=om;rw[<-V]at b1 b2 b3 b4;have c0:J.cell? ⟨p,0,none⟩=some (.slice A n cap):=b1.cell 0;have c1:J.cell? ⟨p,1,none⟩=some (.int .i64 f):=b1.cell 1;have HS:=aa (pr 204 #[.pointer (some ⟨p+1,0,none⟩),.pointer (some ⟨p+1+1,0,none⟩)] (iw name s) (eV Tryz.func204 zc0 rfl) fs A n cap f J hn (hx.gr g4) hA hs hf (As name s (p+1) (p+1+1) J (b2.cell 0) (b3.cell 0) Me Kx));have v:=aa b4;have Mc:=aa g4;clear hx hA hs I Z g3 g4 b1 b2 b3 b4;unfold aI at HS;unfold aI;have Nc:∀(fn:Fn) (first cap:Array Value) (w:World),(Instr.makeFunc fn first cap).run Ao w=.ok (.func fn first cap) w:=λ_ _ _ _=>rfl
 obtain⟨R,hR⟩:=zq (cj (iw name s) fs f);rw[<-hR]at HS;rw[<-hR];clear hR;obtain⟨a,m,Y⟩:=R;go_enter Tryz.func173,Tryz.ntmps173
 exact zav
theorem eh.del {w w3:World} {B q n cap D i:Nat} {A U:Yy} {u:Int} {fs:List Fl} (h:eh w B q A n cap u fs) (ho:w3.ownsRow B 70 3 (U,n-1,D) (n-1) ((fs.eraseIdx i).flatMap ap)) (F:w.grownBy w3 (Value.ownBlock (A,n,cap))):ag w3 q 36 #[(A,n,cap),u]/\eh (w3.setCell ⟨q,0,none⟩ (U,n-1,D)) B q U (n-1) D u (fs.eraseIdx i)/\(∀wc,wc.heap.size=B->Gr wc w->Gr wc (w3.setCell ⟨q,0,none⟩ (U,n-1,D))):=by
 have hb:ag w3 q 36 #[(A,n,cap),u]:=h.blk.grown F (Ne.symm h.ne);refine⟨hb,⟨hb.set_ 0 _,ownsRow_setCell_other ho (a:=⟨q,0,none⟩) (bD ho hb dc0) _,h.base⟩,λwc hB hg=>?_⟩;subst hB;exact(Gr.grown hg F (λk hk=>(h.own.lt k hk).1)).setCell (p:=⟨q,0,none⟩) h.base _
def j5 (name:Y0) (fs:List Fl):List Fl×Int:=if cS name fs then(fs.eraseIdx (bJ name fs),0)else(fs,7)
theorem yI (name:Y0) (c1:Nat) (w0:World) (h1:w0.cell? ⟨c1,0,none⟩=some (.string (bs name))):s8 202 #[.pointer (some ⟨c1,0,none⟩)] (j5 name) w0:=by
 intro wb w q A n cap u fs g0 gc hd hgf;show Calls Ao 202 #[.pointer (some ⟨q,0,none⟩),.pointer (some ⟨c1,0,none⟩)] w _
 have hl:=hd.len;have J:fs.length<=400:=kZ hgf;have e1:w.cell? ⟨c1,0,none⟩=some (.string (bs name)):=((g0.trans gc).cells.1 c1 _ (World.block_lt_of_cell? w0 _ h1)).trans h1
 have HD:=aa hd;have HS:=aa (ew hgf);have L:=aa gc;have y:=aa hgf;have d0:w.cell? ⟨q,0,none⟩=some (.slice A n cap):=hd.blk.cell 0;have d1:w.cell? ⟨q,1,none⟩=some (.int .i64 u):=hd.blk.cell 1;clear h1 g0 gc hd hgf;obtain⟨k,hk⟩:=zq (bJ name fs);have HK:=aa hk;clear hk;cases hB:cS name fs with|false=>have HR:ab (j5 name fs=(fs,7)):=aa (by unfold j5;rw[hB];rfl);have HB:=aa hB;clear hB;(go_enter Tryz.func202,Tryz.ntmps202);(go_upto_region 1 with fail);(go_cut [4,5]from 6 to 26 (λv5 v6 wx=>v5=.int .i64 (k:Int)/\v6=.bool false/\Gr w wx));(case first=>exact zau);case rest=>exact zcS|true=>(have hX:=kO HS.o hB;rw[<-HK.o]at hX;obtain⟨S,La⟩:=hX;have HB:=aa hB;clear hB;(go_enter Tryz.func202,Tryz.ntmps202);(go_upto_region 1 with fail);(go_cut [4,5]from 6 to 26 (λv5 v6 wx=>v5=.int .i64 (k:Int)/\v6=.bool true/\Gr w wx));(case first=>exact zau);case rest=>obtain⟨rfl,rfl,gx⟩:=hcut;have d:=aa (HD.o.gr gx);have Q:Gr wb wc:=L.o.trans gx;clear d0 d1 e1 HD gx;have Kn:(k:Int)<(n:Int):=om;have O:wc.cell? ⟨q,0,none⟩=some (.slice A n cap):=d.o.blk.cell 0;have HR:ab (j5 name fs=(fs.eraseIdx k,0)):=aa (by unfold j5;rw[HB.o,if_pos rfl,<-HK.o]);have Li:ab (Calls Ao 203 #[.slice A n cap,.int .i64 (k:Int),.int .i64 ((k:Int)+1)] wc λe w'=>e=.returned (.slice A (n-1) cap)/\w'.ownsRow wb.heap.size 70 3 (.slice A (n-1) cap) (n-1) ((fs.eraseIdx k).flatMap ap)/\wc.grownBy w' (Value.ownBlock (.slice A n cap))):=aa (tH A n cap k wb.heap.size fs wc d.o.own om om);have Lg:IntKind.i64.wrap ((k:Int)+1)=(k:Int)+1:=IntWalk.i64_in _ om;(go_wp2_with(go_at_call 203;refine Li.o.mono ?_;rintro e w3 ⟨rfl,ho,F⟩;obtain⟨Ks,l,N⟩:=d.o.del ho F;have s:w3.cell? ⟨q,0,none⟩=some (.slice A n cap):=Ks.cell 0;have Kb:w3.frozen? ⟨q,0,none⟩=false:=Ks.frozen 0));go_ret;rw[HR.o];exact⟨rfl,N wb rfl Q,λ_=>⟨_,_,_,l⟩⟩)
theorem Bd (name:Y0) (fs:List Fl) (A:Yy) (n cap:Nat) (f:Int) (w:World) (hn:n<=1099511627776) (hx:aO w A n fs) (hA:A=none->n=0/\cap=0) (hs:∀f∈fs,f.1.length<=1099511627776/\f.2.1.length<=1099511627776/\f.2.2.length<=1099511627776) (hf:-9223372036854775808<=f/\f<=9223372036854775807):Calls Ao 172 #[aI A n cap f,.string (bs name)] w (bI (cj (j5 name) fs f) A n cap fs w):=by
 have I:=(B4 w).alloc (.cells #[.slice A n cap,.int .i64 f] 36)
 have Z:=I.alloc (.cells #[.string (bs name)] 9);have g4:=Z.alloc (.cells #[.slice none 0 0,.int .i64 0] 36);have b1:=((ag.new w 36 #[.slice A n cap,.int .i64 f]).alloc (.cells #[.string (bs name)] 9)).alloc (.cells #[.slice none 0 0,.int .i64 0] 36)
 have b2:=(ag.new1 w (.cells #[.slice A n cap,.int .i64 f] 36) 9 #[.string (bs name)]).alloc (.cells #[.slice none 0 0,.int .i64 0] 36)
 have b4:=ag.newAt (w:=((w.alloc (.cells #[.slice A n cap,.int .i64 f] 36)).alloc (.cells #[.string (bs name)] 9))) (g:=w.heap.size+1+1) (by simp) 36 #[.slice none 0 0,.int .i64 0];obtain⟨J,H⟩:=zq ((((w.alloc (.cells #[.slice A n cap,.int .i64 f] 36)).alloc (.cells #[.string (bs name)] 9))).alloc (.cells #[.slice none 0 0,.int .i64 0] 36));rw[<-H]at b1 b2 b4 g4;obtain⟨p,V⟩:=zq (w.heap.size);have Kd:w.heap.size<=p:=om;rw[<-V]at b1 b2 b4;have c0:J.cell? ⟨p,0,none⟩=some (.slice A n cap):=b1.cell 0;have c1:J.cell? ⟨p,1,none⟩=some (.int .i64 f):=b1.cell 1;have HS:=aa (pr 202 #[.pointer (some ⟨p+1,0,none⟩)] (j5 name) (eV Tryz.func202 zc0 rfl) fs A n cap f J hn (hx.gr g4) hA hs hf (yI name (p+1) J (b2.cell 0)));have v:=aa b4;have Mc:=aa g4;clear hx hA hs I Z g4 b1 b2 b4;unfold aI at HS;unfold aI;have Nc:∀(fn:Fn) (first cap:Array Value) (w:World),(Instr.makeFunc fn first cap).run Ao w=.ok (.func fn first cap) w:=λ_ _ _ _=>rfl
 obtain⟨R,hR⟩:=zq (cj (j5 name) fs f);rw[<-hR]at HS;rw[<-hR];clear hR;obtain⟨a,m,Y⟩:=R;go_enter Tryz.func172,Tryz.ntmps172
 exact zaw
def FR (old root:Y0):Option IT->Bool
 |some x=>x.1==old&&x.2==root
 |none=>false
def iq (old:Y0) (m:Int) (root:Y0) (n:Int) (ps:List (Y0)):Bool:=
 if 0<=m/\m<=n/\n<=1099511627776 then
  (if m=0 then decide (ps.length=0/\old=aj []/\(0<n\/root=old))else FR old root (jn old m.toNat n.toNat true ps.reverse))
 else false
theorem yC (old c:Y0) (m n:Int) (ps:List (Y0)) (k:Nat) (A:Yy) (cap:Nat) (w:World) (hold:old.length<=1099511627776) (hk:k<=1099511627776) (q:k<=cap) (C:aE w A k ps) (hs:iA ps) (hT:bK w):Calls Ao 171 #[old,m,c,n,(A,k,cap)] w λe w'=>e=.returned (iq old m c n ps)/\Gr w w':=by
 have Kd:=C.len;by_cases h1:0<=m;. by_cases h2:m<=n;(. by_cases h3:n<=1099511627776;(. have q1:¬m<0:=om;have q2:¬n<m:=om;have q3:¬1099511627776<n:=om;by_cases h0:m=0;(. subst h0;have HC:ab (iq old 0 c n ps=decide (ps.length=0/\old=aj []/\(0<n\/c=old))):=aa (by unfold iq;rw[if_pos ⟨h1,h2,h3⟩,if_pos rfl]);by_cases Kt:k=0;(. subst Kt;by_cases ho:old=aj [];(. by_cases Ki:0<n;(. have HF:ab (iq old 0 c n ps=true):=aa (by rw[HC.o];exact decide_eq_true ⟨Kd,ho,.inl Ki⟩);(have t1:(old==aj [])=true:=zg2);clear C Kd HC hs ho;exact zct);. have Lb:n=0:=om;subst Lb;by_cases hr:c=old;(. have HF:ab (iq old 0 c 0 ps=true):=aa (by rw[HC.o];exact decide_eq_true ⟨Kd,ho,.inr hr⟩);(have t1:(old==aj [])=true:=zg2);(have t2:(c==old)=true:=by rw[beq_iff_eq];exact hr);clear C Kd HC hs ho hr;exact zct);. have HF:ab (iq old 0 c 0 ps=false):=aa (by rw[HC.o];exact decide_eq_false (λh=>by rcases h.2.2 with h|h;exact Ki h;exact hr h));(have t1:(old==aj [])=true:=zg2);(have t2:(c==old)=false:=by rw[beq_eq_false_iff_ne];exact hr);clear C Kd HC hs ho hr;exact zct);. have HF:ab (iq old 0 c n ps=false):=aa (by rw[HC.o];exact decide_eq_false (λh=>ho h.2.1));(have t1:(old==aj [])=false:=by rw[beq_eq_false_iff_ne];exact ho);clear C Kd HC hs ho;exact zct);. have HF:ab (iq old 0 c n ps=false):=aa (by rw[HC.o];exact decide_eq_false (λh=>Kt om));(have t1:((k:Int)==0)=false:=zc2);clear C Kd HC hs Kt;(go_enter Tryz.func171,Tryz.ntmps171);(go_wp2_with fail);go_ret;exact⟨by rw[HF.o];rfl,B4 _⟩);. (have t1:(m==0)=false:=by rw[beq_eq_false_iff_ne];exact h0);obtain⟨M,rfl⟩:∃M:Nat,m=M:=⟨m.toNat,om⟩;obtain⟨N,rfl⟩:∃N:Nat,n=N:=⟨n.toNat,om⟩;have HC:ab (iq old M c N ps=FR old c (jn old M N true ps.reverse)):=aa (by unfold iq;rw[if_pos ⟨h1,h2,h3⟩,if_neg h0,Int.toNat_natCast,Int.toNat_natCast]);have HB:=aa (Ek old hold k ps M N true A cap w Kd hk om om om q C hs hT);have HF:ab (∀a b ok,fy old M N true ps.reverse a b ok->iq old M c N ps=(ok&&(a==old)&&(b==c))):=aa (λa b ok h=>by rw[HC.o,h.eq];cases ok<;>rfl);clear C Kd HC hs h0;(go_enter Tryz.func171,Tryz.ntmps171);(go_wp2_with(go_at_call 200;with_reducible refine Bo HB.o ?_;rintro e w2 ⟨a,b2,ok,rfl,hb,Z⟩;have HR:=aa (HF.o _ _ _ hb);clear hb;cases ok));all_goals go_ret;refine⟨?_,Z⟩;rw[HR.o];simp[*]);. have HC:ab (iq old m c n ps=false):=aa (by unfold iq;rw[if_neg (λh=>h3 h.2.2)]);rw[HC.o];have q1:¬m<0:=om;have q2:¬n<m:=om;have q3:1099511627776<n:=om;exact zdK);. have HC:ab (iq old m c n ps=false):=aa (by unfold iq;rw[if_neg (λh=>h2 h.2.1)]);rw[HC.o];have q1:¬m<0:=om;have q2:n<m:=om;exact zdK
 . have HC:ab (iq old m c n ps=false):=aa (by unfold iq;rw[if_neg (λh=>h1 h.1)]);rw[HC.o];have q1:m<0:=om;exact zdK
theorem Em (a b:Y0) (w:World) (ha:a.length<=1099511627776) (hb:b.length<=1099511627776):Calls Ao 225 #[a,b] w λe w'=>e=.returned (dQ a b)/\Gr w w':=by
 go_enter Tryz.func225,Tryz.ntmps225
 go_wp2_with fail
 go_loopg [5] a.length (λfuel nv wr=>∃n:Nat,nv=.int .i64 (n:Int)/\a.length<=n+fuel/\n<=a.length/\ab (n<=dQ a b)/\Gr w wr)
 case atStart=>exact⟨0,rfl,om,om,aa (Nat.zero_le _),B4 _⟩
 case round=>obtain⟨n,rfl,Kx,hn,HN,hg⟩:=hrel;by_cases h1:n<a.length;(. have D:(n:Int)<(a.length:Int):=om;have f:=aa h1;by_cases h2:n<b.length;(. have Kc:(n:Int)<(b.length:Int):=om;obtain⟨x,hx⟩:=zq (a[n]);obtain⟨y,hy⟩:=zq (b[n]);(have k:(bs a)[n]'(by rw[co];exact h1)=x:=by rw[jz,hx]);(have Lx:(bs b)[n]'(by rw[co];exact h2)=y:=by rw[jz,hy]);by_cases e:x=y;(. have HM:ab (n+1<=dQ a b):=aa (Bi a b n HN.o h1 h2 (by rw[<-hx,<-hy];exact e));(have he:((x.toNat:Int)==(y.toNat:Int))=true:=by rw[e];exact beq_self_eq_true _);clear hx hy e;(go_wp2_with fail);(go_quiet (fail));(go_wp2_with fail);(go_roundg (gk-1));(case rel=>exact⟨n+1,by go_num,om,f.o,HM,hg.drewN _⟩);case measure=>have:=f.o;omega);. have HS:ab (dQ a b=n):=aa (oR a b n HN.o (λi j=>by rw[<-hx,<-hy];exact e));(have he:((x.toNat:Int)==(y.toNat:Int))=false:=by rw[beq_eq_false_iff_ne];intro h;exact e (UInt8.toNat_inj.1 om));clear hx hy e;exact za3);. have Kc:¬(n:Int)<(b.length:Int):=om;have HS:ab (dQ a b=n):=aa (oR a b n HN.o (λi j=>absurd j h2));exact za3);. have D:¬(n:Int)<(a.length:Int):=om;have HS:ab (dQ a b=n):=aa (oR a b n HN.o (λi j=>absurd i h1));exact za3
theorem va (c:UInt8) (w:World):Calls Ao 227 #[.int .u8 (c.toNat:Int)] w λe w'=>e=.returned (.int .u8 (jp c:Int))/\w'=w:=by
 have hc:=c.toNat_lt;have q:=aa (show jp c=if 48<=c.toNat/\c.toNat<=57 then c.toNat-48 else if 97<=c.toNat/\c.toNat<=102 then c.toNat-87 else 16 from rfl);have a:∀(k:Int),k=(jp c:Int)->∀w',w'=w->((Ending.returned (.int .u8 k))=.returned (.int .u8 (jp c:Int))/\w'=w):=λk hk w' hg=>⟨by rw[hk],hg⟩;obtain⟨n,hn⟩:=zq (c.toNat);rw[<-hn]at q hc;rw[<-hn];clear hn;by_cases h1:48<=n;. have i:(48:Int)<=(n:Int):=om;by_cases h2:n<=57;(. have f:(n:Int)<=57:=om;(go_enter Tryz.func227,Tryz.ntmps227);(go_wp2_with fail);go_ret;exact a _ (by rw[q.o,if_pos ⟨h1,h2⟩];omega) _ rfl);. have f:¬(n:Int)<=57:=om;by_cases h3:97<=n;(. have b:(97:Int)<=(n:Int):=om;by_cases h4:n<=102;(. have d:(n:Int)<=102:=om;(go_enter Tryz.func227,Tryz.ntmps227);(go_wp2_with fail);go_ret;exact a _ (by rw[q.o,if_neg (λh=>h2 h.2),if_pos ⟨h3,h4⟩];omega) _ rfl);. have d:¬(n:Int)<=102:=om;(go_enter Tryz.func227,Tryz.ntmps227);(go_wp2_with fail);go_ret;exact a _ (by rw[q.o,if_neg (λh=>h2 h.2),if_neg (λh=>h4 h.2)];rfl) _ rfl);. have b:¬(97:Int)<=(n:Int):=om;(go_enter Tryz.func227,Tryz.ntmps227);(go_wp2_with fail);go_ret;exact a _ (by rw[q.o,if_neg (λh=>h2 h.2),if_neg (λh=>h3 h.1)];rfl) _ rfl
 . have i:¬(48:Int)<=(n:Int):=om;have b:¬(97:Int)<=(n:Int):=om;(go_enter Tryz.func227,Tryz.ntmps227);(go_wp2_with fail);go_ret;exact a _ (by rw[q.o,if_neg (λh=>h1 h.1),if_neg (λh=>om)];rfl) _ rfl
def Fz:Option (Y0)->Value
 |some o=>.tuple #[o,i0]
 |none=>.tuple #[s_,.int .i64 2]
theorem uB:∀(n:Nat) (s:Y0),s.length=2*n+1->eL s=none
 |_,[],h=>by simp at h
 |_,[_],_=>rfl
 |0,_::_::_,h=>by simp at h
 |n+1,a::b::r,h=>by
  unfold eL
  rw[uB n r (by simp at h;omega)]
  split<;>rfl
theorem Bj (s:Y0) (i:Nat) (h:i+1<s.length):eL (s.drop i)=if jp s[i]<16/\jp s[i+1]<16 then(eL (s.drop (i+2))).map (UInt8.ofNat (jp s[i]*16+jp s[i+1])::·)else none:=by
 rw[List.drop_eq_getElem_cons (show i<s.length by omega),List.drop_eq_getElem_cons h];rfl
theorem IK (x y:Nat) (hx:x<16) (hy:y<16):bits .or .u8 ((x:Int)*16) (y:Int)=(((UInt8.ofNat (x*16+y)).toNat:Nat):Int):=by
 have h:∀x y:Fin 16,bits .or .u8 ((x.val:Int)*16) (y.val:Int)=(((UInt8.ofNat (x.val*16+y.val)).toNat:Nat):Int):=zhs
 exact h ⟨x,hx⟩ ⟨y,hy⟩
theorem DG (s:Y0) (w:World) (hs:s.length<=17592186044416):Calls Ao 211 #[s] w λe w'=>e=.returned (Fz (eL s))/\Gr w w':=by
 by_cases Ko:s.length%2=0;. (have t1:((s.length:Int)%2==0)=true:=zff);(have t2:((s.length:Int)%2 !=0)=false:=zeC);have r:=aa Ko;clear Ko;(go_enter Tryz.func211,Tryz.ntmps211);(go_wp2_with fail);clear t1 t2;(go_loopw [4,5,6,7] (λv iv _ _ wr=>∃(i n:Nat) (ad:Yy) (cap:Nat) (o:Y0),iv=.int .i64 (i:Int)/\i<=s.length/\ab (i%2=0)/\v=.slice ad n cap/\2*n<=i/\wr.ownsRow w.heap.size 5 1 (ad,n,cap) n (o.map bj)/\ab (eL s=(eL (s.drop i)).map (o++·))/\Gr w wr) (λ_ iv _ _ _=>s.length-(intOf iv).toNat));(case atStart=>exact⟨0,0,none,0,[],rfl,om,aa rfl,rfl,om,World.ownsRow_nil _ _ _ _,aa (by rw[List.drop_zero];cases eL s<;>rfl),B4 w⟩);case round=>obtain⟨i,n,ad,cap,o,rfl,hi,HI,rfl,hn,N,q,hg⟩:=hrel;by_cases hlt:i<s.length;(. (have Kq:i+1<s.length:=by have:=HI.o;have:=r.o;omega);have HL:=aa hlt;have L:(i:Int)<(s.length:Int):=om;have x:(i:Int)+1<(s.length:Int):=om;have Kj:=Bj s i Kq;obtain⟨a,ha⟩:=zq (s[i]);obtain⟨b,hb⟩:=zq (s[i+1]);rw[<-ha,<-hb]at Kj;have Kp:=aa Kj;(have k:(bs s)[i]'(by rw[co];exact hlt)=a:=by rw[jz,ha]);(have Lx:(bs s)[i+1]'(by rw[co];exact Kq)=b:=by rw[jz,hb]);clear ha hb Kj;have t:=CT a;have Z:=CT b;(go_wp2_with fail);(go_quiet (first|(with_reducible refine Bo (va a _) ?_;rintro e w1 ⟨rfl,rfl⟩;exact⟨rfl,_,rfl⟩)|(with_reducible refine Bo (va b _) ?_;rintro e w1 ⟨rfl,rfl⟩;exact⟨rfl,_,rfl⟩)));clear k Lx;obtain⟨wq,m⟩:=zq (wr.drewN nq);(have Ll:Gr w wq:=by rw[m];exact hg.drewN nq);(have j:wq.ownsRow w.heap.size 5 1 (ad,n,cap) n (o.map bj):=by rw[m];exact N);rw[<-m];clear m N hg;by_cases g:jp a<16;(. have Kf:¬(15:Int)<(jp a:Int):=om;by_cases f:jp b<16;(. have u:¬(15:Int)<(jp b:Int):=om;have d:=IK (jp a) (jp b) g f;obtain⟨c,hc⟩:∃c,c=UInt8.ofNat (jp a*16+jp b):=⟨_,rfl⟩;rw[<-hc]at d;have HC:=aa hc;have Y:=aa (And.intro g f);clear hc g f t Z Kq;(go_wp2_with(refine cJ E.u8 rfl (.tmp 33) (.tmp 38) rfl rfl j rfl rfl zez om om zc1 Ll ?_;intro g' D w' p hg'));(go_roundw);(case rel=>refine⟨i+2,n+1,some (g',0),D,o++[c],by go_num,by have:=HL.o;omega,aa zeV,rfl,om,?_,aa ?_,hg'⟩;(. rw[List.map_append];exact p);. rw[q.o,Kp.o,if_pos Y.o,HC.o];cases eL (s.drop (i+2))<;>simp);case measure=>simp[intOf];have:=HL.o;omega);. have u:(15:Int)<(jp b:Int):=om;have HN:ab (eL s=none):=aa (by rw[q.o,Kp.o,if_neg (λh=>f h.2)];rfl);clear g f;exact zbN);. have Kf:(15:Int)<(jp a:Int):=om;have HN:ab (eL s=none):=aa (by rw[q.o,Kp.o,if_neg (λh=>g h.1)];rfl);clear g;exact zbN);. obtain rfl:i=s.length:=om;clear hlt hi;have HR:ab (eL s=some o):=aa (by rw[q.o,List.drop_length];simp[eL]);(have Km:(convert 105 9 (ad,n,cap)).run Ao wr=.ok o wr:=by(have hn:n=o.length:=zhC);have:=gF Tryz.underlying105 Tryz.underlying5 Tryz.underlying9 (n:=n) (w:=wr) (l:=o) (by rw[hn]at N⊢;exact N);exact this);(go_wp2_with fail);go_ret2;exact⟨by rw[HR.o];rfl,hg⟩
 . (have t1:((s.length:Int)%2==0)=false:=zc2);(have t2:((s.length:Int)%2 !=0)=true:=zc3);have HN:=aa (uB (s.length/2) s om);clear Ko;(go_enter Tryz.func211,Tryz.ntmps211);(go_wp2_with fail);go_ret2;exact⟨by rw[HN.o];rfl,B4 w⟩
end Go.Proofs.YtdpombnelangjaaGreatDoor
