/- Lemmas for TopRuns; each states its conditions. -/
import Derived.Test.YtdpombnelangjaaGreatDoorProg
import Derived.WalkKit
import Derived.WalkLawsBesides
import Derived.WalkSpells
import Derived.Lib.Hide
import Derived.Deep.Draws
import Derived.Deep.DeepFit
import Derived.Deep.DeepMust
import Derived.Deep.LoopGhost
import Derived.Deep.DeepCutAuto
import Derived.Deep.QuietTactic
import Derived.BigQuiet
import Derived.Deep.RegionWith
import Derived.Deep.AppendLies
import Derived.Maps.AppendAt
import Derived.Laws.OwnMore
import Derived.Laws.Rows
import Derived.Deep.RegionHeld3
import Derived.Deep.RegionLaw
import Derived.Deep.CutBlock
import Derived.Deep.CutRange
namespace Go.Proofs.YtdpombnelangjaaGreatDoor
open Go.Proofs.Tryz renaming prog → Ao
open Calls renaming mono → Bo
open Nat renaming le_refl → Dg
section
abbrev Y0:=List UInt8
abbrev Yy:=Option Addr
theorem zq {α:Type} (e:α):∃x,x=e:=⟨e,rfl⟩
variable{p:Prop}
theorem om (h:p:=by omega):p:=h
theorem dc0 (h:p:=by decide):p:=h
theorem ze1 (h:p:=by have:=Kt.o;omega):p:=h
theorem ze (h:p:=by
 have Kp:ab (∀W,Gr w6 W->∀v0 v1 v2 v3 v4 v5 v6:Value,(((((((W.setCell ⟨p+1,0,none⟩ v0).setCell ⟨p+1,1,none⟩ v1).setCell ⟨p+1,2,none⟩ v2).setCell ⟨p+1,3,none⟩ v3).setCell ⟨p+1,4,none⟩ v4).setCell ⟨p+1,5,none⟩ v5).setCell ⟨p+1,6,none⟩ v6).cell? ⟨p,0,none⟩=some (.int .i64 hn)/\(((((((W.setCell ⟨p+1,0,none⟩ v0).setCell ⟨p+1,1,none⟩ v1).setCell ⟨p+1,2,none⟩ v2).setCell ⟨p+1,3,none⟩ v3).setCell ⟨p+1,4,none⟩ v4).setCell ⟨p+1,5,none⟩ v5).setCell ⟨p+1,6,none⟩ v6).cell? ⟨p,1,none⟩=some (.string (bs hr))/\(((((((W.setCell ⟨p+1,0,none⟩ v0).setCell ⟨p+1,1,none⟩ v1).setCell ⟨p+1,2,none⟩ v2).setCell ⟨p+1,3,none⟩ v3).setCell ⟨p+1,4,none⟩ v4).setCell ⟨p+1,5,none⟩ v5).setCell ⟨p+1,6,none⟩ v6).cell? ⟨p,2,none⟩=some (.slice M nm cm)):=aa (λW g v0 v1 v2 v3 v4 v5 v6=>by have h:=((((((((La.o.gr g).far (p:=⟨p+1,0,none⟩) (show p≠p+1 by omega) v0).far (p:=⟨p+1,1,none⟩) (show p≠p+1 by omega) v1).far (p:=⟨p+1,2,none⟩) (show p≠p+1 by omega) v2).far (p:=⟨p+1,3,none⟩) (show p≠p+1 by omega) v3).far (p:=⟨p+1,4,none⟩) (show p≠p+1 by omega) v4).far (p:=⟨p+1,5,none⟩) (show p≠p+1 by omega) v5).far (p:=⟨p+1,6,none⟩) (show p≠p+1 by omega) v6);exact⟨h.cell 0,h.cell 1,h.cell 2⟩);go_region_held3 (λW=>W.cell? ⟨p,0,none⟩=some (.int .i64 hn)/\W.cell? ⟨p,1,none⟩=some (.string (bs hr))/\W.cell? ⟨p,2,none⟩=some (.slice M nm cm)) (first|with_reducible assumption|with_reducible exact Nb.o _ gd|with_reducible exact Nb.o _ g7|with_reducible exact Nb.o _ g8|with_reducible exact Kp.o w8 g8 _ _ _ _ _ _ _|fail) (first|(go_at_call 94;(with_reducible refine Bo Ny.o ?_);rintro e w7 ⟨P7,n7,c7,rfl,Pf,o7,Nz⟩;have g7:Gr w6 w7:=Gr.trans gd Nz)|(refine au E.stp rfl (.const (.slice none 0 0)) (.tmp 123) rfl (w:=w7) (B:=w7.heap.size) rfl (World.ownsRow_nil _ _ _ _) rfl (Lf.o w7 g7) (by intro h;first|(cases h;done)|(refine⟨?_,rfl⟩;have:=Nd.o;omega)) iR Ka Kc (Dg _) ?_;intro S8 d8 w8 o8 k8;have Mj:Gr w7 w8:=(Gr.refl w7).grown k8 (λj hj=>by simp[Value.ownBlock]at hj);have g8:Gr w6 w8:=Gr.trans g7 Mj;have q0:w8.cell? ⟨p+1,0,none⟩=some (.int .i64 0):=(o.o.gr g8).cell 0;have f0:w8.frozen? ⟨p+1,0,none⟩=false:=(o.o.gr g8).frozen 0;have q1:w8.cell? ⟨p+1,1,none⟩=some (.string (bs [])):=(o.o.gr g8).cell 1;have f1:w8.frozen? ⟨p+1,1,none⟩=false:=(o.o.gr g8).frozen 1;have q2:w8.cell? ⟨p+1,2,none⟩=some (.slice none 0 0):=(o.o.gr g8).cell 2;have f2:w8.frozen? ⟨p+1,2,none⟩=false:=(o.o.gr g8).frozen 2;have q3:w8.cell? ⟨p+1,3,none⟩=some (.int .i64 0):=(o.o.gr g8).cell 3;have f3:w8.frozen? ⟨p+1,3,none⟩=false:=(o.o.gr g8).frozen 3;have q4:w8.cell? ⟨p+1,4,none⟩=some (.slice none 0 0):=(o.o.gr g8).cell 4;have f4:w8.frozen? ⟨p+1,4,none⟩=false:=(o.o.gr g8).frozen 4;have q5:w8.cell? ⟨p+1,5,none⟩=some (.slice none 0 0):=(o.o.gr g8).cell 5;have f5:w8.frozen? ⟨p+1,5,none⟩=false:=(o.o.gr g8).frozen 5;have q6:w8.cell? ⟨p+1,6,none⟩=some (.string (bs [])):=(o.o.gr g8).cell 6;have f6:w8.frozen? ⟨p+1,6,none⟩=false:=(o.o.gr g8).frozen 6)|fail)
 all_goals(go_wp2_with fail);refine bodyPost_ret (ai rfl _ rfl ((((((((o.o.gr g8).set_ 0 (.int .i64 hn)).set_ 1 (.string (bs hr))).set_ 2 (.slice M nm cm)).set_ 3 (.int .i64 (k:Int))).set_ 4 (.slice P7 n7 c7)).set_ 5 (.slice S8 (es.length-k) d8)).set_ 6 (.string (bs Y.1))) fM) rfl ?_;have Lm:=o.o.lt;have s7:w6.heap.size<=w7.heap.size:=g7.size;(have hw:w.heap.size<=p+1:=ze1);(have F:∀(T:TypeId) (z N:Nat) (X:Value) (xs:List Value) (b0:Nat),w8.ownsRow b0 T z X N xs->p+1<b0->(((((((w8.setCell ⟨p+1,0,none⟩ (.int .i64 hn)).setCell ⟨p+1,1,none⟩ (.string (bs hr))).setCell ⟨p+1,2,none⟩ (.slice M nm cm)).setCell ⟨p+1,3,none⟩ (.int .i64 (k:Int))).setCell ⟨p+1,4,none⟩ (.slice P7 n7 c7)).setCell ⟨p+1,5,none⟩ (.slice S8 (es.length-k) d8)).setCell ⟨p+1,6,none⟩ (.string (bs Y.1))).ownsRow b0 T z X N xs:=λT z N X xs b0 h hb=>by(have hne:X.ownBlock≠some (p+1):=λe=>by have:=(h.lt _ e).1;omega);exact(ownsRow_setCell_other (ownsRow_setCell_other (ownsRow_setCell_other (ownsRow_setCell_other (ownsRow_setCell_other (ownsRow_setCell_other (ownsRow_setCell_other h (a:=⟨p+1,0,none⟩) hne _) (a:=⟨p+1,1,none⟩) hne _) (a:=⟨p+1,2,none⟩) hne _) (a:=⟨p+1,3,none⟩) hne _) (a:=⟨p+1,4,none⟩) hne _) (a:=⟨p+1,5,none⟩) hne _) (a:=⟨p+1,6,none⟩) hne _));rw[Nat.zero_add,List.nil_append]at o8;have kp:=F _ _ _ _ _ _ (av o7 Mj) Lm;have ks:=F _ _ _ _ _ _ o8 (Nat.lt_of_lt_of_le Lm s7);have GF:Gr w (((((((w8.setCell ⟨p+1,0,none⟩ (.int .i64 hn)).setCell ⟨p+1,1,none⟩ (.string (bs hr))).setCell ⟨p+1,2,none⟩ (.slice M nm cm)).setCell ⟨p+1,3,none⟩ (.int .i64 (k:Int))).setCell ⟨p+1,4,none⟩ (.slice P7 n7 c7)).setCell ⟨p+1,5,none⟩ (.slice S8 (es.length-k) d8)).setCell ⟨p+1,6,none⟩ (.string (bs Y.1))):=(Gr.setCell (p:=⟨p+1,6,none⟩) (Gr.setCell (p:=⟨p+1,5,none⟩) (Gr.setCell (p:=⟨p+1,4,none⟩) (Gr.setCell (p:=⟨p+1,3,none⟩) (Gr.setCell (p:=⟨p+1,2,none⟩) (Gr.setCell (p:=⟨p+1,1,none⟩) (Gr.setCell (p:=⟨p+1,0,none⟩) (Lo.o.trans g8) hw _) hw _) hw _) hw _) hw _) hw _) hw _);exact⟨GF,by rw[Ly.o,if_pos rfl];exact⟨P7,n7,c7,S8,es.length-k,d8,rfl,ak.own kp,iW kp,kB kp,⟨ak.own ks,λx hx=>(O.o.each x (List.mem_of_mem_drop hx)).gr GF⟩,iW ks,kB ks,(fq.own kp).low Lo.o.size,(fq.own ks).low (Nat.le_trans Lo.o.size s7)⟩⟩):p:=h
theorem zc0 (h:p:=by kernel_rfl):p:=h
theorem zhJ (h:p:=by have:=Pf.o;omega):p:=h
theorem zh2 (h:p:=by have h2:=Ky.o;have h3:=Kq.o;omega):p:=h
theorem zgl (h:p:=by simp[World.setCell]):p:=h
theorem zx (h:p:=by
 obtain⟨j0,j1,j2,j3⟩:=L.o w12 G;refine hK.out _ _ ?_ ?_ ?_;. exact Mp.o _ (G)
 . exactλ_=>Mq.o _ (G)
 clear hK K;try simp only[Act.put,List.getElem_toArray,List.getElem_cons_zero,List.getElem_cons_succ,List.setIfInBounds_toArray,List.set_cons_zero,List.set_cons_succ]
 refine dH (i:=10) (v:=?_) rfl zc0 zc0 zc0 rfl (λ_ _ _ h=>h) (Or.inl ⟨by rfl,?_⟩) ⟨?_,?_⟩ ?_;rotate_left;focus(intro w m;(try dsimp only at m);go_simp;try with_reducible rfl)
 . exact Mp.o _ (G)
 . exactλ_=>Mq.o _ (G)
 try simp only[Act.put,List.getElem_toArray,List.getElem_cons_zero,List.getElem_cons_succ,List.setIfInBounds_toArray,List.set_cons_zero,List.set_cons_succ]
 refine dH (i:=11) (v:=?_) rfl zc0 zc0 zc0 rfl (λ_ _ _ h=>h) (Or.inl ⟨by rfl,?_⟩) ⟨?_,?_⟩ ?_;rotate_left;focus(intro w m;(try dsimp only at m);go_simp;try with_reducible rfl)
 . exact Mp.o _ (G)
 . exactλ_=>Mq.o _ (G)
 try simp only[Act.put,List.getElem_toArray,List.getElem_cons_zero,List.getElem_cons_succ,List.setIfInBounds_toArray,List.set_cons_zero,List.set_cons_succ]
 refine gf (rs:=[12]) zc0 (by simp) ?_;refine fT.cons rfl (λK hK=>?_) fT.nil;go_simp;refine hK.out _ _ ?_ ?_ ?_;. exact Of.o _ _ G
 . exactλh=>(kN h zc0).elim
 clear hK K;try simp only[Act.put,List.getElem_toArray,List.getElem_cons_zero,List.getElem_cons_succ,List.setIfInBounds_toArray,List.set_cons_zero,List.set_cons_succ]
 refine dH (i:=13) (v:=?_) rfl zc0 zc0 zc0 rfl (λ_ _ _ h=>h) (Or.inl ⟨by rfl,?_⟩) ⟨?_,?_⟩ ?_;rotate_left;focus(intro w m;(try dsimp only at m);go_simp;try with_reducible rfl)
 . exact Of.o _ _ G
 . exactλh=>(kN h zc0).elim
 try simp only[Act.put,List.getElem_toArray,List.getElem_cons_zero,List.getElem_cons_succ,List.setIfInBounds_toArray,List.set_cons_zero,List.set_cons_succ]
 refine dH (i:=14) (v:=?_) rfl zc0 zc0 zc0 rfl (λ_ _ _ h=>h) (Or.inl ⟨by rfl,?_⟩) ⟨?_,?_⟩ ?_;rotate_left;focus(intro w m;(try dsimp only at m);go_simp;try with_reducible rfl)
 . exact Of.o _ _ G
 . exactλh=>(kN h zc0).elim
 try simp only[Act.put,List.getElem_toArray,List.getElem_cons_zero,List.getElem_cons_succ,List.setIfInBounds_toArray,List.set_cons_zero,List.set_cons_succ]
 refine gf (rs:=[15]) zc0 (by simp) ?_;refine fT.cons rfl (λK hK=>?_) fT.nil;go_simp;refine hK.out _ _ ?_ ?_ ?_;. exact Qn.o _ _ _ G
 . exactλh=>(kN h zc0).elim
 clear hK K;try simp only[Act.put,List.getElem_toArray,List.getElem_cons_zero,List.getElem_cons_succ,List.setIfInBounds_toArray,List.set_cons_zero,List.set_cons_succ]
 refine vg zc0 ?_ _;have hN:(a.be b).length+1=(a.be b++[(⟨z,A0,c0,B0,e0⟩:SA)]).length:=by simp
 have Na:0+(a.be b).length+1=(a.be b++[(⟨z,A0,c0,B0,e0⟩:SA)]).length:=by simp
 have hX:([]++(a.be b).flatMap bO)++bO ⟨z,A0,c0,B0,e0⟩=(a.be b++[(⟨z,A0,c0,B0,e0⟩:SA)]).flatMap bO:=by simp
 rw[hX]at o6;have o7:=o6;rw[Na]at o7;have Px:=G.size;have Pf:ab (w7.heap.size<=w10.heap.size):=aa Nq.o.size;have Py:=Nw.o.size;have Pz:ab (∀k,({a with oA:=A8,oc:=c8}:WA).ob k->k<o+1\/w7.heap.size<=k):=aa (λk hk=>(Oy.o k hk).imp (λh=>by have h1:=Mw.o.1;have h2:=Mm.o k h;omega) (λh=>h));have N:∀{T n c:Nat} {A:Yy} {xs:List Value},w7.ownsRow (o+1) T 1 (.slice A n c) n xs->w12.ownsRow (o+1) T 1 (.slice A n c) n xs:=λh=>av (jN h Nq.o (λk hk e=>by(have h1:=(h.lt k hk).1);rcases e with e|e;(. have h2:=Ky.o;have h3:=Kq.o;have h4:=Mw.o.1;omega);. have h2:=Mm.o k e;have h4:=Mw.o.1;omega)) G;have Nl:=Mf.o.gr Ql.o;have Kj:ni (bZ F J w12 {a with oA:=A8,oc:=c8}) w12 ⟨z,A0,c0,B0,e0⟩:=⟨aV.newO Nl.who (N Nl.who) (by have h4:=Mw.o.1;omega) zhJ Pz.o,aV.newO Nl.seals (N Nl.seals) (by have h4:=Mw.o.1;omega) zhJ Pz.o⟩;have Ot:ab (aX (bZ F J w12 {a with oA:=A8,oc:=c8}) w12 g {a with oA:=A8,oc:=c8} {s with objs:=s.objs++mo,first:=F0}):=aa ((Mx.o.gr G).newW zh2);have Ou:iT (bZ F J w12 {a with oA:=A8,oc:=c8}) w12 A6 c6 (a.be b++[(⟨z,A0,c0,B0,e0⟩:SA)]) (s.logs b++[z]):=by refine⟨(aV.own (F:=F) (w:=w10) o7 (Dg _)).mono (λk hk=>eo.newO hk zhJ (Dg _) Mx.o.oblt),?_,λy hy=>?_⟩;(. rw[List.map_append,Oe.o.eq];rfl);. (rcases List.mem_append.1 hy with hy|hy);(. exact((Oe.o.each y hy).mod (M:=λ_=>False) G.mod (λ_ _ h=>h)).mono (λk hk=>.inl hk));. rw[List.mem_singleton]at hy;subst hy;exact Kj
 have Nx:=aa (Ot.o.setLogs Kh.o Ou (jL o7));rw[<-hN]at Nx;have Ny:ab (aX (bZ F J w12 {a with oA:=A8,oc:=c8}) ((w12.setCell ⟨g,3+b*2,none⟩ (.slice A6 ((a.be b).length+1) c6)).setCell ⟨g,3+b*2+1,none⟩ (.slice none 0 0)) g _ _):=aa (Nx.o.setMarks (A:=none) (c:=0) (l:=[]) Kh.o (aV.zero _ _ 2));have Ov:ab (aH (WM g a) w ((w12.setCell ⟨g,3+b*2,none⟩ (.slice A6 ((a.be b).length+1) c6)).setCell ⟨g,3+b*2+1,none⟩ (.slice none 0 0))):=aa ((((((Kg.o.trans Nw.o).mod (M:=WM g a)).trans Nq.o).trans G.mod).trans ((ay g (3+b*2) w12 _).mono (λk _ e=>.inl e))).trans ((ay g (3+b*2+1) _ _).mono (λk _ e=>.inl e)));have Ow:=aa (((Nr.o.gr G).far (p:=⟨g,3+b*2,none⟩) Ms (.slice A6 ((a.be b).length+1) c6)).far (p:=⟨g,3+b*2+1,none⟩) Ms (.slice none 0 0));have Mr:¬p=g:=zh2
 have P:=aa (((Pg.o.gr G).far (p:=⟨g,3+b*2,none⟩) Mr (.slice A6 ((a.be b).length+1) c6)).far (p:=⟨g,3+b*2+1,none⟩) Mr (.slice none 0 0));have b0:((w12.setCell ⟨g,3+b*2,none⟩ (.slice A6 ((a.be b).length+1) c6)).setCell ⟨g,3+b*2+1,none⟩ (.slice none 0 0)).cell? ⟨g,3+b*2,none⟩=some (.slice A6 ((a.be b).length+1) c6):=by(refine((Ny.o.blk.cell _).trans (jO _ _ Kh.o).1).trans ?_);rw[hN];(show some (Value.slice (am a.bA b A6 b) (am a.be b (a.be b++[(⟨z,A0,c0,B0,e0⟩:SA)]) b).length (am a.bc b c6 b))=_);rw[bi,bi,bi]
 have Ox:ab (w12.heap.size<=((w12.setCell ⟨g,3+b*2,none⟩ (.slice A6 ((a.be b).length+1) c6)).setCell ⟨g,3+b*2+1,none⟩ (.slice none 0 0)).heap.size):=aa zgl;clear j0 j1 j2 j3;obtain⟨w14,Nz⟩:=zq ((w12.setCell ⟨g,3+b*2,none⟩ (.slice A6 ((a.be b).length+1) c6)).setCell ⟨g,3+b*2+1,none⟩ (.slice none 0 0));have Qa:ab (aX (bZ F J w12 {a with oA:=A8,oc:=c8}) w14 g _ _):=aa (by rw[Nz];exact Ny.o);rw[<-Nz]at Ov Ow P Ox b0⊢;have y2:=(fN Ow.o).2.2.1
 have f0:=P.o.frozen 0;have f1:=P.o.frozen 1;have f2:=P.o.frozen 2;have n0:w14.cell? ⟨p,0,none⟩=some (.int .i64 0):=P.o.cell 0;have n1:w14.cell? ⟨p,1,none⟩=some (.int .i64 0):=P.o.cell 1;have n2:w14.cell? ⟨p,2,none⟩=some (.string (bs [])):=P.o.cell 2;have HN:=aa hN;clear Ny Nx Ot Ou Kj N o6 o7 G Mb Og k5 k6 o5 hX Nz hN Na Px Py Ka Kc Ks Lb;go_upto_region 35 with fail
 go_region
 all_goals(go_wp2_with fail);refine bodyPost_ret (aA rfl _ rfl (((P.o.set_ 0 (.int .i64 0)).set_ 1 (.int .i64 ((a.be b).length+1:Int))).set_ 2 (.string (bs z.n))) aJ) rfl ?_;(have Q:w14.grownBy (((w14.setCell ⟨p,0,none⟩ (.int .i64 0)).setCell ⟨p,1,none⟩ (.int .i64 ((a.be b).length+1:Int))).setCell ⟨p,2,none⟩ (.string (bs z.n))).drew (some p):=aH.grownBy_ ((((ay p 0 w14 _).trans (ay p 1 _ _)).trans (ay p 2 _ _)).trans (Gr.refl _).drew.mod));have Qc:aX (bZ F J w12 {a with bA:=am a.bA b A6,bc:=am a.bc b c6,be:=am a.be b (a.be b++[(⟨z,A0,c0,B0,e0⟩:SA)]),mA:=am a.mA b none,mc:=am a.mc b 0,oA:=A8,oc:=c8}) w14 g {a with bA:=am a.bA b A6,bc:=am a.bc b c6,be:=am a.be b (a.be b++[(⟨z,A0,c0,B0,e0⟩:SA)]),mA:=am a.mA b none,mc:=am a.mc b 0,oA:=A8,oc:=c8} _:=Qa.o;have Lt:=Ko.o J w12 w14 _ {a with bA:=am a.bA b A6,bc:=am a.bc b c6,be:=am a.be b (a.be b++[(⟨z,A0,c0,B0,e0⟩:SA)]),mA:=am a.mA b none,mc:=am a.mc b 0,oA:=A8,oc:=c8} _ (0,((a.be b).length:Int)+1,z.n) (Dg _) Qc Ov.o (λk hk=>(Oy.o k hk).imp (λh=>h) (λh=>Nat.le_trans Nw.o.size h)) Q Ox.o X.o;exact⟨Lt.1,Lt.2⟩):p:=h
theorem zeS (h:p:=by rw[hwd];exact(Gr.refl _).drew):p:=h
theorem zaa (h:p:=by
 go_wp2_with fail
 have r:=ag.new wr 70 #[nm,z,v];have a:=((HB.o.gr hg).alloc (.cells #[nm,z,v] 70));have y:=hg.alloc (.cells #[nm,z,v] 70);have k:=(World.cell?_alloc_lt wr (.cells #[nm,z,v] 70) (b,off+j*3) Q).trans p0
 have d:b<(wr.alloc (.cells #[nm,z,v] 70)).heap.size:=by rw[World.size_alloc];omega
 obtain⟨wx,R⟩:=zq (wr.alloc (.cells #[nm,z,v] 70));obtain⟨q,hq⟩:=zq (wr.heap.size);rw[<-R]at r a y k d;rw[<-hq]at r;rw[<-R,<-hq];have c:=aa r;have g:=aa a;clear R hq r a e0 e1 e2 p0 Q;refine aU 3 zc0 dc0 zc0 (λwd hwd=>?_);simp only[List.take_succ_cons,List.take_zero,List.drop_succ_cons,List.drop_zero];have gd:Gr wx wd:=zeS
 clear hwd;have S:wd.cell? (q,0)=nm:=(c.o.gr gd).cell 0
 go_wp2_with(go_at_call 156;refine(HN.o _).mono ?_;rintro e w1 ⟨rfl,I⟩;have l:Gr wx w1:=gd.trans I)
 have Kr:w1.cell? (q,0)=nm:=(c.o.gr l).cell 0
 have Kt:w1.cell? (q,1)=z:=(c.o.gr l).cell 1
 have Kv:w1.cell? (q,2)=v:=(c.o.gr l).cell 2
 have s:w1.cell? (w.heap.size,0)=((b,off),n,cap):=(g.o.gr l).cell 0
 obtain⟨T,L⟩:=m.o;have p:w1.cell? (b,off+j*3)=u:=(l.cells.1 b _ d).trans k
 simp only[iZ];clear I gd S;repeat(go_big_quiet_step (fail))
 refine wpQuiet_nil ?_;intro _ M;obtain⟨nq,E⟩:=M;subst E;have G:Gr wx (w1.drewN nq):=Gr.drewN l nq;clear T L;go_wp2_with fail
 go_ret;exact⟨by rw[HF.o];rfl,t.trans (y.trans G)⟩):p:=h
theorem zc4 (h:p:=by simp;omega):p:=h
theorem ziJ (h:p:=by rw[List.length_append];omega):p:=h
theorem zf7 (h:p:=by rw[List.length_append,br];omega):p:=h
theorem zab (h:p:=by
 rw[<-hq]at t u;rw[<-hq];clear hq;go_loopw [13,7] (λiv _ wr=>∃i:Nat,iv=.int .i64 i/\i<=64/\ag wr q 251 (dL 0x36 K i)/\ag wr (q+1) 251 (dL 0x5c K i)/\Gr w wr) (λiv _ _=>64-(intOf iv).toNat)
 case atStart=>exact⟨0,rfl,om,by rw[nK];exact t.o,by rw[nK];exact u.o,HG.o⟩
 case round=>obtain⟨i,rfl,hi,d,a,hg⟩:=hrel;by_cases o:i<64;(. have r:(i:Int)<64:=om;have z5:∃v,wr.cell? (q,i)=some v:=⟨_,(d.cell i).trans (Array.getElem?_eq_getElem (by rw[iM];omega))⟩;have z6:∃v,wr.cell? (q+1,i)=some v:=⟨_,(a.cell i).trans (Array.getElem?_eq_getElem (by rw[iM];omega))⟩;obtain⟨v5,z5⟩:=z5;obtain⟨v6,z6⟩:=z6;have f5:=d.frozen i;have f6:=a.frozen i;by_cases Kj:i<K.length;(. have f:(i:Int)<(K.length:Int):=om;obtain⟨c,hc⟩:=zq (K[i]);(have G:K.getD i 0=c:=by rw[hc];simp[Kj]);(have M:(bs K)[i]'(by rw[co];exact Kj)=c:=by rw[jz,hc]);have e5:=jw 0x36 K i;have e6:=jw 0x5c K i;rw[G]at e5 e6;have E5:=aa e5;have A:=aa e6;have HC:=aa hc;(have L:bits .xor .u8 54 (c.toNat:Int)=((c^^^0x36).toNat:Int):=vy 0x36 c);(have x6:bits .xor .u8 92 (c.toNat:Int)=((c^^^0x5c).toNat:Int):=vy 0x5c c);clear e5 e6 hc G;(go_wp2_with fail);refine ct 8 zc0 zc0 ?_;simp only[List.take_succ_cons,List.take_zero,List.drop_succ_cons,List.drop_zero];intro wd hwd;(have D5:ag wd q 251 ((dL 0x36 K i).setIfInBounds i (.int .u8 54)):=by subst hwd;exact((d.set_ i (.int .u8 54)).far (by simp) _).drew);(have D6:ag wd (q+1) 251 ((dL 0x5c K i).setIfInBounds i (.int .u8 92)):=by subst hwd;exact((a.far (by simp) _).set_ i (.int .u8 92)).drew);(have T:Gr w wd:=by subst hwd;exact((hg.setCell zc4 _).setCell zc4 _).drew);clear hwd d a hg z5 z6 f5 f6;(have c5:wd.cell? (q,i)=some (.int .u8 54):=(D5.cell i).trans (Array.getElem?_setIfInBounds_self_of_lt (by rw[iM];exact o)));have f5:=D5.frozen i;(repeat still_step);refine wpStill_nil ?_;(go_wp2_with fail);clear c5 f5;refine ct 8 zc0 zc0 ?_;simp only[List.take_succ_cons,List.take_zero,List.drop_succ_cons,List.drop_zero];intro we Kk;(have E:ag we q 251 (dL 0x36 K (i+1)):=by subst Kk;(have h5:=(D5.set_ i (.int .u8 ((c^^^0x36).toNat:Int))).drew);rw[Array.setIfInBounds_setIfInBounds,show(dL 0x36 K i).setIfInBounds i (.int .u8 ((c^^^0x36).toNat:Int))=dL 0x36 K (i+1)from E5.o]at h5;exact h5);(have B:ag we (q+1) 251 ((dL 0x5c K i).setIfInBounds i (.int .u8 92)):=by subst Kk;exact(D6.far (by simp) _).drew);(have F:Gr w we:=by subst Kk;exact(T.setCell zc4 _).drew);clear Kk D5 D6 T;(have c6:we.cell? (q+1,i)=some (.int .u8 92):=(B.cell i).trans (Array.getElem?_setIfInBounds_self_of_lt (by rw[iM];exact o)));have f6:=B.frozen i;(repeat still_step);refine wpStill_nil ?_;(go_wp2_with fail);(go_roundw);(case rel=>have h6:=B.set_ i (.int .u8 ((c^^^0x5c).toNat:Int));(have e6:((dL 0x5c K i).setIfInBounds i (.int .u8 92)).setIfInBounds i (.int .u8 ((c^^^0x5c).toNat:Int))=dL 0x5c K (i+1):=by rw[Array.setIfInBounds_setIfInBounds];exact A.o);rw[e6]at h6;exact⟨i+1,by go_num,om,E.far (by simp) _,h6,F.setCell zc4 _⟩);case measure=>simp[intOf];omega);. have f:¬(i:Int)<(K.length:Int):=om;(have G:K.getD i 0=0:=by simp[List.getD];rw[List.getElem?_eq_none om];rfl);have e5:=jw 0x36 K i;have e6:=jw 0x5c K i;rw[G,CN]at e5 e6;have E5:=aa e5;have A:=aa e6;clear e5 e6 G;(go_wp2_with fail);(go_roundw);(case rel=>have h5:=d.set_ i (.int .u8 54);(have h6:=(a.far (p:=(q,i)) (by simp) (.int .u8 54)).set_ i (.int .u8 92));rw[show(dL 0x36 K i).setIfInBounds i (.int .u8 54)=dL 0x36 K (i+1)from E5.o]at h5;rw[show(dL 0x5c K i).setIfInBounds i (.int .u8 92)=dL 0x5c K (i+1)from A.o]at h6;exact⟨i+1,by go_num,om,h5.far (by simp) _,h6,(hg.setCell zc4 _).setCell zc4 _⟩);case measure=>simp[intOf];omega);. obtain rfl:i=64:=om;clear o hi;rw[show((64:Nat):Int)=64 from rfl];(go_wp2_with fail);have k5:=nE 0x36 K;have k6:=nE 0x5c K;have x:=aa k5;have y:=aa k6;(have j:(fZ 0x36 K).length=64:=mC _ _);(have l:(fZ 0x5c K).length=64:=mC _ _);obtain⟨P5,m⟩:=zq (fZ 0x36 K);obtain⟨z,n⟩:=zq (fZ 0x5c K);rw[<-m,<-n]at HF;rw[<-m]at x j;rw[<-n]at y l;have g:=aa j;have h:=aa l;have J:¬9223372036854775807<P5.length+b.length:=om;(have N:¬9223372036854775807<z.length+(aj (P5++b)).length:=by rw[br];omega);have C:ab ((P5++b).length<=576460752303423488):=aa ziJ;have D:ab ((z++aj (P5++b)).length<=576460752303423488):=aa zf7;clear k5 k6 m n j l;(go_region_held3 (λw'=>(convert 105 9 ((q,0),64,64)).run Ao w'=.ok P5 w'/\(convert 105 9 ((q+1,0),64,64)).run Ao w'=.ok z w'/\Gr w w') (first|with_reducible assumption|exact⟨ei _ d.drew x.o 64 g.o,ei _ a.drew y.o 64 h.o,hg.drew⟩|exact⟨ei _ d x.o 64 g.o,ei _ a y.o 64 h.o,hg⟩|exact⟨ei _ e5 x.o 64 g.o,ei _ e6 y.o 64 h.o,eg⟩|exact⟨ei _ i5 x.o 64 g.o,ei _ i6 y.o 64 h.o,H⟩) (first|(go_at_call 44;with_reducible refine Bo (dO (P5++b) _ (hT.gr hg.drew) C.o) ?_;rintro e w3 ⟨rfl,k⟩;have e5:=d.drew.gr k;have e6:=a.drew.gr k;have eg:=hg.drew.trans k;clear k)|(go_at_call 44;with_reducible refine Bo (dO (z++aj (P5++b)) _ (hT.gr eg) D.o) ?_;rintro e w4 ⟨rfl,k⟩;have i5:=e5.gr k;have i6:=e6.gr k;have H:=eg.trans k;clear k)));all_goals(go_wp2_with fail);go_ret;exact⟨by rw[HF.o];rfl,H⟩):p:=h
theorem zac (h:p:=by
 clear HV f;go_enter Tryz.func104,Tryz.ntmps104
 go_upto_region 1 with fail
 rw[<-H,<-V];clear H V;go_quiet (fail)
 go_wp2_with fail
 go_ret;exact⟨by rw[O.o];rfl,t.drewN _⟩):p:=h
theorem zeC (h:p:=by rw[bne_eq_false_iff_eq];omega):p:=h
theorem zfp (h:p:=by rw[f.o];exact if_pos ⟨hq,hl⟩):p:=h
theorem zgq (h:p:=by rw[D.o,if_pos rfl]):p:=h
theorem zgw (h:p:=by rw[D.o,if_neg Kh]):p:=h
theorem zfx (h:p:=by simpa using Kh):p:=h
theorem zfk (h:p:=by rw[f.o];exact if_neg (λh=>hl h.2)):p:=h
theorem zc3 (h:p:=by rw[bne_iff_ne];omega):p:=h
theorem zfl (h:p:=by rw[f.o];exact if_neg (λh=>hq h.1)):p:=h
theorem zad (h:p:=by
 obtain⟨wf,Kz⟩:=zq ((u7.setCell (k,6) no));rw[<-Kz]at D7 M7 z7⊢;clear Kz;by_cases hq:(qf).2=0
 . (have qq:(((qf).2:Int)!=0)=false:=zeC);have qe:((qf).2:Int)=0:=om;(by_cases hl:(qf).1.length=0);(. have Lq:¬(0:Int)<((qf).1.length:Int):=om;have D:ab (Kb=if eZ ((⟨3,[],[],tr,G,wh,no,(C:Int),[]⟩:Ob))=0 then((⟨3,[],[],tr,G,wh,no,(C:Int),[]⟩:Ob),0)else(cg,eZ ((⟨3,[],[],tr,G,wh,no,(C:Int),[]⟩:Ob)))):=aa zfp;obtain⟨E,hE⟩:∃E,E=eZ ((⟨3,[],[],tr,G,wh,no,(C:Int),[]⟩:Ob)):=⟨_,rfl⟩;have L:ab (∀A c B d W,eC W ((⟨3,[],[],tr,G,wh,no,(C:Int),[]⟩:Ob)) A c B d->Calls Ao 62 #[.agg (bh ((⟨3,[],[],tr,G,wh,no,(C:Int),[]⟩:Ob)) A c B d)] W λe w'=>e=.returned (.int .i64 E)/\Gr W w'):=aa (λA c B d W h=>by rw[hE];exact Kc.o _ A c B d W h Kq.o);rw[<-hE]at D;clear hE hq hl f;by_cases Kh:E=0;(. subst Kh;have O:ab (Kb=((⟨3,[],[],tr,G,wh,no,(C:Int),[]⟩:Ob),0)):=aa zgq;(go_upto_region 34 with(first|(go_at_call 74;(with_reducible refine Bo (s.o _ _ D7.o) ?_);rintro e wb ⟨rfl,rfl⟩)|(go_at_call 76;(with_reducible refine Bo (Kj.o _ _ D7.o) ?_);rintro e wl ⟨rfl,rfl⟩)));(go_upto_region 37 with(first|(go_at_call 62;(with_reducible refine Bo (L.o _ _ _ _ _ (cf M7.o.own1 M7.o.own2).1) ?_);rintro e w8 ⟨rfl,g8⟩;have M8:=aa (M7.o.gr' g8);have S:Gr J w8:=M8.o.gr)|(refine az rfl 97 (.tmp 5) rfl (g:=k) rfl (cs:=bh ((⟨3,[],[],tr,G,wh,no,(C:Int),[]⟩:Ob)) none 0 B1 d1) ((cf M7.o.own1 M7.o.own2).2▸M7.o.blk) aK ?_)));(go_wp2_with(first|(refine az rfl 97 (.tmp 5) rfl (g:=k) rfl (cs:=bh ((⟨3,[],[],tr,G,wh,no,(C:Int),[]⟩:Ob)) none 0 B1 d1) ((cf M8.o.own1 M8.o.own2).2▸M8.o.blk) aK ?_)|(refine ah rfl 97 (.tmp 2) _ rfl (g:=p) (cs':=bh ((⟨3,[],[],tr,G,wh,no,(C:Int),[]⟩:Ob)) none 0 B1 d1) rfl rfl (HZ.o.gr S) aK rfl (bx _ _ _ _ _) ?_;intro w9 h9 Q)));refine bodyPost_ret (ai rfl _ rfl h9 aK) rfl ?_;rw[O.o];have l:=cf (kd:=3) (dt:=((⟨3,[],[],tr,G,wh,no,(C:Int),[]⟩:Ob)).data) (tr:=((⟨3,[],[],tr,G,wh,no,(C:Int),[]⟩:Ob)).tree) (wh:=((⟨3,[],[],tr,G,wh,no,(C:Int),[]⟩:Ob)).who) (no:=((⟨3,[],[],tr,G,wh,no,(C:Int),[]⟩:Ob)).note) (ti:=((⟨3,[],[],tr,G,wh,no,(C:Int),[]⟩:Ob)).time) (ta:=((⟨3,[],[],tr,G,wh,no,(C:Int),[]⟩:Ob)).target) (aB M8.o.own1 (HZ.o.gr S) dc0 Q) (aB M8.o.own2 (HZ.o.gr S) dc0 Q);exact⟨none,0,B1,d1,rfl,l.1,Gr.only (t.trans S) Q Kd⟩);. have O:ab (Kb=(cg,E)):=aa zgw;(have m0:(E !=0)=true:=zfx);clear Kh;(go_upto_region 34 with(first|(go_at_call 74;(with_reducible refine Bo (s.o _ _ D7.o) ?_);rintro e wb ⟨rfl,rfl⟩)|(go_at_call 76;(with_reducible refine Bo (Kj.o _ _ D7.o) ?_);rintro e wl ⟨rfl,rfl⟩)));(go_upto_region 36 with(first|(go_at_call 62;(with_reducible refine Bo (L.o _ _ _ _ _ (cf M7.o.own1 M7.o.own2).1) ?_);rintro e w8 ⟨rfl,g8⟩;have M8:=aa (M7.o.gr' g8);have S:Gr J w8:=M8.o.gr)|(refine az rfl 97 (.tmp 5) rfl (g:=k) rfl (cs:=bh ((⟨3,[],[],tr,G,wh,no,(C:Int),[]⟩:Ob)) none 0 B1 d1) ((cf M7.o.own1 M7.o.own2).2▸M7.o.blk) aK ?_)));(go_wp2_with(refine ah rfl 97 (.tmp 2) _ rfl (g:=p) (cs':=bh cg none 0 none 0) rfl rfl (HZ.o.gr S) aK rfl (bx _ _ _ _ _) ?_;intro w9 h9 Q));refine bodyPost_ret (ai rfl _ rfl h9 aK) rfl ?_;rw[O.o];exact⟨none,0,none,0,rfl,eC.z _,Gr.only (t.trans S) Q Kd⟩);. have Lq:(0:Int)<((qf).1.length:Int):=om;have O:ab (Kb=(cg,2)):=aa zfk;clear hq hl f;(go_upto_region 33 with(first|(go_at_call 74;(with_reducible refine Bo (s.o _ _ D7.o) ?_);rintro e wb ⟨rfl,rfl⟩)|(go_at_call 76;(with_reducible refine Bo (Kj.o _ _ D7.o) ?_);rintro e wl ⟨rfl,rfl⟩)));(go_wp2_with(refine ah rfl 97 (.tmp 2) _ rfl (g:=p) (cs':=bh cg none 0 none 0) rfl rfl (HZ.o.gr M7.o.gr) aK rfl (bx _ _ _ _ _) ?_;intro w9 h9 Q));refine bodyPost_ret (ai rfl _ rfl h9 aK) rfl ?_;rw[O.o];exact⟨none,0,none,0,rfl,eC.z _,Gr.only (t.trans M7.o.gr) Q Kd⟩
 . (have qq:(((qf).2:Int)!=0)=true:=zc3);have qe:¬((qf).2:Int)=0:=om;have O:ab (Kb=(cg,2)):=aa zfl;clear hq f;(go_upto_region 33 with(go_at_call 74;(with_reducible refine Bo (s.o _ _ D7.o) ?_);rintro e wb ⟨rfl,rfl⟩));(go_wp2_with(refine ah rfl 97 (.tmp 2) _ rfl (g:=p) (cs':=bh cg none 0 none 0) rfl rfl (HZ.o.gr M7.o.gr) aK rfl (bx _ _ _ _ _) ?_;intro w9 h9 Q));refine bodyPost_ret (ai rfl _ rfl h9 aK) rfl ?_;rw[O.o];exact⟨none,0,none,0,rfl,eC.z _,Gr.only (t.trans M7.o.gr) Q Kd⟩):p:=h
theorem zae (h:p:=by
 go_wp2_with(first|(go_at_call 107;(with_reducible refine Bo (Kw.o _) ?_);rintro e w1 ⟨rfl,I⟩;obtain⟨d0,d1,d2,d3,d4,d5,d6,d7,d8⟩:=f.o w1 (C.trans I))|(go_at_call 107;(with_reducible refine Bo (U.o _) ?_);rintro e w2 ⟨rfl,Z⟩;obtain⟨e0,e1,e2,e3,e4,e5,e6,e7,e8⟩:=f.o w2 (C.trans (I.trans Z))))
 go_ret;exact⟨by rw[O.o];rfl,t.trans (C.trans (I.trans Z))⟩):p:=h
theorem zfD (h:p:=by rw[je _ _ _ om];omega):p:=h
theorem zaf (h:p:=by
 go_wp2_with(first|(go_at_call 76;refine(eS g0 _ _ v).mono ?_;rintro e wd ⟨rfl,rfl⟩;dsimp only)|(go_at_call 72;first|(refine(aW g0 (s,0) _ v).mono ?_;rintro e J ⟨rfl,g,j⟩;rw[<-Ka.o]at g;rw[<-U.o];have I:=bG F j Q;have C:=aB N v.blk dc0 j;clear v)|(refine(aW g0 (t1,f1) _ g).mono ?_;rintro e wb ⟨rfl,c,G⟩;rw[<-Kr.o]at c;rw[<-Kd.o];have i:=bG I G Q;have f:=aB C g.blk dc0 G;clear g))|(go_at_call 74;first|(refine(dD g0 _ _ c).mono ?_;rintro e wd ⟨rfl,rfl⟩;dsimp only)|(refine(dD g0 _ _ D).mono ?_;rintro e wd ⟨rfl,rfl⟩;dsimp only))|(at_builtin;refine bg E.u8 Tryz.underlying9 rfl (.tmp 73) (.tmp 79) rfl rfl f rfl zfD i.size ?_;intro A2 r wc W B;have D:=c.other B (λe=>bD f c.blk dc0 e.symm);have O:=i.grown B (λk hk=>(f.lt k hk).1);clear c))
 go_ret2;exact⟨by rw[Eq.o,L.o];rfl,i⟩):p:=h
theorem zeK (h:p:=by first|exact Gr.refl _|exact(Gr.refl _).drew):p:=h
theorem zfP (h:p:=by rw[(HG.o.trans G2).cells.1 _ _ (World.block_lt_of_cell? w _ f.o)];exact f.o):p:=h
theorem zeW (h:p:=by have:=HF.o;have:=HI.o;omega):p:=h
theorem zag (h:p:=by
 go_wp2_with(first|(go_at_call 208;(with_reducible refine Bo (d.o _) ?_);rintro e w2 ⟨rfl,Z⟩;have G2:Gr wr w2:=Gr.trans zeK Z;have y2:w2.cell? (p+1,2)=T:=(HC.o.gr G2).cell 2;have f2:w2.cell? (b2,D+i)=dd:=zfP))
 go_roundg (gk-1)
 case rel=>exact⟨i+1,(k0,k1,T),by go_num,aa zeW,by rw[<-a.o];exact G,aa (HC.o.gr G2),aa (HP.o.gr G2),aa (HG.o.trans G2)⟩
 case measure=>have:=HF.o;have:=HI.o;omega):p:=h
theorem zah (h:p:=by
 go_enter Tryz.func177,Tryz.ntmps177
 go_upto_region 23 with(first|(go_at_call 74;(with_reducible refine Bo (a.o _ _ d4) ?_);rintro e G ⟨rfl,rfl⟩;dsimp only)|(go_at_call 73;(with_reducible refine Bo (H4.o _ (d2.gr ((Gr.refl _).drewN _))) ?_);rintro e w4 ⟨rfl,d4,g4⟩;have G4:=aM (aM G2 (fO ((Gr.refl _).drewN _) (some g))) g4)|(go_at_call 209;(with_reducible refine Bo (HA.o _) ?_);rintro e w5 ⟨rfl,g5⟩;have d5:=d4.gr g5;have V:=aM G4 (fO g5 (some g)))|(go_at_call 74;(with_reducible refine Bo (a.o _ _ d2) ?_);rintro e G ⟨rfl,rfl⟩;dsimp only)|(go_at_call 72;(with_reducible refine Bo f.o ?_);rintro e w1 ⟨rfl,d1,I⟩)|(go_at_call 72;(with_reducible refine Bo (Y.o _ d1) ?_);rintro e w2 ⟨rfl,d2,Z⟩;have G2:=aM I Z;obtain⟨b,off,b',Kl,i,j,z1,z2⟩:=o.o _ (Lf.o.only G2);subst i;subst j)|(go_at_call 74;(with_reducible refine Bo (a.o _ _ d1) ?_);rintro e G ⟨rfl,rfl⟩;dsimp only))
 go_quiet (fail)
 go_wp2_with(first|(go_at_call 74;(with_reducible refine Bo (a.o _ _ d4) ?_);rintro e G ⟨rfl,rfl⟩;dsimp only)|(go_at_call 73;(with_reducible refine Bo (H4.o _ (d2.gr ((Gr.refl _).drewN _))) ?_);rintro e w4 ⟨rfl,d4,g4⟩;have G4:=aM (aM G2 (fO ((Gr.refl _).drewN _) (some g))) g4)|(go_at_call 209;(with_reducible refine Bo (HA.o _) ?_);rintro e w5 ⟨rfl,g5⟩;have d5:=d4.gr g5;have V:=aM G4 (fO g5 (some g)))|(go_at_call 74;(with_reducible refine Bo (a.o _ _ d2) ?_);rintro e G ⟨rfl,rfl⟩;dsimp only)|(go_at_call 72;(with_reducible refine Bo f.o ?_);rintro e w1 ⟨rfl,d1,I⟩)|(go_at_call 72;(with_reducible refine Bo (Y.o _ d1) ?_);rintro e w2 ⟨rfl,d2,Z⟩;have G2:=aM I Z;obtain⟨b,off,b',Kl,i,j,z1,z2⟩:=o.o _ (Lf.o.only G2);subst i;subst j)|(go_at_call 74;(with_reducible refine Bo (a.o _ _ d1) ?_);rintro e G ⟨rfl,rfl⟩;dsimp only))
 go_ret3
 rw[O.o];exact⟨rfl,d4,G4⟩):p:=h
theorem zai (h:p:=by
 go_wp2_with(go_at_call 85;refine Bo (a.o _) ?_;rintro e w1 ⟨rfl,I⟩;obtain⟨d0,d1,d2,d3,d4⟩:=f.o w1 I)
 go_meet
 exact⟨by rw[O.o];rfl,I⟩):p:=h
theorem zaj (h:p:=by
 refine aU 3 zc0 dc0 zc0 (λwd hwd=>?_);simp only[List.take_succ_cons,List.take_zero,List.drop_succ_cons,List.drop_zero];have gd:Gr wx wd:=zeS
 clear hwd;have S:=(F.o wd gd).1
 go_wp2_with(go_at_call 85;refine(HN.o _).mono ?_;rintro e w1 ⟨rfl,I⟩;have l:Gr wx w1:=gd.trans I)
 obtain⟨Kr,Kt,-⟩:=F.o w1 l;simp only[iZ];clear I gd S;repeat(go_big_quiet_step (fail))
 refine wpQuiet_nil ?_;intro _ M;obtain⟨nq,E⟩:=M;subst E;have G:Gr wx (w1.drewN nq):=Gr.drewN l nq;go_wp2_with fail
 go_meet
 exact⟨by rw[Y.o];rfl,G⟩):p:=h
theorem zak (h:p:=by
 go_wp2_with fail
 go_ret;exact⟨rfl,Gr.refl _⟩):p:=h
theorem zfB (h:p:=by rw[HB.o];exact Dg _):p:=h
theorem zal (h:p:=by
 go_wp2_with(first|(refine dB MB rfl (.tmp 33) (.tmp 34) rfl rfl HM.o.2.1 rfl Kk Lw ?_)|(refine ir MB rfl (.tmp 36) (.tmp 37) (.const true) rfl rfl HM.o.2.1 Ks rfl Kk (y:=true) rfl trivial ?_;intro w5 m5 h5;have M5:=aa m5;clear m5;have V:Gr w w5:=Gr.only HM.o.2.2.1 h5 zfB)|(go_at_call 43;(with_reducible refine Bo (HD.o _) ?_);rintro e w3 ⟨A3,c3,B3,d3,rfl,r3,g3⟩)|(refine ah rfl 97 (.tmp 12) (.tmp 49) rfl (g:=w3.heap.size) (cs':=bh o A3 c3 B3 d3) rfl rfl (ag.new w3 _ _) aK rfl (bx _ _ _ _ _) ?_;intro w4 h4 Q;have Kc:Gr w3 w4:=Gr.only ((Gr.refl w3).alloc _) Q (Dg _);have c:Gr w5 w4:=(g6.trans g3).trans Kc;have k0:w4.cell? (w3.heap.size,0)=o.kind:=h4.cell 0;have k4:w4.cell? (w3.heap.size,4)=(B3,o.pars.length,d3):=h4.cell 4)|(refine Bo (Ka.o w5 V) ?_;rintro e w6 ⟨rfl,g6⟩))
 have f:Gr w5 w4:=c;go_roundg (gk-1)
 case rel=>exact⟨ys,S++[x],m',U,d-1,rfl,by rw[List.length_append];simp only[List.length_cons,List.length_nil];omega,by rw[List.length_append];simp only[List.length_cons,List.length_nil];omega,by rw[List.length_append];simp only[List.length_cons,List.length_nil];omega,aa ⟨Kq.o,z.o,Eq.o⟩,aa ⟨(t.o w5 h5).gr f,A.o w5 M5.o _ f,V.trans f,Nat.le_trans (r.o w5 h5) f.size⟩⟩
 case measure=>omega):p:=h
theorem zey (h:p:=by first|(simp;done)|(simp;omega)):p:=h
theorem zam (h:p:=by
 clear h8 HR;go_wp2_with(first|(go_at_call 63;(with_reducible refine Bo (Kv.o _ _ _ _ zey d1) ?_);rintro e w3 ⟨rfl,d3,m,-⟩;have g3:Gr J w3:=Below.trans Z (Below.mono m a);obtain⟨N,T,U,Y,Eq,Ka,Kf,Kk,Km⟩:=f.o w3 g3)|(go_at_call 65;(with_reducible refine Bo (Mp.o _ _ _ _ zey d3) ?_);rintro e w4 ⟨rfl,d4,s,-⟩;have g4:Gr J w4:=Below.trans g3 (Below.mono s a);obtain⟨Kw,Kx,La,Lc,Ld,Lf,Lg,Li,Ll⟩:=f.o w4 g4)|(go_at_call 64;(with_reducible refine Bo (Lt.o _ _ _ _ zey d4) ?_);rintro e w5 ⟨rfl,d5,Ko,-⟩;have g5:Gr J w5:=Below.trans g4 (Below.mono Ko a);obtain⟨Mc,Me,Mf,Mg,Mh,Mi,Mj,Mk,Ml⟩:=f.o w5 g5)|(go_at_call 64;(with_reducible refine Bo (Lv.o _ _ _ _ zey d5) ?_);rintro e w6 ⟨rfl,d6,D,-⟩;have g6:Gr J w6:=Below.trans g5 (Below.mono D a))|(go_at_call 66;(with_reducible refine Bo (M.o S _ _ _ _ d6 Kl.o) ?_);rintro e G ⟨rfl,Q⟩))
 go_ret2;exact⟨by rw[Ke.o];rfl,t.trans (g6.trans Q)⟩):p:=h
theorem zan (h:p:=by
 clear z;go_wp2_with(go_at_call 85;refine Bo (a.o _) ?_;rintro e w2 ⟨rfl,Z⟩)
 go_meet
 exact⟨by rw[O.o];rfl,I.trans Z⟩):p:=h
theorem zao (h:p:=by
 go_quiet (fail)
 go_wp2_with fail
 go_meet
 exact⟨by rw[Lc.o],Gr.drewN (Gr.refl _) _⟩):p:=h
theorem zap (h:p:=by
 go_enter Tryz.func42,Tryz.ntmps42
 go_upto_region 3 with fail
 rw[<-H,<-V];clear H V;have gd:Gr J J.drew:=(Gr.refl _).drew
 go_region_held3 (λw'=>w'.cell? (p,0)=(A,n,cap)/\w'.cell? (p,1)=f/\Gr J w') (first|with_reducible assumption|with_reducible exact F.o _ gd|with_reducible exact F.o _ I|with_reducible exact F.o _ Z|with_reducible exact F.o _ (Gr.refl _)|fail) (first|(go_at_call 70;(with_reducible refine Bo (c.o J.drew) ?_);rintro e w1 ⟨rfl,a⟩;have I:Gr J w1:=Gr.trans gd a)|(go_at_call 69;(with_reducible refine Bo (Ld.o w1 I) ?_);rintro e w2 ⟨rfl,v⟩;have Z:Gr J w2:=Gr.trans I v)|fail)
 all_goals(go_wp2_with(go_at_call 40;(with_reducible refine Bo (Lv.o _ Z) ?_);rintro e w3 ⟨rfl,g3⟩);go_ret2;rw[O.o];exact⟨rfl,(t.trans Z).trans g3⟩)):p:=h
theorem zaq (h:p:=by
 go_enter Tryz.func92,Tryz.ntmps92
 go_wp2_with(first|(rw[<-H,<-V];clear H V;go_wp2_with fail)|(go_at_call 131;refine Bo (Ka.o _) ?_;rintro e w1 ⟨rfl,I⟩;obtain⟨y0,y1,z0,z1⟩:=f.o w1 I))
 refine bodyPost_ret (ai rfl _ rfl (((HM.o.gr I).set_ 0 i0).set_ 1 s_) gB) rfl ?_;exact⟨rfl,((t.trans I).setCell (p:=(p+1,0)) Kd _).setCell (p:=(p+1,1)) Kd _⟩):p:=h
theorem zar (h:p:=by
 go_enter Tryz.func105,Tryz.ntmps105
 go_wp2_with(go_at_call 123;refine Bo (HC.o _) ?_;rintro e w1 ⟨rfl,I⟩)
 go_ret;exact⟨by simp,I⟩):p:=h
theorem zas (h:p:=by
 clear hgf Il;go_enter Tryz.func145,Tryz.ntmps145
 go_wp2_with(first|(rw[<-H,<-V];clear H V;go_wp2_with fail)|(go_at_call 113;refine Bo HG.o ?_;rintro e w1 ⟨rfl,I⟩;have Kr:w1.cell? (p,0)=(A,n,cap):=(HB.o.gr I).cell 0;have Kt:w1.cell? (p,1)=f:=(HB.o.gr I).cell 1;have k:w1.cell? (p+1,0)=n_:=(Kj.o.gr I).cell 0;have r:w1.cell? (p+1,1)=i0:=(Kj.o.gr I).cell 1;have B:w1.frozen? (p+1,0)=false:=(Kj.o.gr I).frozen 0;have Kb:w1.frozen? (p+1,1)=false:=(Kj.o.gr I).frozen 1))
 refine bodyPost_ret (ai rfl _ rfl (HW.o w1 I) cz) rfl ?_;exact⟨A,cap,rfl,aO.gr Lc.o (HV.o w1 I),HV.o w1 I,.inl ⟨rfl,rfl⟩⟩):p:=h
theorem zat (h:p:=by
 clear Kq Kp hx z4 z5 z6 z7;go_enter Tryz.func88,Tryz.ntmps88
 go_upto_region 1 with fail
 rw[<-H,<-V];clear H V;go_wp2_with(first|(go_at_call 103;refine Bo Kc.o ?_;rintro e w1 ⟨rfl,I⟩;obtain⟨v0,v1,v2,v3,v4⟩:=f.o w1 I)|(go_at_call 125;refine Bo (M.o _) ?_;rintro e w2 ⟨rfl,v⟩;have Z:Gr J w2:=Gr.trans I v)|(refine ah rfl 73 (.tmp 8) _ rfl (g:=p+1) (cs':=aP cv none 0 none 0) rfl rfl (HZ.o.gr Z) cY rfl (ik _ _ _ _ _) ?_;intro w9 h9 Q))
 refine bodyPost_ret (ai rfl _ rfl h9 cY) rfl ?_;rw[Kf.o];exact⟨none,0,none,0,rfl,⟨World.ownsRow_nil _ _ _ _,World.ownsRow_nil _ _ _ _⟩,Gr.only (t.trans Z) Q Kk⟩):p:=h
theorem zau (h:p:=by
 go_region_with (go_at_call 114;refine(ef fs name A n cap u w.drew om (aO.gr (ak.own HD.o.own) (Gr.refl _).drew) HS.o).mono ?_;rw[<-HK.o,HB.o];rintro e w2 ⟨rfl,Z⟩)
 all_goals(go_wp2_with fail;go_meet;exact⟨rfl,rfl,Gr.trans (Gr.refl _).drew Z⟩)):p:=h
theorem zav (h:p:=by
 go_wp2_with(first|(rw[<-H,<-V];clear H V;go_wp2_with fail)|(go_at_call 201;refine Bo HS.o ?_;rintro e w5 ⟨U,n',D,rfl,g5,X,C⟩;unfold aI;have d0:w5.cell? (p+1+1+1,0)=n_:=(v.o.gr g5).cell 0;have d1:w5.cell? (p+1+1+1,1)=i0:=(v.o.gr g5).cell 1;have f0:w5.frozen? (p+1+1+1,0)=false:=(v.o.gr g5).frozen 0;have f1:w5.frozen? (p+1+1+1,1)=false:=(v.o.gr g5).frozen 1))
 refine bodyPost_ret (ai rfl _ rfl (((v.o.gr g5).set_ 0 (U,n',D)).set_ 1 m) cz) rfl ?_;have u:=bI.set2 (r:=(a,m,Y)) (p:=p+1+1+1) Mc.o v.o.lt om g5 (U,n',D) m C;exact⟨U,n',D,rfl,u.1,X,u.2⟩):p:=h
theorem zaw (h:p:=by
 go_wp2_with(first|(rw[<-H,<-V];clear H V;go_wp2_with fail)|(go_at_call 201;refine Bo HS.o ?_;rintro e w5 ⟨U,n',D,rfl,g5,X,C⟩;unfold aI;have d0:w5.cell? (p+1+1,0)=n_:=(v.o.gr g5).cell 0;have d1:w5.cell? (p+1+1,1)=i0:=(v.o.gr g5).cell 1;have f0:w5.frozen? (p+1+1,0)=false:=(v.o.gr g5).frozen 0;have f1:w5.frozen? (p+1+1,1)=false:=(v.o.gr g5).frozen 1))
 refine bodyPost_ret (ai rfl _ rfl (((v.o.gr g5).set_ 0 (U,n',D)).set_ 1 m) cz) rfl ?_;have u:=bI.set2 (r:=(a,m,Y)) (p:=p+1+1) Mc.o v.o.lt om g5 (U,n',D) m C;exact⟨U,n',D,rfl,u.1,X,u.2⟩):p:=h
theorem zax (h:p:=by
 have z:=aa (Lw.o.trans (ay g (51+i) _ false));have c:=aa (u.o.far (p:=(g,51+i)) (by show p≠g;have:=Oj.o.blk.lt;have:=Kt.o;omega) false);obtain⟨wx,R⟩:=zq (wc.setCell (g,51+i) false);have Ns:ab (w1.heap.size<=wx.heap.size):=aa (by rw[R];simpa[World.setCell]using Me.o);rw[<-R]at P z c;rw[<-R];clear R f0 c0;go_wp2_with(first|(refine ah rfl 33 (.tmp 6) (.tmp 57) rfl (g:=p) (cs':=a8 0 0 []) rfl rfl c.o aJ rfl (bu _ _ _) ?_;intro w9 h9 Q))
 refine bodyPost_ret (aA rfl _ rfl h9 aJ) rfl ?_;exact Ko.o w1 wx w9 a' _ (0,0,[]) P.o ((Kg.o.mod.trans (z.o.mono (λk _ e=>.inl e)))) Km.o Q Ns.o O.o):p:=h
theorem zay (h:p:=by
 go_enter Tryz.func132,Tryz.ntmps132
 go_wp2_with(first|(rw[<-H,<-V];clear H V;go_wp2_with fail)|(go_at_call 171;refine Bo (a.o _ t) ?_;rintro e w1 ⟨rfl,I⟩))
 go_ret;exact⟨rfl,t.trans I⟩):p:=h
theorem zhi (h:p:=by intro v hv;simp at hv;subst hv;exact h1):p:=h
theorem zaz (h:p:=by
 obtain⟨Y,L,O,M,T⟩:=info_parts E.info;refine step_append_lies _ G s x t ho B e Y z 1 f E.under L O M T E.zcells E.pos _ n xs hs (N.alloc _) (w.heap.size,0) 1 c [u] hx (by simp) ?_ zhi om q i zc4 _ rfl ?_;. intro j v hv;(have hc:(w.alloc (.cells #[u] e)).cell? (w.heap.size,j)=(#[u]:Array Value)[j]?:=World.cell?_alloc_mark w #[u] e (0,0) j);rw[fA,hc];simpa using hv
 . intro g D w' p hg hat _;exact h g D w' p ⟨hg.os,hg.tape,hg.output,by have:=hg.size;simp at this;omega,λk hk hne=>(hg.block k zc4 hne).trans (Below.heap_alloc w _ k hk)⟩):p:=h
theorem zaA (h:p:=by
 rcases h.2 with⟨h,h0⟩|⟨g,D,d,h,_,_,z,_⟩
 . omega
 . injection h with _ _ h3;subst h3;exact z):p:=h
theorem ze0 (h:p:=by unfold Addr.add;split<;>simp_all):p:=h
theorem zaB (h:p:=by rw[M];cases U with|none=>(obtain⟨rfl,rfl⟩:=X rfl;have hv:vs=[]:=List.eq_nil_of_length_eq_zero J;subst hv;exact Src.ofNil w E.under 0)|some ad=>(refine Src.ofSlice w E.under ad m c vs (by rw[J,Nat.mul_one]) (λj u hu=>?_) h1;(have hj:0<m:=by have:=(List.getElem?_eq_some_iff.1 hu).1;omega);obtain⟨b,o,e',hc⟩:=ak.at_ C hj;injection e' with e';subst e';(have:((b,o):Addr).add j=⟨b,o+j,none⟩:=ze0);rw[this];exact hc j u hu)):p:=h
theorem zaC (h:p:=by refine bodyPost_ret (aA rfl _ rfl h9 aJ) rfl ?_;exact Ll.o w2 w9 3 _ P.o z.o Q O.o):p:=h
theorem zaD (h:p:=by
 intro e;rcases h.2 with⟨h,h0⟩|⟨g,_,_,h,_⟩
 . injection h with _ h2 h3;exact⟨h0,h3⟩
 . injection h with h2 _ _;rw[e]at h2;cases h2):p:=h
theorem zaE (h:p:=by
 go_enter Tryz.func146,Tryz.ntmps146
 go_wp2_with(go_at_call 69;refine Bo a.o ?_;rintro e w1 ⟨rfl,I⟩)
 have l:=aa (Kg.o.trans I);have t:Gr w1 w1.drew:=(Gr.refl _).drew
 go_region_held3 (λw'=>Gr w1 w') (first|with_reducible assumption|exact(Gr.refl _).drew|exact Gr.refl _|fail) (first|(go_at_call 44;(with_reducible refine Bo (X.o w1.drew l.o.drew) ?_);rintro e w2 ⟨rfl,Z⟩;have G:Gr w1 w2:=Gr.trans t Z)|fail)
 all_goals(go_wp2_with fail;go_ret2;exact⟨rfl,l.o.trans G⟩)):p:=h
theorem zaF (h:p:=by clear V a eg;obtain⟨B,hB⟩:=zq (s.any λc=>p c.toNat);rw[<-hB]at HI;rw[<-hB];clear hB;cases B with|true=>(go_enter Tryz.func123,Tryz.ntmps123);(go_wp2_with(go_at_call 165;refine Bo (HI.o _) ?_;rintro e w1 ⟨⟨k,rfl,hk⟩,I⟩;have hk':0<=k:=hk));go_ret;exact⟨by simp,I⟩|false=>(go_enter Tryz.func123,Tryz.ntmps123);(go_wp2_with(go_at_call 165;refine Bo (HI.o _) ?_;rintro e w1 ⟨⟨k,rfl,hk⟩,I⟩;obtain rfl:k=-1:=hk));go_ret;exact⟨rfl,I⟩):p:=h
theorem zaG (h:p:=by
 rw[hb]at HE;clear Kq hb;go_wp2_with(refine Bo (HC.o _) ?_;rintro e w1 ⟨rfl,I⟩)
 go_ret2;exact⟨by rw[HL.o,HE.o];rfl,hg.trans I⟩):p:=h
theorem zfH (h:p:=by have:=HA.o;rwa [List.take_length]at this):p:=h
theorem zaH (h:p:=by
 obtain rfl:pos=s.length:=om;have hsz:¬s.length<(bs s).size:=by rw[co];omega
 have o:∀ty,(Instr.next (w.heap.size,0) true ty).run Ao wr=_:=λty=>Lib.run_next_end_at wr w.heap.size (bs s) s.length ty hit hsz
 have v:ab (s.any (λc=>p c.toNat)=false):=aa zfH;clear hsz f V a;go_wp2
 go_ret;exact⟨⟨-1,rfl,by rw[v.o];rfl⟩,hg⟩):p:=h
theorem zaI (h:p:=by
 go_wp2_with(first|(go_at_call 71;rw[<-Kp.o];(with_reducible refine Bo (Ld.o _) ?_);rintro e w5 ⟨rfl,d5,g5⟩;rw[<-Lj.o]at d5⊢)|(go_at_call 72;(with_reducible refine Bo (Km.o _ _ d5) ?_);rintro e w6 ⟨rfl,d6,g6⟩;have T:=Gr.only (HG.o.trans g5) g6 Lh)|(go_at_call 74;(with_reducible refine Bo (a.o _ _ _ d6) ?_);rintro e w7 ⟨rfl,rfl⟩;dsimp only))
 go_ret2;rw[O.o];exact fF.no _ T):p:=h
theorem zaJ (h:p:=by
 go_wp2_with(first|(go_at_call 74;refine Bo (s.o _ _ hD) ?_;rintro e w6 ⟨rfl,rfl⟩)|(go_at_call 76;refine Bo (Kj.o _ _ hD) ?_;rintro e w7 ⟨rfl,rfl⟩)|(refine ah rfl 73 (.tmp 2) _ rfl (g:=p) (cs':=aP cv none 0 none 0) rfl rfl (HZ.o.gr GX) cY rfl (ik _ _ _ _ _) ?_;intro w9 h9 Q))
 refine bodyPost_ret (ai rfl _ rfl h9 cY) rfl ?_;rw[HR.o];exact⟨none,0,none,0,rfl,qy.zero _ _,Gr.only (t.trans GX) Q Kd⟩):p:=h
theorem zaK (h:p:=by
 intro j u hu;have hj:0<n:=by rcases Nat.eq_zero_or_pos n with h|h;(. have:=C.len;rw[h,Nat.zero_mul]at this;rw[List.eq_nil_of_length_eq_zero this]at hu;cases hu);. exact h
 obtain⟨b,off,e,hc⟩:=ak.at_ C hj;injection e with e;subst e;have:((b,off):Addr).add j=(b,off+j):=ze0
 rw[this];exact hc j u hu):p:=h
theorem zaL (h:p:=by cases he:fs[i].1==name with|true=>exact List.any_eq_true.2 ⟨fs[i],List.getElem_mem hi,he⟩|false=>((refine List.any_eq_false.2 λf hf=>?_);obtain⟨m,hm,rfl⟩:=List.getElem_of_mem hf;intro j;(have j:fs[m].1=name:=by simpa using j);rcases Nat.lt_trichotomy m i with h3|rfl|h3;(. have:=h1 m hm h3;rw[j,eY]at this;cases this);(. rw[j]at he;simp at he);. have:=h.get hm h3;rw[j,h2]at this;cases this)):p:=h
theorem zc1 (h:p:=by unfold maxLen;omega):p:=h
theorem zaM (h:p:=by
 go_wp2_with(first|(go_at_call 40;(with_reducible refine Bo (Lv.o _ _ (Le.o.alloc _) Kk) ?_);rintro e w8 ⟨rfl,g8⟩))
 refine bodyPost_ret (results_tmp3 rfl _ _ _) rfl ?_;rw[O.o];exact⟨some (w7.heap.size,0),3,rfl,av (World.ownsRow_lit w7 #[a,tr,x] 3 (Kg.o.trans Le.o).size zc1 rfl) g8,Kg.o.trans ((Le.o.alloc _).trans g8)⟩):p:=h
theorem zaN (h:p:=by
 refine⟨h.1,?_⟩;rcases h.2 with h0|⟨g,cap,d,hv,hB,r⟩
 . exact .inl h0
 . exact .inr ⟨g,cap,d,hv,Nat.le_trans z hB,r⟩):p:=h
theorem zeL (h:p:=by show w.heap.size<=p+1;omega):p:=h
theorem zaO (h:p:=by rw[HS.o];exact⟨A3,n3,b,rfl,((t.trans (s.o.trans g3)).setCell (p:=(p+1,0)) zeL _).setCell (p:=(p+1,1)) zeL _,yq l.own,.inr (eJ (ownsRow_setCell_other (ownsRow_setCell_other l.own (a:=(p+1,0)) hne _) (a:=(p+1,1)) hne _) (t.trans s.o).size)⟩):p:=h
theorem ze6 (h:p:=by have:=Lm.o;have:=Il.o;omega):p:=h
theorem zaP (h:p:=by
 go_roundg (gk-1)
 case rel=>refine⟨k+1,A2,c2,by go_num,by rw[Kd],aa ze6,aa Il.o,aa ?_,aa ((G1.trans Ks).grown h2 (λj hj=>(Lj.lt j hj).1))⟩;rw[<-Kd,n.o,<-pi];exact o2
 case measure=>have:=Lm.o;have:=Il.o;omega):p:=h
theorem zaQ (h:p:=by
 go_enter Tryz.func117,Tryz.ntmps117
 go_wp2_with(go_at_call 116;refine(nr _ _ hl).mono ?_;rintro e w1 ⟨rfl,rfl⟩)
 go_ret3
 exact⟨by rw[ht.1,ht.2,s];rfl,rfl⟩):p:=h
theorem zaR (h:p:=by rename_i e;subst hA;exact⟨h,.inl ⟨e,rfl,rfl,rfl,rfl⟩⟩):p:=h
theorem zaS (h:p:=by
 go_enter Tryz.func55,Tryz.ntmps55
 go_wp2_with(refine ah rfl 38 (.tmp 4) (.tmp 12) rfl (g:=w.heap.size) (cs':=lw 0 [] 0 0 []) rfl rfl (ag.new w 38 (lw 0 [] 0 0 [])) A.wit rfl (rK _ _ _ _ _) ?_;intro w2 h2 y)
 refine bodyPost_ret (ai rfl _ rfl h2 A.wit) rfl ?_;exact⟨rfl,Gr.only ((Gr.refl w).alloc _) y (Dg _)⟩):p:=h
theorem zaT (h:p:=by exact⟨by simp,by simp,by simp only;omega,by simp⟩):p:=h
theorem zaU (h:p:=by
 go_wp2_with(first|(go_at_call 74;(with_reducible refine Bo Ly.o ?_);rintro e w7 ⟨rfl,rfl⟩))
 go_meet
 exact⟨by rw[Lc.o],rfl⟩):p:=h
theorem zaV (h:p:=by
 go_enter Tryz.func200,Tryz.ntmps200
 go_wp2_with fail
 refine bodyPost_ret (results_tmp3 rfl _ _ _) rfl ?_;exact⟨[],[],false,rfl,HB.o,Gr.refl _⟩):p:=h
theorem zez (h:p:=by simp[Value.oneCell']):p:=h
theorem zaW (h:p:=by
 go_wp2_with(first|(refine ah rfl 60 (.tmp 6) (.tmp 46) rfl (g:=p+1+1+1) (cs':=#[(A,n,c),fu,sz,rt,(B,N0,d),(C,k,e)]) rfl rfl (HQ.o.gr gb) cn rfl zez ?_;intro w9 h9 k9))
 refine bodyPost_ret (ai rfl _ rfl h9 cn) rfl ?_;exact Ku.o _ _ w9 gb k9 O.o):p:=h
theorem zaX (h:p:=by
 go_enter Tryz.func170,Tryz.ntmps170
 go_wp2_with fail
 go_ret;exact⟨rfl,(Gr.refl w).alloc _⟩):p:=h
theorem zaY (h:p:=by go_ret;rw[Nat.zero_add,List.nil_append]at N;exact⟨U,c',rfl,N,Gr.grown ((Gr.refl w).alloc _) d (λk hk=>by simp[Value.ownBlock]at hk;omega)⟩):p:=h
theorem zaZ (h:p:=by
 go_enter Tryz.func118,Tryz.ntmps118
 go_wp2
 go_ret;exact⟨rfl,(Gr.refl w).alloc _⟩):p:=h
theorem za0 (h:p:=by
 go_wp2_with fail
 refine bodyPost_ret (iP rfl _ rfl ((HM.o.rs.set_ 0 (U,n',D)).set_ 1 u) cz) rfl ?_;rw[O.o];obtain⟨t1,t2⟩:=zA (q:=p+1) HM.o.gr m i.o HM.o.row (U,n',D) u;exact⟨U,n',D,rfl,t1,HM.o.nil,t2⟩):p:=h
theorem za1 (h:p:=by rw[show Nat.min 1 (n+1-i)=1 by simp only[Nat.min_def];split<;>omega]at this;exact this):p:=h
theorem za2 (h:p:=by
 have h':=List.pairwise_append.1 h
 refine List.pairwise_append.2 ⟨h'.1,List.pairwise_cons.2 ⟨hb,h'.2.1⟩,λx hx y hy=>?_⟩
 rcases List.mem_cons.1 hy with rfl|hy
 . exact ha x hx
 . exact h'.2.2 x hx y hy):p:=h
theorem za3 (h:p:=by
 go_wp2_with fail
 go_quiet (fail)
 go_wp2_with fail
 go_ret;exact⟨by rw[HS.o];rfl,hg.drewN _⟩):p:=h
theorem za4 (h:p:=by
 go_wp2_with fail
 go_roundg (gk-1)
 case rel=>exact⟨i+1,by go_num,om,Il.o,aa (by rw[Kl.o,D.o,hB.o];rfl),Mc⟩
 case measure=>have:=Il.o;omega):p:=h
theorem za5 (h:p:=by refine⟨by simp,λ_=>⟨g,0,rfl,λi v hi=>?_⟩⟩;have:=h.cell i;rw[Nat.zero_add,this];simpa using hi):p:=h
theorem za6 (h:p:=by
 have b:tmps[p]?.getD undef=.pointer (some (g,0)):=by simpa using V
 simp[results,h,b,asAddr,ia hB A]):p:=h
theorem za7 (h:p:=by injection hy with hy _;rw[h3 l _ hl]at hy;cases hf:f l with|none=>(rw[hf]at hy;injection hy with hy;exact(M.inj _ _ hy).symm)|some u=>(rw[hf]at hy;injection hy with hy;exact(M.inj _ _ hy).symm)):p:=h
theorem za8 (h:p:=by refine bodyPost_ret (ai rfl _ rfl ((Kn.set_ 0 i0).set_ 1 s_) A.head) rfl ?_;rw[HR.o];exact⟨rfl,(c.setCell (p:=(p,0)) Kd _).setCell (p:=(p,1)) Kd _⟩):p:=h
theorem za9 (h:p:=by
 go_wp2_with fail
 go_roundg (gk-1)
 case rel=>exact⟨k+1,by go_num,aa ze6,aa Il.o,Kh,v⟩
 case measure=>have:=Lm.o;have:=Il.o;omega):p:=h
theorem zba (h:p:=by exact⟨z,f.1,f.2,by rw[k3];(try simp only);omega,λc hc=>by rw[k1,k3];exact h1.logs c hc,λc hc=>by rw[k2,k3];exact h1.marks c hc,by rw[k4,k3];exact h1.objs,by rw[k5];exact h.first⟩):p:=h
theorem zbb (h:p:=by
 refine List.any_eq_false.2 λf hf=>?_
 obtain⟨m,hm,rfl⟩:=List.getElem_of_mem hf;intro j;have j:fs[m].1=name:=by simpa using j
 have:=h1 m hm om;rw[j,eY]at this;cases this):p:=h
theorem zbc (h:p:=by
 clear hV;go_enter Tryz.func208,Tryz.ntmps208
 go_upto_region 1 with fail
 rw[<-H,<-V];clear H V;go_wp2_with fail
 go_ret2;rw[HV.o];exact⟨rfl,g0⟩):p:=h
theorem zbd (h:p:=by
 clear h0 hc h8;go_wp2
 all_goals(go_ret3);exact⟨by rw[<-hg.o,HF.o];rfl,rfl⟩):p:=h
theorem zbe (h:p:=by obtain⟨Lt,Q,d,g⟩:=T2.o.done HP.o;refine bodyPost_ret (ai rfl _ rfl Lt cz) rfl ?_;rw[HR.o];exact⟨A7,n7,E,rfl,Q,d,g⟩):p:=h
theorem zbf (h:p:=by
 clear d;go_wp2_with fail
 go_roundw
 case rel=>exact⟨i+1,by go_num,Il.o,HN,by trivial⟩
 case measure=>simp[intOf];have:=Il.o;omega):p:=h
theorem zbg (h:p:=by
 go_enter Tryz.func101,Tryz.ntmps101
 go_wp2_with(go_at_call 44;refine(dO [] _ hT (by simp)).mono ?_;rintro e w1 ⟨rfl,I⟩)
 go_ret;exact⟨by rw[HR.o];rfl,I⟩):p:=h
theorem zbh (h:p:=by
 clear hr hb;go_enter Tryz.func125,Tryz.ntmps125
 go_wp2_with(first|(rw[<-H,<-V];clear H V;go_wp2_with fail))
 go_ret2;exact⟨rfl,t⟩):p:=h
theorem zbi (h:p:=by
 clear hf;go_enter Tryz.func135,Tryz.ntmps135
 go_wp2_with(refine eX lM rfl (.tmp 8) (.tmp 9) rfl rfl HM.o rfl a h1 h2 ?_)
 go_ret2;exact⟨rfl,Gr.refl _⟩):p:=h
theorem zbj (h:p:=by
 rcases hr with⟨rfl,rfl,rfl,rfl⟩|hr;. rcases h.alt with h1|h1;(. exact .inl h1);. exact .inr (N _ (Dg _) (av h1 hg))
 . exact .inr (N _ om hr)):p:=h
theorem zbk (h:p:=by
 clear C hl;go_enter Tryz.func94,Tryz.ntmps94
 go_wp2_with fail
 go_ret;exact⟨none,0,0,rfl,om,World.ownsRow_nil _ _ _ _,Gr.refl _⟩):p:=h
theorem zbl (h:p:=by
 by_cases e:i=0;. have:=h.2.1 e;omega
 . have:=(h.2.2 ⟨om,om⟩).2;omega):p:=h
theorem zbm (h:p:=by
 rcases HO.o.2 with⟨h,h0⟩|⟨g,_,_,h,_⟩
 . injection h with h;cases h
 . injection h with h;injection h with h;exact⟨g,h⟩):p:=h
theorem zbn (h:p:=by refine bodyPost_ret (ai rfl _ rfl h9 db) rfl ?_;exact⟨A1,cap1,rfl,ak.only rX Q (hne (p+1) (.inr (.inl rfl))),l,Gr.only gX Q Kd⟩):p:=h
theorem zbo (h:p:=by
 go_wp2_with(go_at_call 156;refine(HN.o _).mono ?_;rintro e w1 ⟨rfl,I⟩)
 go_ret;exact⟨rfl,L.o.trans I,λh=>by cases h⟩):p:=h
theorem zbp (h:p:=by
 go_wp2_with(go_at_call 159;refine Bo (rf nm name _) ?_;rintro e w1 ⟨rfl,rfl⟩)
 go_ret;exact⟨rfl,(Gr.refl w).alloc _⟩):p:=h
theorem zbq (h:p:=by
 rcases List.mem_cons.1 v with e|v
 . subst e;exact .inl (.inl (by simp))
 . exact .inr (List.mem_append_left _ v)):p:=h
theorem zbr (h:p:=by
 go_wp2_with(at_builtin;refine wpList_clear_run _ rfl (.tmp 31) 58 rfl _ rfl (Kd _ _) ?_)
 go_ret;exact⟨rfl,HB.o,Ku.o⟩):p:=h
theorem zbs (h:p:=by
 go_wp2_with(at_builtin;refine wpList_clear_run _ rfl (.tmp 31) 34 rfl _ rfl (Kd _ _) ?_)
 go_ret;exact⟨rfl,HB.o,Ku.o⟩):p:=h
theorem zbt (h:p:=by refine⟨by rw[Nat.one_mul];simpa using hk,λ_=>⟨g,0,rfl,λi v hv=>?_⟩⟩;rw[Nat.zero_add,h.cell];simpa using hv):p:=h
theorem zbu (h:p:=by
 clear HE;go_enter Tryz.func15,Tryz.ntmps15
 go_wp2_with fail
 go_ret;exact⟨by rw[HF.o];rfl,Gr.refl _⟩):p:=h
theorem zbv (h:p:=by
 clear hn;go_wp2_with fail
 go_ret;exact⟨by rw[F.o];rfl,t.trans C⟩):p:=h
theorem zbw (h:p:=by
 unfold cx;split;. unfold tS;split;(. unfold dm;simp only[List.length_take,List.length_drop];omega);. simp
 . simp):p:=h
theorem zbx (h:p:=by intro k cs t hk ht Kr;have h1:ag w1 k t cs:=eH Kr ho (λe=>ht e.symm) F;exact h1.grown Mr (by simpa using hk)):p:=h
theorem zby (h:p:=by simp only[ku,List.length_append,List.length_take,List.length_cons,List.length_drop];omega):p:=h
theorem zbz (h:p:=by
 go_enter Tryz.func138,Tryz.ntmps138
 go_wp2_with fail
 go_ret2;rw[O.o];exact⟨rfl,Gr.refl _⟩):p:=h
theorem zbA (h:p:=by
 intro args w;have h1:fn.name≠ "runtime.NumGoroutine":=by simpa using a
 simp[callFunc,hf,h1,hb,mark]):p:=h
theorem zbB (h:p:=by
 unfold eM;by_cases h:x∈S;. rw[if_pos h,decide_eq_true h];rfl
 . rw[if_neg h,decide_eq_false h];rfl):p:=h
theorem zbC (h:p:=by simp only[bO,List.mem_cons,List.not_mem_nil,or_false]at h;rcases h with rfl|rfl|rfl|rfl|rfl<;>rfl):p:=h
theorem zbD (h:p:=by rename_i e;exact⟨h,rfl,rfl,rfl,rfl,rfl,λ_ _=>rfl,λ_=>rfl,.inl ⟨e,rfl,rfl,rfl⟩⟩):p:=h
theorem zbE (h:p:=by
 unfold gE at h;unfold gK;rcases hg:lo l with _|⟨n,k⟩;. rw[hg]at h;cases h
 . exact(sD hg).2.1):p:=h
theorem zbF (h:p:=by induction s with|nil=>rfl|cons c r J=>simp[J]):p:=h
theorem zbG (h:p:=by rename_i e;exact⟨h,rfl,rfl,rfl,rfl,rfl,rfl,λ_ _=>rfl,.inl ⟨e,rfl,rfl,rfl,rfl⟩⟩):p:=h
theorem zbH (h:p:=by
 have h3:=dV ((dy (l.getD i []) (l.take i) st.1 out).1:Int) st.2
 simp only;omega):p:=h
theorem zbI (h:p:=by exact⟨A,m,cap,rfl,O.o.gr G3,kQ.same x.o,G3⟩):p:=h
theorem zbJ (h:p:=by rw[List.take_succ_cons,List.flatMap_cons,List.flatMap_cons,e,List.take_length_add_append,J]):p:=h
theorem zbK (h:p:=by cases h2:aR fs[j].1 name with|false=>rfl|true=>(rw[h.below hj T h2]at hl;cases hl)):p:=h
theorem zbL (h:p:=by have hb:=of_decide_eq_true hk;simp only[List.append_nil,Rows.uptoBulkAll]at hb;omega):p:=h
theorem zbM (h:p:=by
 split at hx;. cases hx
 . simp only[List.mem_singleton]at hx;subst hx;exact iJ _):p:=h
theorem zbN (h:p:=by
 go_wp2_with fail
 go_ret2;exact⟨by rw[HN.o];rfl,Ll⟩):p:=h
theorem zbO (h:p:=by obtain rfl|rfl|rfl|rfl:i=0\/i=1\/i=2\/i=3:=om;all_goals kernel_rfl):p:=h
theorem zbP (h:p:=by
 rcases Nat.lt_or_eq_of_le T with h1|rfl;. exact gA _ _ _ (h.get hj h1) hl
 . exact hl):p:=h
theorem zbQ (h:p:=by
 rcases hk with hk|hk;. exact h.hF hk
 . have:=h.blk.lt;have:=hk.1;omega):p:=h
theorem zbR (h:p:=by rw[List.filter_append,List.map_append];congr 1;by_cases e:L[i]∈K<;>simp[e]):p:=h
theorem zbS (h:p:=by
 unfold aN;split;. split;(. simp);. exact Dg _
 . exact Dg _):p:=h
theorem zbT (h:p:=by
 unfold ao;split;. simp
 . exact Dg _):p:=h
theorem zbU (h:p:=by subst f;exact hy.wpOp hi (A _ _ hn m) ⟨⟨m.1,λh=>m.2 ((my l).1 h)⟩,H⟩):p:=h
theorem zbV (h:p:=by
 by_cases e:j=i-3;. subst e;simp[bi]
 . simp[dG _ _ e]):p:=h
theorem zbW (h:p:=by
 rcases hn with hn|hn;. exact h.rows.apart j hj hn
 . exact hn.2.2 hj):p:=h
theorem zbX (h:p:=by
 unfold cu;split;. rw[List.length_take];exact Nat.min_le_left _ _
 . simp):p:=h
theorem zbY (h:p:=by rw[List.drop_succ_cons,List.flatMap_cons,e,List.drop_length_add_append,J]):p:=h
theorem zbZ (h:p:=by obtain rfl|rfl|rfl:i=0\/i=1\/i=2:=om;all_goals kernel_rfl):p:=h
theorem zb0 (h:p:=by
 go_wp2_with fail
 go_ret;exact⟨_,_,rfl,p,B⟩):p:=h
theorem zb1 (h:p:=by have:=gV t om;simp only[List.length_append];omega):p:=h
theorem zb2 (h:p:=by rw[b];exact World.putObj_heap_same (Array.getElem?_eq_some_iff.1 U).1):p:=h
theorem zb3 (h:p:=by
 unfold bT;split;. split;(. simp);. simp only;omega
 . simp):p:=h
theorem zb4 (h:p:=by
 intro x hx;obtain⟨y,_,rfl⟩:=List.mem_map.1 hx
 exact h y):p:=h
theorem zb5 (h:p:=by rwa [World.size_alloc,World.size_alloc,World.size_alloc]at this):p:=h
theorem zb6 (h:p:=by
 split;. simp only;omega
 split<;>(simp only;omega)):p:=h
theorem zb7 (h:p:=by rw[Go.length_splice _ _ _ (by rw[h4,Kd];simp;omega),h4,Kd]):p:=h
theorem zb8 (h:p:=by
 intro u hu;obtain⟨c,_,rfl⟩:=List.mem_map.1 hu
 rfl):p:=h
theorem zb9 (h:p:=by rw[List.take_succ_eq_append_getElem h,List.foldl_append];rfl):p:=h
theorem zca (h:p:=by rw[Go.length_splice _ _ _ (by rw[h4,h3,Kd];omega),h4,Kd]):p:=h
theorem zcb (h:p:=by
 intro u hu;obtain⟨x,_,rfl⟩:=List.mem_map.1 hu
 rfl):p:=h
theorem zcc (h:p:=by obtain rfl|rfl:b=0\/b=1:=om;all_goals kernel_rfl):p:=h
theorem zcd (h:p:=by have:(i<n)↔(i<n+1):=om;simp[e,this]):p:=h
theorem zce (h:p:=by
 unfold aG at h;split at h;. assumption
 . exact h):p:=h
theorem zcf (h:p:=by cases s with|nil=>exact absurd rfl h|cons=>rfl):p:=h
theorem zcg (h:p:=by exact⟨b,off,e,hc 0 _ rfl,hc 1 _ rfl,hc 2 _ rfl⟩):p:=h
theorem zch (h:p:=by exact(G1.trans Kz).grown h2 (λk hk=>(Lj.lt k hk).1)):p:=h
theorem zci (h:p:=by
 unfold aN at h;split at h;. assumption
 . exact h):p:=h
theorem zcj (h:p:=by rw[fA]at this;rw[Nat.zero_add];exact this):p:=h
theorem zck (h:p:=by
 unfold aS;split;. simp
 . exact Dg _):p:=h
theorem zcl (h:p:=by
 go_wp2_with fail
 have r:=ag.new wr 70 #[nm,z,v];have a:=((HB.o.gr hg).alloc (.cells #[nm,z,v] 70));have y:=hg.alloc (.cells #[nm,z,v] 70);obtain⟨wx,R⟩:=zq (wr.alloc (.cells #[nm,z,v] 70));obtain⟨q,hq⟩:=zq (wr.heap.size);rw[<-R]at r a y;rw[<-hq]at r;rw[<-R,<-hq];have c:=aa r;have g:=aa a;clear R hq r a e0 e1 e2;refine aU 3 zc0 dc0 zc0 (λwd hwd=>?_);simp only[List.take_succ_cons,List.take_zero,List.drop_succ_cons,List.drop_zero];have gd:Gr wx wd:=zeS
 clear hwd;have S:wd.cell? (q,0)=nm:=(c.o.gr gd).cell 0
 go_wp2_with(go_at_call 156;refine(HN.o _).mono ?_;rintro e w1 ⟨rfl,I⟩;have l:Gr wx w1:=gd.trans I)
 have Kr:w1.cell? (q,0)=nm:=(c.o.gr l).cell 0
 have Kt:w1.cell? (q,1)=z:=(c.o.gr l).cell 1
 have Kv:w1.cell? (q,2)=v:=(c.o.gr l).cell 2
 have s:w1.cell? (w.heap.size,0)=((b,off),n,cap):=(g.o.gr l).cell 0
 simp only[iZ];clear I gd S;repeat(go_big_quiet_step (fail))
 refine wpQuiet_nil ?_;intro _ M;obtain⟨nq,E⟩:=M;subst E;have G:Gr wx (w1.drewN nq):=Gr.drewN l nq;go_wp2_with fail
 go_ret;exact⟨by rw[HF.o];rfl,t.trans (y.trans G)⟩):p:=h
theorem zcm (h:p:=by
 go_wp2_with(first|(go_at_call 76;refine(eS g0 _ _ v).mono ?_;rintro e wd ⟨rfl,rfl⟩;dsimp only)|(go_at_call 72;refine(aW g0 (s,0) _ v).mono ?_;rintro e J ⟨rfl,g,j⟩;rw[<-Ka.o]at g;rw[<-U.o];have I:=bG F j Q;have C:=aB N v.blk dc0 j;clear v)|(go_at_call 75;refine(iE g0 (t1,f1) _ _ g om).mono ?_;rintro e wb ⟨rfl,c,G⟩;rw[Kc.o,<-Kr.o]at c;rw[Kc.o,<-HP.o];have i:=bG I G Q;have f:=aB C g.blk dc0 G;clear g)|(at_builtin;refine bg E.u8 Tryz.underlying9 rfl (.tmp 41) (.tmp 44) rfl rfl f rfl om i.size ?_;intro A2 r wc W B;have D:=c.other B (λe=>bD f c.blk dc0 e.symm);have O:=i.grown B (λk hk=>(f.lt k hk).1);clear c)|(go_at_call 74;refine(dD g0 _ _ D).mono ?_;rintro e wd ⟨rfl,rfl⟩;dsimp only))
 go_ret2;exact⟨by rw[Eq.o,L.o];rfl,O⟩):p:=h
theorem zcn (h:p:=by
 simp only[iZ];clear I gd S;repeat(go_big_quiet_step (fail))
 refine wpQuiet_nil ?_;intro _ M;obtain⟨nq,E⟩:=M;subst E;have G:Gr wx (w1.drewN nq):=Gr.drewN l nq;go_wp2_with fail
 go_meet
 exact⟨by rw[Y.o];rfl,G⟩):p:=h
theorem zco (h:p:=by
 rw[<-Kr]at Lm Lx Ln;clear Kq My Lr Kr;go_wp2_with(first|(go_at_call 64;(with_reducible refine Bo (u.o _ _ _ _ zey dx) ?_);rintro e w5 ⟨rfl,d5,Ko,Lz⟩;have g5:Gr J w5:=Below.trans gx (Below.mono Ko a);have b5:=Lz q _ 100 Ms dc0 r;have Mz:=b5.cell 0;have Na:=b5.cell 1;have Nb:=b5.cell 2)|(go_at_call 63;(with_reducible refine Bo (Lm.o _ _ _ _ zey d5) ?_);rintro e w6 ⟨rfl,d6,D,Ma⟩;have g6:Gr J w6:=Below.trans g5 (Below.mono D a);have b6:=Ma q _ 100 Ms dc0 b5;have Nc:=b6.cell 0;have Nd:=b6.cell 1;have Nf:=b6.cell 2)|(go_at_call 65;(with_reducible refine Bo (Ly.o _ _ _ _ zey d6) ?_);rintro e w7 ⟨rfl,d7,Lq,Mb⟩;have g7:Gr J w7:=Below.trans g6 (Below.mono Lq a);have b7:=Mb q _ 100 Ms dc0 b6;have Ng:=b7.cell 0;have Nh:=b7.cell 1;have Ni:=b7.cell 2))
 go_roundg (gk-1)
 case rel=>exact⟨i+1,by go_num,by have:=Il.o;omega,Il.o,by rw[Ln.o];simpa using d7,g7⟩
 case measure=>have:=Il.o;omega):p:=h
theorem zcp (h:p:=by
 go_wp2_with(first|(go_at_call 208;(with_reducible refine Bo (d.o _) ?_);rintro e w2 ⟨rfl,Z⟩;have G2:Gr wr w2:=Gr.trans zeK Z;have y2:w2.cell? (p+1,2)=T:=(HC.o.gr G2).cell 2))
 go_roundg (gk-1)
 case rel=>exact⟨i+1,(k0,k1,T),by go_num,aa zeW,by rw[<-a.o];exact G,aa (HC.o.gr G2),aa (HP.o.gr G2),aa (HG.o.trans G2)⟩
 case measure=>have:=HF.o;have:=HI.o;omega):p:=h
theorem zcq (h:p:=by
 go_wp2_with(refine ah rfl 97 (.tmp 2) _ rfl (g:=p) (cs':=bh cg none 0 none 0) rfl rfl (HZ.o.gr S) aK rfl (bx _ _ _ _ _) ?_;intro w9 h9 Q)
 refine bodyPost_ret (ai rfl _ rfl h9 aK) rfl ?_;rw[O.o];exact⟨none,0,none,0,rfl,eC.z _,Gr.only (t.trans S) Q Kd⟩):p:=h
theorem zg7 (h:p:=by rw[z,heq];rfl):p:=h
theorem zcr (h:p:=by
 rcases kP n with⟨b1,b2⟩|⟨b1,b2,b3⟩|⟨b1,b2,b3⟩;. rw[b2]at z;clear b2;cases heq:(o==n);(. have O:ab (ok=true):=aa zg7;clear z;exact zai);. have O:ab (ok=false):=aa zg7;clear z;exact zai
 . rw[b3]at z;clear b3;cases heq:(o==n);(. have O:ab (ok=true):=aa zg7;clear z;exact zai);. have O:ab (ok=false):=aa zg7;clear z;exact zai
 . have O:ab (ok=false):=aa (by rw[z,b3];simp);clear z b3;exact zai):p:=h
theorem zcs (h:p:=by
 go_enter Tryz.func95,Tryz.ntmps95
 go_upto_region 1 with fail
 rw[<-Lp.o,<-Kt.o];clear Lp;go_wp2_with(first|(refine ah rfl 173 (.tmp 8) (.tmp 40) rfl (g:=p+1) (cs':=gG) rfl rfl Ks.o fM rfl (kD _ _ _ _ _ _ _ _ _ _ _ _ _) ?_;intro w9 h9 Q))
 refine bodyPost_ret (ai rfl _ rfl h9 fM) rfl ?_;exact Ko.o w9 (Gr.only Kg.o Q ze1) h9):p:=h
theorem zct (h:p:=by
 go_enter Tryz.func171,Tryz.ntmps171
 go_wp2_with(go_at_call 44;refine(dO [] _ hT (by simp)).mono ?_;rintro e w1 ⟨rfl,I⟩)
 go_ret;exact⟨by rw[HF.o];rfl,I⟩):p:=h
theorem zcu (h:p:=by
 go_enter Tryz.func177,Tryz.ntmps177
 go_wp2_with(first|(go_at_call 74;(with_reducible refine Bo (a.o _ _ d3) ?_);rintro e G ⟨rfl,rfl⟩;dsimp only)|(go_at_call 72;(with_reducible refine Bo f.o ?_);rintro e w1 ⟨rfl,d1,I⟩)|(go_at_call 72;(with_reducible refine Bo (Y.o _ d1) ?_);rintro e w2 ⟨rfl,d2,Z⟩;have G2:=aM I Z)|(go_at_call 75;(with_reducible refine Bo (H3.o _ d2) ?_);rintro e w3 ⟨rfl,d3,g3⟩;have G3:=aM G2 g3)|(go_at_call 74;(with_reducible refine Bo (a.o _ _ d1) ?_);rintro e G ⟨rfl,rfl⟩;dsimp only))
 go_ret3
 rw[O.o];exact⟨rfl,d3,G3⟩):p:=h
theorem zeD (h:p:=by simp only;omega):p:=h
theorem zcv (h:p:=by
 by_cases V:j<n;. rw[List.getElem?_append_left om]at hv;rw[World.cell?_setCells_out g vs (off+n) w (g,off+j) (λ_ _=>.inl zeD)];exact y j v hv
 . rw[List.getElem?_append_right om]at hv;(obtain⟨d,p⟩:=List.getElem?_eq_some_iff.1 hv);have:=World.cell?_setCells_in g vs (off+n) w (λk hk=>by rw[Nat.add_assoc];exact(N (n+k) om).1) (j-xs.length) d;rw[show off+n+(j-xs.length)=off+j by omega]at this;rw[this,p]):p:=h
theorem zhh (h:p:=by rw[z];rfl):p:=h
theorem zcw (h:p:=by
 rcases kP id with⟨b1,b2⟩|⟨b1,b2,b3⟩|⟨b1,b2,b3⟩;. rw[b2]at z;clear b2;have O:ab (ok=true):=aa zhh;exact zan
 . rw[b3]at z;clear b3;have O:ab (ok=true):=aa zhh;exact zan
 . rw[b3]at z;clear b3;have O:ab (ok=false):=aa zhh;exact zan):p:=h
theorem zcx (h:p:=by
 clear o7 y hN;go_wp2_with fail
 go_meet
 first|exact hM|(rw[F];exact hM)|simpa using hM):p:=h
theorem zg5 (h:p:=by rw[bne_iff_ne];exact he):p:=h
theorem zcy (h:p:=by
 have q1:(Y !=0)=true:=zg5
 clear he HV;go_wp2_with(first|(refine ah rfl 33 (.tmp 6) (.tmp 51) rfl (g:=p) (cs':=a8 Y 0 []) rfl rfl u.o aJ rfl (bu _ _ _) ?_;intro w9 h9 Q))
 refine bodyPost_ret (aA rfl _ rfl h9 aJ) rfl ?_;exact Ko.o w1 wc w9 a' _ (Y,0,[]) Kq.o ((Kg.o.mod.trans (Lw.o.mono (λk _ e=>.inl e)))) Km.o Q Me.o O.o):p:=h
theorem zcz (h:p:=by
 rw[O.o];go_enter Tryz.func193,Tryz.ntmps193
 exact zak):p:=h
theorem zcA (h:p:=by rw[List.length_append];simp only[List.length_cons,List.length_nil];omega):p:=h
theorem zcB (h:p:=by
 clear Ko;go_wp2_with(first|(refine ah rfl 33 (.tmp 4) (.tmp 124) rfl (g:=p) (cs':=a8 3 0 []) rfl rfl Kh.o aJ rfl (bu _ _ _) ?_;intro w9 h9 Q))
 exact zaC):p:=h
theorem zcC (h:p:=by first|(simp[Act.eval];done)|(unfold Act.put;simp[Act.eval];done)):p:=h
theorem zcD (h:p:=by
 rw[O.o];go_enter Tryz.func122,Tryz.ntmps122
 exact zak):p:=h
theorem zcE (h:p:=by
 go_wp2_with fail
 go_roundg (gk-1)
 case rel=>exact⟨k+1,A0,c0,by go_num,by rw[n.o],aa ze6,aa Il.o,by rw[n.o];exact aa (av HO.o Kz),aa (HG.o.trans Kz)⟩
 case measure=>have:=Lm.o;have:=Il.o;omega):p:=h
theorem zcF (h:p:=by
 clear Kh;go_wp2_with(first|(go_at_call 76;(with_reducible refine Bo Mx.o ?_);rintro e w6 ⟨rfl,rfl⟩)|(go_at_call 74;(with_reducible refine Bo Ly.o ?_);rintro e w6 ⟨rfl,rfl⟩))
 go_meet
 exact⟨by rw[Lz.o],rfl⟩):p:=h
theorem zcG (h:p:=by
 have a:=aa (Il.o hb);clear Il c Kq hb;go_wp2_with(refine Bo (HC.o _) ?_;rintro e w1 ⟨rfl,I⟩)
 go_roundw
 case rel=>exact⟨h+1,j,by go_num,rfl,om,om,a,Y,hg.trans I⟩
 case measure=>simp[intOf];omega):p:=h
theorem zgD (h:p:=by cases dt<;>simp_all):p:=h
theorem zcH (h:p:=by
 have k:(dt==[])=false:=zgD
 have O:ab (Kb=false):=aa (by rw[HV.o];simp[cN,hdata]);exact zac):p:=h
theorem zcI (h:p:=by
 go_wp2_with fail
 go_region
 go_wp2_with fail
 go_roundw
 case rel=>exact⟨i+1,by go_num,om,aa (Kw.o _ rfl),aa (Ko.o _),aa (Oa.o _),(Ke.o _).drew⟩
 case measure=>simp[intOf];omega):p:=h
theorem zcJ (h:p:=by
 go_wp2_with fail
 go_ret;exact⟨none,0,rfl,World.ownsRow_nil _ _ _ _,Gr.refl _⟩):p:=h
theorem zcK (h:p:=by refine bodyPost_ret (ai rfl _ rfl (HW.o w3 (s.o.trans g3)) cz) rfl ?_;rw[HS.o];exact⟨A,n,cap,rfl,HV.o w3 (s.o.trans g3),HA.o,.inl ⟨rfl,rfl,rfl,rfl⟩⟩):p:=h
theorem ze2 (h:p:=by simpa using hj):p:=h
theorem zcL (h:p:=by
 split at hj;. exact(hg.cell _).trans ze2
 . cases hj):p:=h
theorem zcM (h:p:=by refine bodyPost_ret (ai rfl _ rfl Lt cz) rfl ?_;rw[HR.o];exact⟨A,n,cap,rfl,Q,d,g⟩):p:=h
theorem zcN (h:p:=by
 by_cases Z:(4:Int)<(m:Int);. exact zao
 . exact zao):p:=h
theorem zcO (h:p:=by
 rw[O.o];go_enter Tryz.func151,Tryz.ntmps151
 exact zak):p:=h
theorem zcP (h:p:=by
 go_wp2_with(refine Bo t.o ?_;rintro e W' ⟨rfl,I⟩)
 go_ret;exact⟨⟨(pos:Int),rfl,by rw[HT.o];show(0:Int)<=pos;omega⟩,y.trans I⟩):p:=h
theorem zcQ (h:p:=by
 go_wp2_with fail
 refine bodyPost_ret (results_tmp3 rfl _ _ _) rfl ?_;rw[O.o];exact⟨none,0,rfl,World.ownsRow_nil _ _ _ _,Kg.o.trans Le.o⟩):p:=h
theorem zcR (h:p:=by
 rcases h.2 with⟨h,h0⟩|⟨g,_,_,h,_⟩
 . injection h with _ h2 h3;exact⟨h0,h3⟩
 . injection h with h2 _ _;rw[e]at h2;cases h2):p:=h
theorem zcS (h:p:=by
 obtain⟨rfl,rfl,gx⟩:=hcut;go_wp2_with fail
 go_ret;rw[HR.o];exact⟨rfl,L.o.trans gx,λh=>by cases h⟩):p:=h
theorem zcT (h:p:=by
 rcases HO.o.2 with⟨h,h0⟩|⟨_,_,_,h,_⟩
 . injection h with _ _ h;exact⟨h0,h⟩
 . injection h with h;cases h):p:=h
theorem zcU (h:p:=by match i,h3 with|0,_=>exact n.cell 0|1,_=>exact n.cell 1|2,_=>exact n.cell 2):p:=h
theorem zcV (h:p:=by rw[K]at hr;injection hr with hr _;injection hr with hr _ _;subst hr;exactλk hk=>.inl hk):p:=h
theorem zcW (h:p:=by rw[HR.o];exact⟨rfl,((c.trans g7).setCell (p:=(p,0)) Kd _).setCell (p:=(p,1)) Kd _⟩):p:=h
theorem zcX (h:p:=by exact eJ (ownsRow_setCell_other (ownsRow_setCell_other ho (a:=⟨p,0,none⟩) hne _) (a:=⟨p,1,none⟩) hne _) hB):p:=h
theorem zcY (h:p:=by
 go_enter Tryz.func140,Tryz.ntmps140
 go_wp2_with fail
 go_ret2;rw[O.o];exact fF.no _ (Gr.refl _)):p:=h
theorem zcZ (h:p:=by rw[show Nat.min (n+1-i) (n-i)=n-i by simp only[Nat.min_def];split<;>omega]at this;exact this):p:=h
theorem zc6 (h:p:=by exact⟨A,cap,rfl,(Lc.o.gr hgf),kQ.same x.o,hgf⟩):p:=h
theorem zc7 (h:p:=by
 go_wp2_with fail
 go_ret;rw[HR.o];exact⟨rfl,t,λh=>by cases h⟩):p:=h
theorem zc8 (h:p:=by exact⟨h,rfl,rfl,rfl,rfl,rfl,rfl,λ_ _=>rfl,.inl ⟨by simp,rfl,rfl,rfl,rfl⟩⟩):p:=h
theorem zc9 (h:p:=by refine bodyPost_ret (ai rfl _ rfl h9 cn) rfl ?_;exact Nf.o _ _ _ _ _ _ wx w9 Kg.o k9 O.o):p:=h
theorem zda (h:p:=by
 go_enter Tryz.func234,Tryz.ntmps234
 exact zak):p:=h
theorem zdb (h:p:=by rw[hX]at a;clear hX;rw[if_pos rfl];exact zay):p:=h
theorem zdc (h:p:=by
 rcases hk with hk|hk;. exact .inl hk
 . exact .inr ⟨hk.1,om,hk.2.2⟩):p:=h
theorem zdd (h:p:=by have:=List.length_eraseIdx_le fs (fd name fs);simp only;omega):p:=h
theorem zde (h:p:=by
 go_wp2
 go_ret3
 exact⟨by rw[<-hg.o,un i n l om];rfl,rfl⟩):p:=h
theorem zdf (h:p:=by
 by_cases e:j=i;. subst e;simp[bi]
 . simp[dG _ _ e]):p:=h
theorem zdg (h:p:=by have h4:=Int.tmod_lt_of_pos (-k) hn;rw[Int.neg_tmod]at h4;omega):p:=h
theorem zdh (h:p:=by
 rcases hj with hj|hj;. exact h.hF hj
 . have:=hj.1;omega):p:=h
theorem zdi (h:p:=by
 split;. exact zaT
 . split;(. exact zaT);. exact Cx om h8):p:=h
theorem zdj (h:p:=by subst hA;exact⟨h,.inl ⟨by simp,rfl,rfl,rfl,rfl⟩⟩):p:=h
theorem zdk (h:p:=by rw[Go.length_splice _ _ _ (by rw[h4,hd,C];omega),h4,C]):p:=h
theorem zdl (h:p:=by simp only[bi];exact uI (h.fc i hi) _ _ _ _ _ _ _ _ _ _):p:=h
theorem zdm (h:p:=by exact(G1.trans Ks).grown h2 (λk hk=>(Lj.lt k hk).1)):p:=h
theorem zdn (h:p:=by
 go_enter Tryz.func153,Tryz.ntmps153
 exact zak):p:=h
theorem zdo (h:p:=by
 go_enter Tryz.func156,Tryz.ntmps156
 exact zak):p:=h
theorem zfb (h:p:=by rw[X.o];unfold mm;rw[<-K.o,n.o];simp[Kh]):p:=h
theorem zht (h:p:=by rw[Ko.o,if_pos om]):p:=h
theorem zdp (h:p:=by
 cases b1;. skip;have O:ab (Kb=2):=aa zfb;clear K n X;(go_wp2_with(go_at_call 107;(with_reducible refine Bo (Kw.o _) ?_);rintro e w1 ⟨rfl,I⟩;obtain⟨d0,d1,d2,d3,d4,d5,d6,d7,d8⟩:=f.o w1 (C.trans I)));go_ret;exact⟨by rw[O.o];rfl,t.trans (C.trans I)⟩
 cases b2;. skip;have O:ab (Kb=2):=aa zfb;clear K n X;exact zae
 have Ko:ab (Kb=if ti<0\/1099511627776<=ti then 3 else 0):=aa zfb;clear K n X;by_cases t1:ti<0;. have O:ab (Kb=3):=aa zht;clear Ko;exact zae
 by_cases t2:1099511627776<=ti;. have O:ab (Kb=3):=aa zht;clear Ko;exact zae
 have O:ab (Kb=0):=aa (by rw[Ko.o,if_neg om]);clear Ko;exact zae):p:=h
theorem zdq (h:p:=by
 clear Lc;go_wp2_with(first|(go_at_call 76;refine(eS g0 _ _ v).mono ?_;rintro e wd ⟨rfl,rfl⟩;dsimp only)|(go_at_call 72;first|(refine(aW g0 (s,0) _ v).mono ?_;rintro e J ⟨rfl,g,j⟩;rw[<-Ka.o]at g;rw[<-U.o];have I:=bG F j Q;have C:=aB N v.blk dc0 j;clear v)|(refine(aW g0 (t1,f1) _ g).mono ?_;rintro e wb ⟨rfl,c,G⟩;rw[<-Kr.o]at c;rw[<-Kd.o];have i:=bG I G Q;have f:=aB C g.blk dc0 G;clear g))|(go_at_call 74;first|(refine(dD g0 _ _ c).mono ?_;rintro e wd ⟨rfl,rfl⟩;dsimp only)|(refine(dD g0 _ _ D).mono ?_;rintro e wd ⟨rfl,rfl⟩;dsimp only))|(at_builtin;refine bg E.u8 Tryz.underlying9 rfl (.tmp 73) (.tmp 79) rfl rfl f rfl zfD i.size ?_;intro A2 r wc W B;have D:=c.other B (λe=>bD f c.blk dc0 e.symm);have O:=i.grown B (λk hk=>(f.lt k hk).1);clear c))
 go_ret2;exact⟨by rw[Eq.o,L.o];rfl,O⟩):p:=h
theorem zdr (h:p:=by
 clear h8 HR;go_wp2_with(first|(go_at_call 64;(with_reducible refine Bo (Lt.o _ _ _ _ zey dz) ?_);rintro e w6 ⟨rfl,d6,D,-⟩;have g6:Gr J w6:=Below.trans C (Below.mono D a);obtain⟨Nj,Nk,Nl,Nm,Nn,No,Np,Nq,Nr⟩:=f.o w6 g6)|(go_at_call 63;(with_reducible refine Bo (Mn.o _ _ _ _ zey d6) ?_);rintro e w7 ⟨rfl,d7,Lq,-⟩;have g7:Gr J w7:=Below.trans g6 (Below.mono Lq a);obtain⟨Ns,Nt,Nu,Nv,Nw,Nx,Ny,Nz,Oa⟩:=f.o w7 g7)|(go_at_call 64;(with_reducible refine Bo (Lv.o _ _ _ _ zey d7) ?_);rintro e w8 ⟨rfl,d8,Mu,-⟩;have g8:Gr J w8:=Below.trans g7 (Below.mono Mu a))|(go_at_call 66;(with_reducible refine Bo (M.o S _ _ _ _ d8 Kl.o) ?_);rintro e G ⟨rfl,Q⟩))
 go_ret2;exact⟨by rw[Ke.o];rfl,t.trans (g8.trans Q)⟩):p:=h
theorem zds (h:p:=by
 have qq:(((q).2:Int)!=0)=true:=zc3
 have qe:¬((q).2:Int)=0:=om;have O:ab (Kb=(cg,2)):=aa zfl;clear hq f;go_upto_region 33 with(go_at_call 74;(with_reducible refine Bo (s.o _ _ HD.o) ?_);rintro e wb ⟨rfl,rfl⟩)
 go_wp2_with(refine ah rfl 97 (.tmp 2) _ rfl (g:=p) (cs':=bh cg none 0 none 0) rfl rfl (HZ.o.gr HM.o.gr) aK rfl (bx _ _ _ _ _) ?_;intro w9 h9 Q)
 refine bodyPost_ret (ai rfl _ rfl h9 aK) rfl ?_;rw[O.o];exact⟨none,0,none,0,rfl,eC.z _,Gr.only (t.trans HM.o.gr) Q Kd⟩):p:=h
theorem zdt (h:p:=by
 clear hlb;refine aU 3 zc0 dc0 zc0 (λwd hwd=>?_);simp only[List.take_succ_cons,List.take_zero,List.drop_succ_cons,List.drop_zero];have gd:Gr wx wd:=zeS
 clear hwd;have S:=(F.o wd gd).1
 go_wp2_with(go_at_call 85;refine(HN.o _).mono ?_;rintro e w1 ⟨rfl,I⟩;have l:Gr wx w1:=gd.trans I)
 obtain⟨Kr,Kt,Kv,-⟩:=Ll.o w1 l;exact zcn):p:=h
theorem zdu (h:p:=by
 go_enter Tryz.func177,Tryz.ntmps177
 go_wp2_with(first|(go_at_call 74;(with_reducible refine Bo (a.o _ _ d2) ?_);rintro e G ⟨rfl,rfl⟩;dsimp only)|(go_at_call 72;(with_reducible refine Bo f.o ?_);rintro e w1 ⟨rfl,d1,I⟩)|(go_at_call 72;(with_reducible refine Bo (Y.o _ d1) ?_);rintro e w2 ⟨rfl,d2,Z⟩;have G2:=aM I Z)|(go_at_call 74;(with_reducible refine Bo (a.o _ _ d1) ?_);rintro e G ⟨rfl,rfl⟩;dsimp only))
 go_ret3
 rw[O.o];exact⟨rfl,d2,G2⟩):p:=h
theorem zdv (h:p:=by rw[Nat.zero_add];have hb:=ag.new w.drew e ((xs++vs).toArray++Builtin.zeroCells z.cells (grownCap w (n+m) cap e-(n+m)));rw[show w.heap.size=w.drew.heap.size from rfl,hb.cell,hb.frozen];refine⟨?_,rfl⟩;rw[Array.getElem?_eq_getElem (by simp only[Array.size_append,List.size_toArray,List.length_append,size_zeroCells,E.zcells];omega)];rfl):p:=h
theorem zdw (h:p:=by
 rw[<-L]at Mf Mg A⊢;clear L f3 n3 y7 y2;go_wp2_with(first|(refine ah rfl 33 (.tmp 4) (.tmp 136) rfl (g:=p) (cs':=a8 0 0 []) rfl rfl A.o aJ rfl (bu _ _ _) ?_;intro w9 h9 Q))
 refine bodyPost_ret (aA rfl _ rfl h9 aJ) rfl ?_;exact Ll.o G w9 0 _ Mf.o Mg.o Q O.o):p:=h
theorem zdx (h:p:=by
 have g:=aa (c.o hb);clear Il c Kq hb;go_wp2_with(refine Bo (HC.o _) ?_;rintro e w1 ⟨rfl,I⟩)
 go_roundw
 case rel=>exact⟨i,h,rfl,by go_num,om,om,f,g,hg.trans I⟩
 case measure=>simp[intOf];omega):p:=h
theorem zdy (h:p:=by
 go_wp2_with fail
 go_meet
 exact⟨by rw[HC.o],aa rfl⟩):p:=h
theorem zdz (h:p:=by
 go_wp2_with fail
 go_roundg (gk-1)
 case rel=>exact⟨i+1,mw,by go_num,om,by have:=U.o.2;omega,Ku,hg⟩
 case measure=>have:=U.o.2;omega):p:=h
theorem zdA (h:p:=by
 go_wp2_with(first|(refine ah rfl 33 (.tmp 6) (.tmp 29) rfl (g:=p) (cs':=a8 oe 0 []) rfl rfl (La.o.gr gb) aJ rfl (bu _ _ _) ?_;intro w9 h9 Q))
 refine bodyPost_ret (aA rfl _ rfl h9 aJ) rfl ?_;exact Ll.o _ w9 _ gb Q O.o):p:=h
theorem zdB (h:p:=by obtain⟨Lt,Q,d,g⟩:=T3.o;refine bodyPost_ret (ai rfl _ rfl Lt cz) rfl ?_;rw[HR.o];exact⟨A8,n8,Eq,rfl,Q,d,g⟩):p:=h
theorem zf8 (h:p:=by rw[mf,<-gY,hents]):p:=h
theorem zdC (h:p:=by
 have b:((en.length:Int)==0)=false:=zf8
 have O:ab (Kb=false):=aa (by rw[HV.o];simp[cN,hdata,hents]);exact zac):p:=h
theorem zdD (h:p:=by
 clear o7 y hN;go_wp2_with fail
 go_meet
 first|exact hM|(rw[F];exact hM)):p:=h
theorem zdE (h:p:=by rw[hR];simp only[Array.toList_append,List.append_assoc];rw[List.take_append_of_le_length (by rw[List.length_take,I];omega),List.take_take,Nat.min_self]):p:=h
theorem zdF (h:p:=by exact(I.mod).trans ((((((ay g _ _ _).trans (ay g _ _ _)).trans (ay g _ _ _)).trans (ay g _ _ _)).trans (ay g _ _ _)).trans (ay g _ _ _))):p:=h
theorem zdG (h:p:=by refine bodyPost_ret (ai rfl _ rfl (HW.o w1 I) cz) rfl ?_;exact⟨A,n,cap,rfl,HV.o w1 I,HA.o,.inl ⟨rfl,rfl,rfl,rfl⟩⟩):p:=h
theorem zdH (h:p:=by rw[A];exact⟨rfl,rfl,rfl,by simp[World.setRow],λk hk hne=>by rw[setRow_other _ g k _ (λe=>hne (by rw[e]))];rfl⟩):p:=h
theorem zdI (h:p:=by
 rcases N.2 with⟨h,h0⟩|⟨_,_,_,h,_,_,h1,_⟩
 . omega
 . injection h with _ _ h;omega):p:=h
theorem zgx (h:p:=by have:=(Array.getElem?_eq_some_iff.1 n.o).1;exact this):p:=h
theorem zdJ (h:p:=by rw[I.below.block w.heap.size zgx,n.o,Le.o]):p:=h
theorem zdK (h:p:=by
 go_enter Tryz.func171,Tryz.ntmps171
 exact zak):p:=h
theorem zdL (h:p:=by rw[I.below.block w.heap.size zgx,n.o]):p:=h
theorem zdM (h:p:=by rw[hX]at a;clear hX;rw[if_neg dc0];exact zay):p:=h
theorem zdN (h:p:=by rw[<-HK.o,List.getD_eq_getElem?_getD,i];rfl):p:=h
theorem zdO (h:p:=by
 go_wp2_with fail
 go_ret;exact⟨false,HQ.o,rfl,HM.o.2.2.1⟩):p:=h
theorem zdP (h:p:=by have O:ab (jY R=false):=aa (by simp[jY];omega);exact zcO):p:=h
theorem zdQ (h:p:=by go_ret;exact⟨rfl,by rw[HE.o];exact HB.o,Ku.o⟩):p:=h
theorem zdR (h:p:=by simp only[bi];exact uh (h.fw i hi) _ _ _ _ _ _ _):p:=h
theorem zdS (h:p:=by
 refine aU 3 zc0 dc0 zc0 (λwd hwd=>?_);simp only[List.take_succ_cons,List.take_zero,List.drop_succ_cons,List.drop_zero];have gd:Gr wx wd:=zeS
 clear hwd;have S:=(F.o wd gd).1
 go_wp2_with(go_at_call 105;(with_reducible refine Bo (Lh.o _) ?_);rintro e w1 ⟨rfl,I⟩;have l:Gr wx w1:=gd.trans I)
 obtain⟨Kr,Kt,Kv,-⟩:=F.o w1 l;exact zcn):p:=h
theorem zdT (h:p:=by
 clear h8 HR;go_wp2_with(first|(go_at_call 63;(with_reducible refine Bo (Kv.o _ _ _ _ zey d1) ?_);rintro e w3 ⟨rfl,d3,m,-⟩;have g3:Gr J w3:=Below.trans Z (Below.mono m a);obtain⟨N,T,U,Y,Eq,Ka,Kf,Kk,Km⟩:=f.o w3 g3)|(go_at_call 64;(with_reducible refine Bo (Mm.o _ _ _ _ zey d3) ?_);rintro e w4 ⟨rfl,d4,s,-⟩;have g4:Gr J w4:=Below.trans g3 (Below.mono s a))|(go_at_call 66;(with_reducible refine Bo (M.o S _ _ _ _ d4 Kl.o) ?_);rintro e G ⟨rfl,Q⟩))
 go_ret2;exact⟨by rw[Ke.o];rfl,t.trans (g4.trans Q)⟩):p:=h
theorem zdU (h:p:=by rw[Nat.zero_add];have hb:=ag.new w.drew e ((xs++vs).toArray++Builtin.zeroCells z.cells (grownCap w (n+m) cap e-(n+m)));rw[show w.heap.size=w.drew.heap.size from rfl,hb.cell,Array.getElem?_append_left (by have:=(List.getElem?_eq_some_iff.1 hv).1;simpa using this)];simpa using hv):p:=h
theorem zdV (h:p:=by
 go_wp2_with(refine ah rfl 97 (.tmp 2) _ rfl (g:=p) (cs':=bh cg none 0 none 0) rfl rfl (HZ.o.gr M4.o.gr) aK rfl (bx _ _ _ _ _) ?_;intro w9 h9 Q)
 refine bodyPost_ret (ai rfl _ rfl h9 aK) rfl ?_;rw[O.o];exact⟨none,0,none,0,rfl,eC.z _,Gr.only (t.trans M4.o.gr) Q Kd⟩):p:=h
theorem zdW (h:p:=by
 go_enter Tryz.func177,Tryz.ntmps177
 go_wp2_with(first|(go_at_call 72;(with_reducible refine Bo f.o ?_);rintro e w1 ⟨rfl,d1,I⟩)|(go_at_call 74;(with_reducible refine Bo (a.o _ _ d1) ?_);rintro e G ⟨rfl,rfl⟩;dsimp only))
 go_ret3
 rw[O.o];exact⟨rfl,d1,I⟩):p:=h
theorem zdX (h:p:=by
 go_region
 all_goals(go_wp2_with fail);(go_meet);exact⟨rfl,aa ((Gr.refl w2).drew)⟩):p:=h
theorem zdY (h:p:=by
 go_wp2_with fail
 go_ret;exact⟨by rw[Kf.o];rfl,t.trans hg⟩):p:=h
theorem zdZ (h:p:=by obtain⟨Lt,Q,d,g⟩:=y.o.done HP.o;refine bodyPost_ret (ai rfl _ rfl Lt cz) rfl ?_;rw[HR.o];exact⟨A6,n6,q,rfl,Q,d,g⟩):p:=h
theorem zd0 (h:p:=by rw[Array.length_toList,Array.size_append,Array.size_append,size_zeroCells,size_zeroCells,X,List.size_toArray,List.length_take,I,Nat.min_eq_left om];omega):p:=h
theorem zd1 (h:p:=by
 go_wp2_with fail
 go_meet
 exact⟨by rw[O.o],C⟩):p:=h
theorem zd2 (h:p:=by
 clear hlt p hj;go_wp2_with fail
 go_ret2;exact⟨by rw[HL.o,HE.o];rfl,hg⟩):p:=h
theorem zd3 (h:p:=by rw[this,M,f,gq,show i+(n-(i+1))=n-1 by omega];simp only[List.append_assoc]):p:=h
theorem zd4 (h:p:=by have e:(i:Int)-3=(j:Int):=om;rw[e];exact IntWalk.i64_in _ om):p:=h
theorem zd5 (h:p:=by
 unfold aw;split;. simp
 . split;(. rw[iJ];omega);. simp):p:=h
theorem zd6 (h:p:=by have HC:=aa hc;clear hd ho Lx hc Eq;exact zdy):p:=h
theorem zd7 (h:p:=by
 clear hlb;refine aU 3 zc0 dc0 zc0 (λwd hwd=>?_);simp only[List.take_succ_cons,List.take_zero,List.drop_succ_cons,List.drop_zero];have gd:Gr wx wd:=zeS
 clear hwd;have S:=(F.o wd gd).1
 go_wp2_with(go_at_call 105;(with_reducible refine Bo (Lh.o _) ?_);rintro e w1 ⟨rfl,I⟩;have l:Gr wx w1:=gd.trans I)
 obtain⟨Kr,Kt,Kv,Lu,-⟩:=Ll.o w1 l;exact zcn):p:=h
theorem zd8 (h:p:=by
 go_wp2_with(refine ah rfl 97 (.tmp 2) _ rfl (g:=p) (cs':=bh cg none 0 none 0) rfl rfl (HZ.o.gr M6.o.gr) aK rfl (bx _ _ _ _ _) ?_;intro w9 h9 Q)
 refine bodyPost_ret (ai rfl _ rfl h9 aK) rfl ?_;rw[O.o];exact⟨none,0,none,0,rfl,eC.z _,Gr.only (t.trans M6.o.gr) Q Kd⟩):p:=h
theorem zd9 (h:p:=by
 rw[M];refine run_firstCells_some w.drew 1 n (g,off) n cap xs (by rw[Kk,Nat.mul_one]) (λj u hu=>?_);have:((g,off):Addr).add j=⟨g,off+j,none⟩:=ze0
 rw[this];exact y j u hu):p:=h
theorem zea (h:p:=by
 clear h8 HR;go_wp2_with(first|(go_at_call 66;(with_reducible refine Bo (M.o S _ _ _ _ dz Kl.o) ?_);rintro e G ⟨rfl,Q⟩))
 go_ret2;exact⟨by rw[Ke.o];rfl,t.trans (C.trans Q)⟩):p:=h
theorem zeb (h:p:=by refine bodyPost_ret (aA rfl _ rfl h9 aJ) rfl ?_;exact Lw.o w3 w9 R t Q O.o):p:=h
theorem zec (h:p:=by rw[A];exact⟨S.os,S.tape,S.output,by simpa[World.setRow]using S.size,λk hk hne=>by rw[setRow_other _ Z k _ om];exact S.block k hk hne⟩):p:=h
theorem zed (h:p:=by
 go_wp2_with fail
 go_ret;exact⟨by rw[Eq.o];rfl,t.trans hg⟩):p:=h
theorem zee (h:p:=by
 go_wp2_with fail
 go_meet
 exact⟨k,rfl,hk,Kx,C⟩):p:=h
theorem zef (h:p:=by
 have:=(List.getElem?_eq_some_iff.1 hu).1
 rw[y]at this;omega):p:=h
theorem zeg (h:p:=by
 have O:ab (Kb=1):=aa (by rw[Eq.o];unfold qZ;rw[if_pos zeD]);clear Ku Kg;go_wp2_with fail
 go_ret;exact⟨by rw[O.o];rfl,t.trans I⟩):p:=h
theorem zeh (h:p:=by
 by_cases hc:0<cap;. exact nL g (H hc).1 _ _ _
 . have hv:vs=[]:=List.eq_nil_of_length_eq_zero om;subst hv;exact Below.refl _ _):p:=h
theorem zei (h:p:=by
 clear X;go_wp2_with(first|(refine ah rfl 33 (.tmp 4) (.tmp 102) rfl (g:=p) (cs':=a8 3 0 []) rfl rfl Kh.o aJ rfl (bu _ _ _) ?_;intro w9 h9 Q))
 exact zaC):p:=h
theorem zej (h:p:=by rw[show Nat.min (n-i) (n-i)=n-i by simp only[Nat.min_def];split<;>omega]at this;exact this):p:=h
theorem zek (h:p:=by
 go_wp2_with fail
 go_ret;exact⟨by rw[X.o];rfl,t.trans gc⟩):p:=h
theorem zel (h:p:=by rw[l,List.getElem?_drop,List.getElem?_take]at hj;exact zcL):p:=h
theorem zem (h:p:=by exact⟨none,0,none,0,rfl,l.1,Gr.only (t.trans S) Q Kd⟩):p:=h
theorem zen (h:p:=by
 have O:ab (Kb=2):=aa zfb;clear K n X;go_wp2_with fail
 go_ret;exact⟨by rw[O.o];rfl,t.trans C⟩):p:=h
theorem zeo (h:p:=by
 clear D;go_wp2_with(first|(refine ah rfl 33 (.tmp 4) (.tmp 86) rfl (g:=p) (cs':=a8 3 0 []) rfl rfl Kh.o aJ rfl (bu _ _ _) ?_;intro w9 h9 Q))
 exact zaC):p:=h
theorem zep (h:p:=by refine⟨World.isSome_setCells g vs (off+n) w _ (N j hj).1,?_⟩;rw[World.frozen?_setCells];exact(N j hj).2):p:=h
theorem zeq (h:p:=by
 go_wp2_with fail
 go_ret;exact⟨G,R,rfl,V,K,Lh.o,Eq.o,HB.o,Ku.o⟩):p:=h
theorem zer (h:p:=by
 clear Ke;go_wp2_with(first|(refine ah rfl 33 (.tmp 4) (.tmp 33) rfl (g:=p) (cs':=a8 3 0 []) rfl rfl Kh.o aJ rfl (bu _ _ _) ?_;intro w9 h9 Q))
 exact zaC):p:=h
theorem zes (h:p:=by
 have O:ab (Kb=6):=aa (by rw[Kf.o,if_pos om]);clear Ku Kg;go_wp2_with fail
 go_ret;exact⟨by rw[O.o];rfl,t.trans I⟩):p:=h
theorem zet (h:p:=by rw[this,Kj,<-hG,hR,Kj,Array.toArray_toList]):p:=h
theorem zeu (h:p:=by have O:ab (Kb=3):=aa zht;clear Ko;exact zae):p:=h
theorem zev (h:p:=by
 obtain⟨m,_,hm⟩:=List.mem_flatMap.1 hu
 exact lm m u hm):p:=h
theorem zew (h:p:=by
 clear Lb;go_wp2_with fail
 go_ret;exact⟨by rw[O.o];rfl,t⟩):p:=h
theorem zex (h:p:=by go_ret;exact⟨by rw[O.o];rfl,t.trans (C.trans I)⟩):p:=h
theorem zc2 (h:p:=by rw[beq_eq_false_iff_ne];omega):p:=h
theorem zc5 (h:p:=by rw[H];exact(Gr.refl w).alloc _):p:=h
theorem zeA (h:p:=by rw[List.length_take];omega):p:=h
theorem zeB (h:p:=by first|with_reducible assumption):p:=h
theorem zeE (h:p:=by first|with_reducible assumption|exact L.alloc _):p:=h
theorem zeF (h:p:=by have h1:=R.o.gl;have h2:=Kl.o;have h3:=iu q;have h4:=iu qb;have h5:=fU qa;have h6:=mQ q;have h7:=R.o.len;have h8:=ly q1;have h9:=Lv.o;rw[<-Kr]at h3;rw[<-Ky]at h4;rw[<-Kv]at h5;rw[<-Ku]at h6;rw[<-h9]at h8;exact⟨by simp,by simp,by simp,by simp only;omega,by simp only;omega,λx hx=>by have:=R.o.each x hx;omega,by simp only;omega,by simp only;omega,by simp⟩):p:=h
theorem zeG (h:p:=by first|with_reducible assumption|exact GE):p:=h
theorem zeH (h:p:=by rw[H];exact((Gr.refl w).alloc _).alloc _):p:=h
theorem zeI (h:p:=by rintro k hk;cases hk):p:=h
theorem zeJ (h:p:=by show wr.heap.size<=p;have:=Kt.o;omega):p:=h
theorem zeM (h:p:=by rw[H];exact ag.new w _ _):p:=h
theorem zeN (h:p:=by rw[HL.o,List.append_assoc];rfl):p:=h
theorem zeO (h:p:=by rw[hx,show Nat.min 1 (n+1-i)=1 by simp only[Nat.min_def];split<;>omega]):p:=h
theorem zeP (h:p:=by have:=aO.len O.o;have:=HZ.o.1;omega):p:=h
theorem zeQ (h:p:=by rw[List.length_drop];omega):p:=h
theorem zeR (h:p:=by rw[show(ti==0)=decide (ti=0)from rfl,htime]):p:=h
theorem zeT (h:p:=by have h1:=R.o.fl;have h2:=Kl.o;exact⟨by simp[jS],by simp only[jS];omega,λx hx=>by have:=R.o.each x hx;omega,by simp[jS],by simp[jS],by simp[jS],by simp[jS],by simp[jS],by simp[jS]⟩):p:=h
theorem zeU (h:p:=by first|omega|(simp;omega)):p:=h
theorem zeV (h:p:=by have:=HI.o;omega):p:=h
theorem zeX (h:p:=by simpa using he):p:=h
theorem zeY (h:p:=by have:=HK.o;omega):p:=h
theorem zeZ (h:p:=by simp[Act.eval,Act.put]):p:=h
theorem ze3 (h:p:=by rw[H,V];exact ag.new w _ _):p:=h
theorem ze4 (h:p:=by intro h;cases h):p:=h
theorem ze5 (h:p:=by assumption):p:=h
theorem ze7 (h:p:=by have:=Kl.o;omega):p:=h
theorem ze8 (h:p:=by show p+1≠p;omega):p:=h
theorem ze9 (h:p:=by rw[<-HN.o];exact hlt):p:=h
theorem zfa (h:p:=by rw[H];exact(ag.new w _ _).alloc _):p:=h
theorem zfc (h:p:=by simpa using h):p:=h
theorem zfd (h:p:=by rw[Kx.o];exact Dg _):p:=h
theorem zfe (h:p:=by rw[Kz.o,if_neg om]):p:=h
theorem zff (h:p:=by rw[beq_iff_eq];omega):p:=h
theorem zfg (h:p:=by show w.heap.size<=w2.heap.size;omega):p:=h
theorem zfh (h:p:=by simpa using hi):p:=h
theorem zfi (h:p:=by rw[bne_iff_ne];exact Kr):p:=h
theorem zfj (h:p:=by rw[List.length_drop,hl]):p:=h
theorem zfm (h:p:=by rw[List.length_map];omega):p:=h
theorem zfn (h:p:=by rw[H];exact ag.new1 w _ _ _):p:=h
theorem zfo (h:p:=by first|exact HM.o.rd (Gr.refl _) HD.o dc0 dc0 U j I|exact HM.o.rd (Gr.refl _).drew HD.o dc0 dc0 U j I):p:=h
theorem zfq (h:p:=by rw[e];rfl):p:=h
theorem zfr (h:p:=by rw[<-U.o];exact Ko):p:=h
theorem zfs (h:p:=by rw[Array.toArray_toList];exact hg):p:=h
theorem zft (h:p:=by rw[hL.eq];exact List.mem_map.2 ⟨x,hx,rfl⟩):p:=h
theorem zfu (h:p:=by rw[N.o];unfold ea;rw[hd];simp):p:=h
theorem zfv (h:p:=by show p+1≠w2.heap.size;omega):p:=h
theorem zfw (h:p:=by rw[r,show Nat.min (n+1-i) (n-i)=n-i by simp only[Nat.min_def];split<;>omega,Nat.sub_mul]):p:=h
theorem zfy (h:p:=by rw[X.o];unfold mm;rw[<-K.o,n.o];simp[k3,k4]):p:=h
theorem zfz (h:p:=by cases tr<;>simp_all):p:=h
theorem zfA (h:p:=by cases ta<;>simp_all):p:=h
theorem zfC (h:p:=by rw[r,show Nat.min (n-i) (n-i)=n-i by simp only[Nat.min_def];split<;>omega,Nat.sub_mul]):p:=h
theorem zfE (h:p:=by show p≠w2.heap.size;omega):p:=h
theorem zfF (h:p:=by first|with_reducible assumption|exact gd):p:=h
theorem zfG (h:p:=by rw[H,V];exact ag.new1 w _ _ _):p:=h
theorem zfI (h:p:=by rw[mf,<-gY,hpars]):p:=h
theorem zfJ (h:p:=by rw[Int.toNat_natCast,List.getD_eq_getElem?_getD,List.getElem?_eq_getElem Kg];rfl):p:=h
theorem zfK (h:p:=by rw[List.take_succ_eq_append_getElem hlt,List.map_append,List.map_append];rfl):p:=h
theorem zfL (h:p:=by rw[a,G.o];simp only[hx];rfl):p:=h
theorem zfM (h:p:=by simpa using hq):p:=h
theorem zfN (h:p:=by rw[s];exact⟨rfl,rfl,rfl,by simp,λk hk _=>Below.heap_alloc w.drew _ k hk⟩):p:=h
theorem zfO (h:p:=by have:=Ll.o;omega):p:=h
theorem zfQ (h:p:=by rw[<-Ka.o,<-Ke];exact h):p:=h
theorem zfR (h:p:=by rw[T];omega):p:=h
theorem zfS (h:p:=by simp only[List.length_append,nf,List.length_cons,List.length_nil];omega):p:=h
theorem zfT (h:p:=by simpa using hb):p:=h
theorem zfU (h:p:=by have:=gL (F:=iN dst name) (wN dst name Kw.o) u2 Z3.o;rwa [<-Mb]at this):p:=h
theorem zfV (h:p:=by rw[hl,List.length_map,hN]):p:=h
theorem zfW (h:p:=by rw[br];decide):p:=h
theorem zfX (h:p:=by simpa using h1):p:=h
theorem ziQ (h:p:=by have h1:=Lj.o;have h2:=Mo.o;omega):p:=h
theorem zfY (h:p:=by rw[N.o];exact decide_eq_false ziQ):p:=h
theorem zfZ (h:p:=by rw[mF];exact o7):p:=h
theorem zf0 (h:p:=by rw[Kx.o];exact hlt):p:=h
theorem zf1 (h:p:=by unfold cj;rw[y.o,if_pos rfl,if_neg Kf,<-G.o,if_pos rfl];simp[c.o]):p:=h
theorem zf2 (h:p:=by rw[bne_iff_ne];exact h1):p:=h
theorem zf3 (h:p:=by rw[bne_iff_ne];exact Kh):p:=h
theorem zf4 (h:p:=by rw[List.length_map,List.length_take];exact Nat.min_le_left _ _):p:=h
theorem zf5 (h:p:=by simpa using ho):p:=h
theorem zf6 (h:p:=by rw[<-Ka.o,<-U.o,<-La];exact h2):p:=h
theorem zf9 (h:p:=by rw[<-HN.o];exact Dg _):p:=h
theorem zga (h:p:=by rw[hf];rfl):p:=h
theorem zgb (h:p:=by rw[List.length_drop,I]):p:=h
theorem zgc (h:p:=by rw[HV.o];unfold ie;unfold fp;rw[Kt.o];simp only[Li,if_false]):p:=h
theorem zgd (h:p:=by rw[HV.o];simp[cN,hents,htree,hpars,htime,htarget,hwho,hnote]):p:=h
theorem zge (h:p:=by rw[HV.o];simp[cN,hdata,htree,hpars,htime,htarget,hwho,hnote]):p:=h
theorem zgf (h:p:=by have h1:=(HG.o.trans (Lp.o _ Ky.o)).size;have h2:=Nb.o;omega):p:=h
theorem zgg (h:p:=by rw[Kn,Mc];exact ag.new w1 _ _):p:=h
theorem zgh (h:p:=by have:=F.o;omega):p:=h
theorem zgi (h:p:=by rw[Eq.o,if_pos rfl]):p:=h
theorem zgj (h:p:=by rw[beq_eq_false_iff_ne];exact k3):p:=h
theorem zgk (h:p:=by rw[beq_eq_false_iff_ne];exact k4):p:=h
theorem zgm (h:p:=by rw[N.o];unfold ea;rw[hnb,Z,decide_eq_true ⟨Lq,Lz⟩];rfl):p:=h
theorem zgn (h:p:=by simpa using hl):p:=h
theorem zgo (h:p:=by rw[H];exact((((Gr.refl w).alloc _).alloc _).alloc _).alloc _):p:=h
theorem zgp (h:p:=by have:=eT (F:=iN dst name) (fs:=m) U3.o;rwa [<-Mb]at this):p:=h
theorem zgr (h:p:=by rw[HR.o,if_pos h8]):p:=h
theorem zgs (h:p:=by rw[HR.o,if_neg h8]):p:=h
theorem zgt (h:p:=by have:=(List.getElem?_eq_some_iff.1 hu).1;simp at this;omega):p:=h
theorem zgu (h:p:=by have:=Kl.o;unfold maxLen;omega):p:=h
theorem zgv (h:p:=by unfold cj;rw[y.o,if_pos rfl,if_neg Kf,<-G.o,if_neg hE]):p:=h
theorem zgy (h:p:=by have:=gL (F:=jr dst) (yj dst) Y T.o;rwa [<-K]at this):p:=h
theorem zgz (h:p:=by intro k hk;injection hk with hk;subst hk;exact Km.o):p:=h
theorem zgA (h:p:=by simpa using h0):p:=h
theorem zgB (h:p:=by cases wh<;>simp_all):p:=h
theorem zgC (h:p:=by cases no<;>simp_all):p:=h
theorem zgE (h:p:=by have:=iu (s2,0);rw[<-hT]at this;simp only at this;omega):p:=h
theorem zgF (h:p:=by rw[HV.o,if_neg (by simp)]):p:=h
theorem zgG (h:p:=by have:=HP.o;omega):p:=h
theorem zgH (h:p:=by have:=eT (F:=jr dst) (fs:=b) U2.o;rwa [<-K]at this):p:=h
theorem zgI (h:p:=by rw[H];exact(((ag.new w _ _).alloc _).alloc _).alloc _):p:=h
theorem zgJ (h:p:=by rw[HV.o];unfold ie;rw[Ku.o];simp only[R,if_false]):p:=h
theorem zgK (h:p:=by have:=h'.1;simpa using this):p:=h
theorem zgL (h:p:=by first|exact g4|exact Gr.trans (Gr.refl _).drew g4):p:=h
theorem zgM (h:p:=by have:=Kv.o;omega):p:=h
theorem zgN (h:p:=by intro w;rfl):p:=h
theorem zgO (h:p:=by rw[hd,Kd];omega):p:=h
theorem zgP (h:p:=by rw[f,Go.length_splice _ _ _ (by rw[y,hs];omega),hs]):p:=h
theorem zgQ (h:p:=by rw[f,Go.length_splice _ _ _ (by rw[r,hs];omega),hs]):p:=h
theorem zgR (h:p:=by injection e):p:=h
theorem zgS (h:p:=by rw[HV.o];simp[cN,hdata,hents,htree,hpars,htime]):p:=h
theorem zgT (h:p:=by have:=h.1;simpa using this):p:=h
theorem zgU (h:p:=by intro v hv;simp[Value.cells]at hv;subst hv;rfl):p:=h
theorem zgV (h:p:=by rw[f,Go.length_splice _ _ _ (by rw[hx,C];omega),C]):p:=h
theorem zgW (h:p:=by rw[<-hx,<-hy];exact Kr):p:=h
theorem zgX (h:p:=by rw[<-List.flatMap_append,List.take_append_drop]):p:=h
theorem zgY (h:p:=by rw[iD om om];exact eE om):p:=h
theorem zgZ (h:p:=by rw[H];exact((ag.new1 w _ _ _).alloc _).alloc _):p:=h
theorem zg0 (h:p:=by rw[Kn];exact I.alloc _):p:=h
theorem zg1 (h:p:=by rw[IntKind.wrap_i64];unfold maxLen at q;omega):p:=h
theorem zg2 (h:p:=by rw[beq_iff_eq];exact ho):p:=h
theorem zg3 (h:p:=by rw[bne_iff_ne];exact My):p:=h
theorem zg4 (h:p:=by rw[List.length_append,List.length_cons];omega):p:=h
theorem zg6 (h:p:=by rw[<-Kn.o];exact G.o):p:=h
theorem zg8 (h:p:=by have:=HM.o;rwa [List.take_length]at this):p:=h
theorem zg9 (h:p:=by simp[ap];omega):p:=h
theorem zha (h:p:=by rw[l]at hv;exact List.mem_of_mem_drop hv):p:=h
theorem zhb (h:p:=by unfold fR;rw[Mp.o,if_pos rfl,<-j.o,R1.o]):p:=h
theorem zhc (h:p:=by unfold fp;rw[Kt.o,if_pos rfl,<-j.o,R2.o]):p:=h
theorem zhd (h:p:=by unfold ie;rw[Ku.o,if_pos rfl,<-j.o,R3.o]):p:=h
theorem zhe (h:p:=by simp[bB];omega):p:=h
theorem zhf (h:p:=by rw[hl,List.length_map]):p:=h
theorem zhg (h:p:=by unfold dm maxLen;rw[List.length_take];omega):p:=h
theorem zhj (h:p:=by rw[<-Nat.pow_add,show n+(32-n)=32 by omega]):p:=h
theorem zhk (h:p:=by rw[Kd];omega):p:=h
theorem zhl (h:p:=by have:=ak.lit hv;simp[hx]at this;exact this):p:=h
theorem zhm (h:p:=by rw[Lc.o,hlb]):p:=h
theorem zhn (h:p:=by show w1.heap.size≠w2.heap.size;omega):p:=h
theorem zho (h:p:=by have:=Km.o;rw[HB.o]at this;exact this):p:=h
theorem zhp (h:p:=by unfold aY;rw[hgf,hnb1,<-j.o,hnb2];rfl):p:=h
theorem zhq (h:p:=by rw[List.take_of_length_le om]at F;exact F):p:=h
theorem zhr (h:p:=by rw[HV.o];simp[cN,hdata,hents,htarget]):p:=h
theorem zhs (h:p:=by decide+kernel):p:=h
theorem zhu (h:p:=by simpa using Lv):p:=h
theorem zhv (h:p:=by simpa using h2):p:=h
theorem zhw (h:p:=by rw[Kf.o,if_pos R]):p:=h
theorem zhx (h:p:=by unfold World.shape?;rw[hv];simp[hx]):p:=h
theorem zhy (h:p:=by unfold World.shape?;rw[hg];simp[hs]):p:=h
theorem zhz (h:p:=by rw[hFi];rfl):p:=h
theorem zhA (h:p:=by rw[H];exact(ag.new2 w _ _ _ _).alloc _):p:=h
theorem zhB (h:p:=by have:=Nh.o;unfold lC;split<;>omega):p:=h
theorem zhC (h:p:=by have:=N.1;simp at this;exact this.symm):p:=h
theorem zhD (h:p:=by rw[M,y,List.size_toArray,hs];omega):p:=h
theorem zhE (h:p:=by have:=Nm.o;omega):p:=h
theorem zhF (h:p:=by rw[H];simp):p:=h
theorem zhG (h:p:=by simpa using I):p:=h
theorem zhH (h:p:=by rw[<-hf];exact h):p:=h
theorem zhI (h:p:=by have:=Ky.o;omega):p:=h
theorem zhK (h:p:=by first|exact HG.o|exact HG.o.drew):p:=h
theorem zhL (h:p:=by rw[r,List.size_toArray,hs];omega):p:=h
theorem zhM (h:p:=by rw[hx,List.size_toArray,p];omega):p:=h
theorem zhN (h:p:=by rw[T];exact growslice_fits om om):p:=h
theorem zhO (h:p:=by rw[hx,List.size_toArray,C];omega):p:=h
theorem zhP (h:p:=by unfold bn;rw[if_pos ⟨h.good,hk⟩]):p:=h
theorem zhQ (h:p:=by rw[HV.o];unfold eR;rw[<-K.o];rfl):p:=h
theorem zhR (h:p:=by have:=C.len;rwa [Nat.mul_one]at this):p:=h
theorem zhS (h:p:=by rw[H,hq];exact(ag.new w _ _).alloc _):p:=h
theorem zhT (h:p:=by rw[H,V];exact(ag.new w _ _).alloc _):p:=h
theorem zhU (h:p:=by rw[co];exact hj):p:=h
theorem zhV (h:p:=by have:=q;unfold maxLen at this;omega):p:=h
theorem zhW (h:p:=by rw[r,List.size_toArray,p];omega):p:=h
theorem zhX (h:p:=by rw[Km.o];unfold ru;rw[<-hT,<-v]):p:=h
theorem zhY (h:p:=by have:=Mh.o;omega):p:=h
theorem zhZ (h:p:=by have:=I.size;omega):p:=h
theorem zh0 (h:p:=by rw[f,if_pos hw]):p:=h
theorem zh1 (h:p:=by have h1:=Pc.o;have h2:=Lu.o;omega):p:=h
theorem zh3 (h:p:=by unfold bX;rw[if_pos rfl,if_pos hl]):p:=h
theorem zh4 (h:p:=by rw[N.o];unfold ea;rw[hnb];simp):p:=h
theorem zh5 (h:p:=by have:=h.len;have:=Z3.o.1;omega):p:=h
theorem zh6 (h:p:=by rw[K.o,decide_eq_false Kh];rfl):p:=h
theorem zh7 (h:p:=by have:=h.len;rwa [cW f k hf]at this):p:=h
theorem zh8 (h:p:=by have:=No.len;have:=Mp.1;omega):p:=h
theorem zh9 (h:p:=by have:=cW ap 3 (λ_=>rfl) fs;omega):p:=h
theorem zia (h:p:=by have:=h.len;have:=N.o.1;omega):p:=h
theorem zib (h:p:=by have:=h.len;have:=T.o.1;omega):p:=h
theorem zic (h:p:=by have:=O.o;omega):p:=h
theorem zid (h:p:=by rw[K.o,decide_eq_true Kh];rfl):p:=h
theorem zie (h:p:=by have:=Il.o;omega):p:=h
theorem zif (h:p:=by rw[Kf.o,if_neg (by simp),hFi]):p:=h
theorem zig (h:p:=by simp[fg];omega):p:=h
theorem zih (h:p:=by have:=cW bB 2 (λ_=>rfl) fs;omega):p:=h
theorem zii (h:p:=by rw[HV.o];unfold fj;rw[hG];rfl):p:=h
theorem zij (h:p:=by have:=Kx.o;omega):p:=h
theorem zik (h:p:=by have:=hb.lt;omega):p:=h
theorem zil (h:p:=by rw[beq_eq_false_iff_ne];exact he):p:=h
theorem zim (h:p:=by subst hwd;exact(hg.drewN _).drew):p:=h
theorem zin (h:p:=by rw[hG];exact grownCap_ge _ _ _ _):p:=h
theorem zio (h:p:=by rw[List.length_take];omega):p:=h
theorem ziq (h:p:=by rw[A];exact t.only (iF u Z _) om):p:=h
theorem zir (h:p:=by rw[beq_eq_false_iff_ne];exact Kv):p:=h
theorem zis (h:p:=by rw[beq_eq_false_iff_ne];exact k2):p:=h
theorem zit (h:p:=by have:=Kx.o.2;unfold maxLen;omega):p:=h
theorem ziu (h:p:=by first|exact z3|exact z3.drew):p:=h
theorem ziv (h:p:=by rw[H];exact ag.new3 w _ _ _ _ _):p:=h
theorem ziw (h:p:=by simpa using hv):p:=h
theorem zix (h:p:=by have:=HF.o;have:=Mf.o;omega):p:=h
theorem ziy (h:p:=by have:=HF.o;have:=Il.o;omega):p:=h
theorem ziz (h:p:=by have:=ls s;omega):p:=h
theorem ziA (h:p:=by subst hwd;exact(a.drewN _).drew):p:=h
theorem ziB (h:p:=by subst hwd;exact(c.drewN _).drew):p:=h
theorem ziC (h:p:=by subst hwd;exact(d.drewN _).drew):p:=h
theorem ziD (h:p:=by rw[<-f];exact H.of_setRow _):p:=h
theorem ziE (h:p:=by cases e;omega):p:=h
theorem ziF (h:p:=by rw[beq_eq_false_iff_ne];exact k):p:=h
theorem ziG (h:p:=by rw[beq_eq_false_iff_ne];exact Q):p:=h
theorem ziH (h:p:=by rw[hL.len];omega):p:=h
theorem ziI (h:p:=by have:=Nh.o;unfold maxLen;omega):p:=h
theorem ziK (h:p:=by rw[H,ui];exact a6.made _ _ _ _):p:=h
theorem ziL (h:p:=by rw[l,List.length_drop,I];omega):p:=h
theorem ziM (h:p:=by exact h1):p:=h
theorem ziN (h:p:=by have:=C.o;have:=Lf.o;omega):p:=h
theorem ziO (h:p:=by rw[hG];exact grownCap_le_maxLen _ _ _ _ zc1):p:=h
theorem ziP (h:p:=by rw[HE.o,List.drop_eq_nil_of_le zfd];rfl):p:=h
end
end Go.Proofs.YtdpombnelangjaaGreatDoor
