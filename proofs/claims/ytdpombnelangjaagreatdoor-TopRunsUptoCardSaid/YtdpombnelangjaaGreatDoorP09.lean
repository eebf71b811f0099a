/- Lemmas for TopRuns; each states its conditions. -/
import Derived.Test.YtdpombnelangjaaGreatDoorM04
namespace Go.Proofs.YtdpombnelangjaaGreatDoor
open Go.RowKit
set_option maxRecDepth 100000
set_option maxHeartbeats 64000000
open Go.Proofs.Tryz renaming prog → Ao
open Calls renaming mono → Bo
open Gr renaming refl → B4
open Nat renaming le_refl → Dg
theorem BE:pL 151 (λn=>!jY n):=by
 intro R w hR;show Calls Ao 151 #[.int .i32 (R:Int)] w λe w'=>e=.returned (.bool (!jY R))/\Gr w w'
 by_cases h1:R<=32;. have q1:(R:Int)<=32:=om;exact zdP
 . have q1:¬(R:Int)<=32:=om;by_cases h2:126<R;(. have q2:(126:Int)<(R:Int):=om;exact zdP);. have q2:¬(126:Int)<(R:Int):=om;by_cases h3:R=47;(. subst h3;have O:ab (jY 47=false):=aa dc0;exact zcO);. (have q3:((R:Int)==47)=false:=zc2);(have q4:((R:Int)!=47)=true:=zc3);have O:ab (jY R=true):=aa (by simp[jY,h3];omega);clear h3;exact zcO
theorem Du:pL 153 (λn=>n==0):=by
 intro R w hR;show Calls Ao 153 #[.int .i32 (R:Int)] w λe w'=>e=.returned (.bool (R==0))/\Gr w w'
 by_cases h:R=0;. subst h;exact zdn
 . have O:ab ((R==0)=false):=aa (by rw[beq_eq_false_iff_ne];exact h);(have q3:((R:Int)==0)=false:=zc2);clear h;rw[O.o];exact zdn
theorem zQ {p:UInt8->Bool} (s:Y0):(s.any λc=>!p c)=!(s.all p):=by
 exact zbF
theorem Cz (s:Y0):(s.any λc=>c.toNat==0)=!(kj s):=by
 unfold kj;rw[<-zQ];congr 1;funext c;simp
theorem Hr (s:Y0):kw s=((s.all λc=>jY c.toNat)&&(!s.isEmpty&&(decide (s.length<=60)&&(!(s==[46])&&!(s==[46,46]))))):=by
 unfold kw;cases s with|nil=>rfl|cons c r=>((have e:decide ((c::r).length≠0/\(c::r).length<=60)=decide ((c::r).length<=60):=by simp);rw[e];generalize decide ((c::r).length<=60)=x;generalize((c::r).all λc=>jY c.toNat)=y;cases x<;>cases y<;>simp)
theorem xI (s:Y0) (w:World) (hs:s.length<=4611686018427387904):Calls Ao 105 #[s] w λe w'=>e=.returned (kw s)/\Gr w w':=by
 have HC:=aa (λw=>kt 151 _ BE (λR h=>by simp[jY];omega) (eV Tryz.func151 zc0 rfl) s w hs);have HV:=aa (Hr s);rw[HV.o];clear HV;have e1:(s.any λc=>!jY c.toNat)=!(s.all λc=>jY c.toNat):=zQ s;rw[e1]at HC;obtain⟨B,hB⟩:=zq (s.all λc=>jY c.toNat);rw[<-hB]at HC;rw[<-hB];clear hB e1;cases B;. skip;exact zar
 . cases h1:s.isEmpty;(. (have q0:(s==[])=false:=by cases s with|nil=>cases h1|cons a b=>rfl);by_cases h2:s.length<=60;(. have q1:(s.length:Int)<=60:=om;cases h3:(s==[46]);(. cases h4:(s==[46,46]);(. rw[decide_eq_true h2];exact zar);. rw[decide_eq_true h2];exact zar);. rw[decide_eq_true h2];exact zar);. have q1:¬(s.length:Int)<=60:=om;rw[decide_eq_false h2];exact zar);. (obtain rfl:s=[]:=List.isEmpty_iff.1 h1);exact zar
theorem sV (s:Y0) (w:World) (hs:s.length<=4611686018427387904):Calls Ao 107 #[s] w λe w'=>e=.returned (.bool (decide (s.length<=4096)&&kj s))/\Gr w w':=by
 have HC:=aa (λw=>pP 153 _ Du (λR h=>by rw[beq_eq_false_iff_ne];omega) (eV Tryz.func153 zc0 rfl) s w hs);rw[Cz]at HC;obtain⟨B,hB⟩:=zq (kj s);rw[<-hB]at HC;rw[<-hB];clear hB;by_cases h2:s.length<=4096;. have q1:(s.length:Int)<=4096:=om;rw[decide_eq_true h2];(go_enter Tryz.func107,Tryz.ntmps107);(go_wp2_with(go_at_call 123;refine Bo (HC.o _) ?_;rintro e w1 ⟨rfl,I⟩));go_ret;exact⟨by simp,I⟩
 . have q1:¬(s.length:Int)<=4096:=om;rw[decide_eq_false h2];(go_enter Tryz.func107,Tryz.ntmps107);exact zak
theorem mf (n:Nat):((n:Int)==0)=decide (n=0):=by
 by_cases h:n=0;. subst h;rfl
 . rw[decide_eq_false h,beq_eq_false_iff_ne];omega
theorem gY {α:Type} (l:List α):l.isEmpty=decide (l.length=0):=by cases l<;>simp
theorem yY (o:Ob) (A:Yy) (c:Nat) (B:Yy) (d:Nat) (w:World) (hk:1<=o.kind/\o.kind<=4):Calls Ao 104 #[.agg (bh o A c B d)] w λe w'=>e=.returned (cN o)/\Gr w w':=by
 obtain⟨kd,dt,en,tr,pa,wh,no,ti,ta⟩:=o;simp only at hk;obtain⟨J,H⟩:=zq (w.alloc (.cells (bh ⟨kd,dt,en,tr,pa,wh,no,ti,ta⟩ A c B d) 97));have hb:ag J w.heap.size 97 (bh ⟨kd,dt,en,tr,pa,wh,no,ti,ta⟩ A c B d):=zeM
 have t:Gr w J:=zc5
 have f:ab (∀w',Gr J w'->w'.cell? (w.heap.size,0)=kd/\w'.cell? (w.heap.size,1)=dt/\w'.cell? (w.heap.size,2)=(A,en.length,c)/\w'.cell? (w.heap.size,3)=tr/\w'.cell? (w.heap.size,4)=(B,pa.length,d)/\w'.cell? (w.heap.size,5)=wh/\w'.cell? (w.heap.size,6)=no/\w'.cell? (w.heap.size,7)=ti/\w'.cell? (w.heap.size,8)=ta):=aa (λw' g=>⟨(hb.gr g).cell 0,(hb.gr g).cell 1,(hb.gr g).cell 2,(hb.gr g).cell 3,(hb.gr g).cell 4,(hb.gr g).cell 5,(hb.gr g).cell 6,(hb.gr g).cell 7,(hb.gr g).cell 8⟩);obtain⟨p,V⟩:=zq (w.heap.size);rw[<-V]at f;have HV:ab (cN ⟨kd,dt,en,tr,pa,wh,no,ti,ta⟩=_):=aa rfl;obtain⟨Kb,hV⟩:=zq (cN ⟨kd,dt,en,tr,pa,wh,no,ti,ta⟩);have HV:=aa hV;rw[<-hV];clear hV hb;obtain⟨c0,c1,c2,c3,c4,c5,c6,c7,c8⟩:=f.o J (B4 _);unfold bh at H;unfold bh;simp only at c0 c1 c2 c3 c4 c5 c6 c7 c8 H⊢;rcases(by omega:kd=1\/kd=2\/kd=3\/kd=4)with rfl|rfl|rfl|rfl;. skip;cases hents:en.isEmpty;(. (have b:((en.length:Int)==0)=false:=zf8);have O:ab (Kb=false):=aa (by rw[HV.o];simp[cN,hents]);exact zac);. (have b:((en.length:Int)==0)=true:=zf8);cases htree:tr.isEmpty;(. (have h:(tr==[])=false:=zfz);have O:ab (Kb=false):=aa (by rw[HV.o];simp[cN,hents,htree]);exact zac);. (have h:(tr==[])=true:=zfz);cases hpars:pa.isEmpty;(. (have i:((pa.length:Int)==0)=false:=zfI);have O:ab (Kb=false):=aa (by rw[HV.o];simp[cN,hents,htree,hpars]);exact zac);. (have i:((pa.length:Int)==0)=true:=zfI);cases htime:decide (ti=0);(. (have j:(ti==0)=false:=zeR);have O:ab (Kb=false):=aa (by rw[HV.o];simp[cN,hents,htree,hpars,htime]);exact zac);. (have j:(ti==0)=true:=zeR);cases htarget:ta.isEmpty;(. (have a:(ta==[])=false:=zfA);have O:ab (Kb=false):=aa (by rw[HV.o];simp[cN,hents,htree,hpars,htime,htarget]);exact zac);. (have a:(ta==[])=true:=zfA);cases hwho:wh.isEmpty;(. (have m:(wh==[])=false:=zgB);have O:ab (Kb=false):=aa (by rw[HV.o];simp[cN,hents,htree,hpars,htime,htarget,hwho]);exact zac);. (have m:(wh==[])=true:=zgB);cases hnote:no.isEmpty;(. (have l:(no==[])=false:=zgC);have O:ab (Kb=false):=aa zgd;exact zac);. (have l:(no==[])=true:=zgC);have O:ab (Kb=true):=aa zgd;exact zac
 . skip;cases hdata:dt.isEmpty;(. exact zcH);. (have k:(dt==[])=true:=zgD);cases htree:tr.isEmpty;(. (have h:(tr==[])=false:=zfz);have O:ab (Kb=false):=aa (by rw[HV.o];simp[cN,hdata,htree]);exact zac);. (have h:(tr==[])=true:=zfz);cases hpars:pa.isEmpty;(. (have i:((pa.length:Int)==0)=false:=zfI);have O:ab (Kb=false):=aa (by rw[HV.o];simp[cN,hdata,htree,hpars]);exact zac);. (have i:((pa.length:Int)==0)=true:=zfI);cases htime:decide (ti=0);(. (have j:(ti==0)=false:=zeR);have O:ab (Kb=false):=aa (by rw[HV.o];simp[cN,hdata,htree,hpars,htime]);exact zac);. (have j:(ti==0)=true:=zeR);cases htarget:ta.isEmpty;(. (have a:(ta==[])=false:=zfA);have O:ab (Kb=false):=aa (by rw[HV.o];simp[cN,hdata,htree,hpars,htime,htarget]);exact zac);. (have a:(ta==[])=true:=zfA);cases hwho:wh.isEmpty;(. (have m:(wh==[])=false:=zgB);have O:ab (Kb=false):=aa (by rw[HV.o];simp[cN,hdata,htree,hpars,htime,htarget,hwho]);exact zac);. (have m:(wh==[])=true:=zgB);cases hnote:no.isEmpty;(. (have l:(no==[])=false:=zgC);have O:ab (Kb=false):=aa zge;exact zac);. (have l:(no==[])=true:=zgC);have O:ab (Kb=true):=aa zge;exact zac
 . skip;cases hdata:dt.isEmpty;(. exact zcH);. (have k:(dt==[])=true:=zgD);cases hents:en.isEmpty;(. exact zdC);. (have b:((en.length:Int)==0)=true:=zf8);cases htarget:ta.isEmpty;(. (have a:(ta==[])=false:=zfA);have O:ab (Kb=false):=aa zhr;exact zac);. (have a:(ta==[])=true:=zfA);have O:ab (Kb=true):=aa zhr;exact zac
 . skip;cases hdata:dt.isEmpty;(. exact zcH);. (have k:(dt==[])=true:=zgD);cases hents:en.isEmpty;(. exact zdC);. (have b:((en.length:Int)==0)=true:=zf8);cases htree:tr.isEmpty;(. (have h:(tr==[])=false:=zfz);have O:ab (Kb=false):=aa (by rw[HV.o];simp[cN,hdata,hents,htree]);exact zac);. (have h:(tr==[])=true:=zfz);cases hpars:pa.isEmpty;(. (have i:((pa.length:Int)==0)=false:=zfI);have O:ab (Kb=false):=aa (by rw[HV.o];simp[cN,hdata,hents,htree,hpars]);exact zac);. (have i:((pa.length:Int)==0)=true:=zfI);cases htime:decide (ti=0);(. (have j:(ti==0)=false:=zeR);have O:ab (Kb=false):=aa zgS;exact zac);. (have j:(ti==0)=true:=zeR);have O:ab (Kb=true):=aa zgS;exact zac
end Go.Proofs.YtdpombnelangjaaGreatDoor
