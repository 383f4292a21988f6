/- Steps of the proof. -/
import Derived.Test.YtjalgpioklcbfaaGreatDoorMgDesksAU
import Derived.Test.YtjalgpioklcbfaaGreatDoorKRnR
import Derived.Test.YtjalgpioklcbfaaGreatDoorKSvR
set_option maxHeartbeats 4000000
set_option maxRecDepth 100000
set_option linter.unusedVariables false
set_option linter.unusedSimpArgs false
namespace Go.Proofs.YtjalgpioklcbfaaGreatDoor
section
open Go.RowKit Go.Lib Go.Proofs.Tryz
theorem Mv.ofg{g:Nat}{w w':World}{A:Option Addr}(o:Off (fun b=>b=g) w w'):Mv g w w' A A:=⟨o.mono fun _ e=>.inl e,fun _ _ hn=>hn⟩
theorem StD.turn {g lo n c:Nat} {w w':World} {A:Option Addr} {h h':DkH} {d d':Dk} {ls:List ByteArray} {V6 V7 V6' V7':Value} (s:StD w lo g h d A n c ls V6 V7) (o:Off (fun b=>b = g) w w')
  (hb:Blk w' g 74 #[.int .i64 d'.net.sta,.slice h'.A1 h'.n1 h'.c1,.slice h'.A2 h'.n2 h'.c2,.slice h'.A3 h'.n3 h'.c3,.string d'.log,.slice A n c,V6',V7'])
  (t1:Aw w' (Nn lo g A) 3 h'.A1 h'.n1 (tbs d'.net.tubes)) (t2:Aw w' (Nn lo g A) 1 h'.A2 h'.n2 (ints d'.times)) (t3:AwR w' (Nn lo g A) h'.A3 h'.n3 d'.runs) (ok:okDk d'=true):StD w' lo g h' d' A n c ls V6' V7':=
 ⟨⟨hb,rfl,(s.says.sl.off o fun b hb e=>by
  obtain⟨ad,e1,e2⟩:=hb;exact s.says.ne ad e1 (e2.trans e)).low,s.says.ne⟩,t1,t2,t3,ok⟩
theorem zpU{ts:List Int}(h:zaK ts=true):zap ts []=true:=by unfold zap;simp[h]
theorem zhS(h:DkH)(d:Dk)(g:Nat)(w:World)(hs0:0<=d.net.sta)(hs9:d.net.sta<=10)(h2:h.n2<=1048576)(h3:h.n3<=1048576)(q0:w.cell? ⟨g,0,none⟩=some (.int .i64 d.net.sta))(q2:w.cell? ⟨g,2,none⟩=some (.slice h.A2 h.n2 h.c2))(q3:w.cell? ⟨g,3,none⟩=some (.slice h.A3 h.n3 h.c3)):
 Calls prog 179 #[.pointer (some ⟨g,0,none⟩)] w fun e w'=>e= .returned (.string (zhh d.net.sta h.n2 h.n3))/\Below w.heap.size w w':=zmy h d g w hs0 hs9 h2 h3 q0 q2 q3
theorem znm {w:World} {lo g:Nat} {h:DkH} {d:Dk} {A:Option Addr} {n c:Nat} {ls:List ByteArray} {NA:Option Addr} {nn nc:Nat} {ns:List Int} {TA:Option Addr} {tn tc:Nat} {ts:List ByteArray} (x:StI w lo g h d A n c ls NA nn nc ns TA tn tc ts) :
  Calls prog 113 #[.pointer (some ⟨g,0,none⟩)] w fun e w'=>e= .returned (.tuple #[])/\zbY w w' lo g A (ansD d (zcG d ns)) (ls++ansL (zcG d ns)):=by
 have XI:=hid x;obtain⟨c0,c1,c2,c3,c4,c5,c6,c7⟩:=x.st.cells;clear x;go_enter func113,ntmps113;have HTC:=hid (zhL NA nn nc w.heap.size ns w XI.out.nums.1 XI.out.nnl)
 go_wp2_with fail
 refine HTC.out.mono ?_;rintro e w5 ⟨rfl,hw⟩;rw[<-hw];clear hw w5;rcases ho:zaK ns with _|_
 ·have HAN:=hid (show zcG d ns=⟨d,[],1⟩ by rw[zcG,if_pos ho]);have HSD:=hid XI.out.st;have HMV:=hid (Mv.refl g w A);have hc:¬(1:Int)=0:=by decide
  have HCD:=hid (show(0:Int)<=1/\(1:Int)<=10 by decide);clear ho c0 c1 c2 c3 c4 c5 c6 c7
  go_wp2_with fail
  refine(zcq HSD.out.says (Nat.le_trans XI.out.low HMV.out.off.size) XI.out.nl HCD.out.1 HCD.out.2 hc).mono ?_;rintro e w6 ⟨rfl,A',c',hs⟩;have HSS:=hid ((HSD.out.out hs).after HMV.out);clear hs;go_wp2;refine bodyPost_ret (results_none rfl _ _ _) rfl ?_;exact⟨rfl,outE HSS.out (by rw[HAN.out]) hc⟩
 have HAN:=hid (show zcG d ns=⟨⟨d.net,ns,[],d.log⟩,[zcc ⟨d.net,ns,[],d.log⟩],0⟩ by rw[zcG,if_neg (by rw[ho];decide)]);have HOK:=hid (zdW (zaT XI.out.st.ok).1 (zpU ho) (zaT XI.out.st.ok).2.2);clear ho;have f2:=XI.out.st.says.blk.frozen 2
 go_upto_region 3 with fail
 obtain⟨u,hu⟩:∃y,w.setCell ⟨g,2,none⟩ (.slice NA nn nc)=y:=⟨_,rfl⟩
 have hub:=XI.out.st.says.blk.set_ 2 (.slice NA nn nc);have huo:Off (fun b=>b=g) w (w.setCell ⟨g,2,none⟩ (.slice NA nn nc)):=(Off.refl (fun b=>b=g) _).setCell (p:=⟨g,2,none⟩) rfl _;rw[hu] at hub huo⊢;clear hu f2 c0 c1 c2 c3 c4 c5 c6 c7;obtain⟨v,hv⟩:∃y,u.alloc (.cells #[] 123)=y:=⟨_,rfl⟩
 have hvb:=hub.alloc (.cells #[] 123);have hvo:=huo.then_ ((Below.refl _ u).alloc lr (.cells #[] 123));rw[hv] at hvb hvo;have f3:=hvb.frozen 3;have p3:v.cell? ⟨g,3,none⟩=some (.slice h.A3 h.n3 h.c3):=hvb.cellAt 3 (by simp);have HUB:=hid hvb;have HVO:=hid hvo;have hgl:=hvb.lt;clear hub huo hvb hvo
 go_upto_region 4 with fail
 obtain⟨w6,hw6⟩:∃y,v.setCell ⟨g,3,none⟩ (.slice (some ⟨u.heap.size,0,none⟩) 0 0)=y:=⟨_,rfl⟩
 have ho6:Off (fun b=>b=g) w (v.setCell ⟨g,3,none⟩ (.slice (some ⟨u.heap.size,0,none⟩) 0 0)):=HVO.out.setCell (p:=⟨g,3,none⟩) rfl _;have hb6:=HUB.out.set_ 3 (.slice (some ⟨u.heap.size,0,none⟩) 0 0);rw[hw6] at ho6 hb6⊢;have hmv6:Mv g w w6 A A:=Mv.ofg ho6
 have hst6:StD w6 lo g ⟨h.A1,h.n1,h.c1,NA,nn,nc,some ⟨u.heap.size,0,none⟩,0,0⟩ ⟨d.net,ns,[],d.log⟩ A n c ls (.slice NA nn nc) (.slice TA tn tc):=
  XI.out.st.turn ho6 hb6 (XI.out.st.tubes.mv hmv6) (XI.out.nums.mv hmv6) (AwR.nil _ _ _) HOK.out
 clear hw6 ho6 hb6 f3 hgl p3 hv;have HS6:=hid hst6;have HM6:=hid hmv6;have HD6:=hid hst6.small;obtain⟨e0,e1,e2,e3,e4,e5,e6,e7⟩:=hst6.cells;have hsta:=zha HS6.out.ok;have HTX:=hid (zf7 HS6.out.ok);have HN2:=hid HS6.out.dk.n2eq;have HN3:=hid HS6.out.dk.n3eq;have HTC:=hid (zhS _ _ g w6 (by omega) hsta.2 HD6.out.n2 HD6.out.n3 e0 e2 e3);clear e0 e1 e2 e3 e4 e5 e6 e7 hsta
 go_wp2_with fail
 refine HTC.out.mono ?_;rintro e w7 ⟨rfl,b7⟩;have HS7:=hid (HS6.out.on b7);have HM7:=hid (HM6.out.trans (Mv.below b7));clear b7;obtain⟨tx,htx⟩:∃z,zcc ⟨d.net,ns,[],d.log⟩=z:=⟨_,rfl⟩
 rw[show zhh _ _ _=tx by rw[<-htx,HTX.out,HN2.out,HN3.out]];rw[htx] at HAN;clear htx
 go_wp2_with fail
 refine(zbR lo g _ A n c ls tx w7 HS7.out.says (Nat.le_trans XI.out.low HM7.out.off.size) (by have:=XI.out.nl;omega)).mono ?_;rintro e w8 ⟨rfl,A',c',hs⟩;have HSS:=hid ((HS7.out.out hs).after HM7.out);clear hs;go_wp2;go_end0;exact⟨rfl,out0 HSS.out HAN.out⟩
theorem zpK {w:World} {lo g:Nat} {h:DkH} {d:Dk} {A:Option Addr} {n c:Nat} {ls:List ByteArray} {NA:Option Addr} {nn nc:Nat} {ns:List Int} {TA:Option Addr} {tn tc:Nat} {ts:List ByteArray} (x:StI w lo g h d A n c ls NA nn nc ns TA tn tc ts) (ws:List ByteArray) (ht0:ts[0]? = some (zab (zaF 32 ((ws.drop 1).map fun s=>s.data.toList)))) :
  Calls prog 107 #[.pointer (some ⟨g,0,none⟩)] w fun e w'=>e= .returned (.tuple #[])/\zbY w w' lo g A (ansD d (netC d ws)) (ls++ansL (netC d ws)):=by
 have XI:=hid x;obtain⟨c0,c1,c2,c3,c4,c5,c6,c7⟩:=x.st.cells
 have htn:0<tn:=by
  have h1:=x.texts.1.1;rw[za6] at h1;have h2:=(List.getElem?_eq_some_iff.1 ht0).1;omega
 obtain⟨s,b0,o0,hs0,rfl,hb0,k0⟩:=zaP x.texts.1 htn;rw[Nat.add_zero] at k0;have hbs:=x.tb s (List.mem_of_getElem? hs0);obtain rfl:zab (zaF 32 ((ws.drop 1).map fun s=>s.data.toList))=s:=by rw[ht0] at hs0;injection hs0
 obtain⟨s,hs⟩:∃z,zab (zaF 32 ((ws.drop 1).map fun s=>s.data.toList))=z:=⟨_,rfl⟩
 have HJ:=hid (show zaF 32 ((ws.drop 1).map fun s=>s.data.toList)=s.data.toList by rw[<-hs,zaf]);rw[hs] at k0 hbs;clear x hs0 hs ht0;go_enter func107,ntmps107;have HRN:=hid (zky s w hbs)
 go_wp2_with fail
 refine HRN.out.mono ?_;rintro e w1 ⟨hcase,b1⟩;have HB1:=hid b1;rcases hcase with ⟨nt,A1,n1,d1,hnt,rfl,s1⟩|⟨hnt,rfl⟩;rotate_left
 ·have HAN:=hid (show netC d ws=⟨d,[],7⟩ by unfold netC;rw[HJ.out,hnt];rfl)
  go_upto_region 1 with fail
  obtain⟨w5,hw5⟩:∃y,w1.alloc (.cells #[.int .i64 0,.slice none 0 0] 28)=y:=⟨_,rfl⟩
  have hb5:Below w.heap.size w (w1.alloc (.cells #[.int .i64 0,.slice none 0 0] 28)):=zac HB1.out (bal _) lr;rw[hw5] at hb5⊢;have HSD:=hid (XI.out.st.on hb5);have HMV:=hid (Mv.below (g:=g) (A:=A) hb5);have hc:¬(7:Int)=0:=by decide
  have HCD:=hid (show(0:Int)<=7/\(7:Int)<=10 by decide);clear hw5 hb5 b1 hnt c0 c1 c2 c3 c4 c5 c6 c7 k0
  go_wp2_with fail
  refine(zcq HSD.out.says (Nat.le_trans XI.out.low HMV.out.off.size) XI.out.nl HCD.out.1 HCD.out.2 hc).mono ?_;rintro e w6 ⟨rfl,A',c',hs⟩;have HSS:=hid ((HSD.out.out hs).after HMV.out);clear hs;go_wp2;refine bodyPost_ret (results_none rfl _ _ _) rfl ?_;exact⟨rfl,outE HSS.out (by rw[HAN.out]) hc⟩
 have hokn:=(zgn hnt).1;have hvn:netV s=nt:=zdr hnt;have HAN:=hid (show netC d ws=⟨⟨nt,d.times,d.runs,d.log⟩,[zcc ⟨nt,d.times,d.runs,d.log⟩],0⟩ by unfold netC;rw[HJ.out,hnt,zaM,hvn];rfl);have HOK:=hid (show okDk ⟨nt,d.times,d.runs,d.log⟩=true from zdW hokn (zaT XI.out.st.ok).2.1 (zaT XI.out.st.ok).2.2);have S1:=hid s1;clear hokn hvn hnt s1 c0 c1 c2 c3 c4 c5 c6 c7 k0
 go_upto_region 1 with fail
 obtain⟨u,hu⟩:∃y,w1.alloc (.cells #[.int .i64 nt.sta,.slice A1 n1 d1] 28)=y:=⟨_,rfl⟩
 have hub:Blk u w1.heap.size 28 #[.int .i64 nt.sta,.slice A1 n1 d1]:=by rw[<-hu];exact Blk.new _ _ _
 have hubel:Below w1.heap.size w1 u:=by rw[<-hu];exact bal _
 rw[hu];have HBU:=hid (zac b1 hubel lr);have p0:=hub.cellAt 0 (by simp);have p1:=hub.cellAt 1 (by simp);simp only[ly] at p0 p1;have HSU:=hid (XI.out.st.on HBU.out);have S2:=hid (S1.out.on hubel).low;have f0:=HSU.out.says.blk.frozen 0;have f1:=HSU.out.says.blk.frozen 1;have hgl:=HSU.out.glt;obtain⟨c0,c1,c2,c3,c4,c5,c6,c7⟩:=HSU.out.cells;clear hu hub hubel b1
 go_upto_region 4 with fail
 have ho6:Off (fun b=>b=g) w ((u.setCell ⟨g,0,none⟩ (.int .i64 nt.sta)).setCell ⟨g,1,none⟩ (.slice A1 n1 d1)):=((Off.of_below HBU.out (fun b=>b=g)).setCell (p:=⟨g,0,none⟩) rfl _).setCell (p:=⟨g,1,none⟩) rfl _;have ho7:Off (fun b=>b=g) u ((u.setCell ⟨g,0,none⟩ (.int .i64 nt.sta)).setCell ⟨g,1,none⟩ (.slice A1 n1 d1)):=((Off.refl (fun b=>b=g) _).setCell (p:=⟨g,0,none⟩) rfl _).setCell (p:=⟨g,1,none⟩) rfl _;have hb6:=(HSU.out.says.blk.set_ 0 (.int .i64 nt.sta)).set_ 1 (.slice A1 n1 d1);obtain⟨w6,hw6⟩:∃y,(u.setCell ⟨g,0,none⟩ (.int .i64 nt.sta)).setCell ⟨g,1,none⟩ (.slice A1 n1 d1)=y:=⟨_,rfl⟩
 rw[hw6] at ho6 ho7 hb6⊢;have hmv6:Mv g w w6 A A:=Mv.ofg ho6;have hmv7:Mv g u w6 A A:=Mv.ofg ho7
 have hst6:StD w6 lo g ⟨A1,n1,d1,h.A2,h.n2,h.c2,h.A3,h.n3,h.c3⟩ ⟨nt,d.times,d.runs,d.log⟩ A n c ls (.slice NA nn nc) (.slice (some ⟨b0,o0,none⟩) tn tc):=
  HSU.out.turn ho7 hb6 ((Aw.of_sl S2.out XI.out.st.glt XI.out.st.alt XI.out.low).mv hmv7) (HSU.out.times.mv hmv7) (HSU.out.runs.mv hmv7) HOK.out
 clear hw6 ho6 hb6 ho7 hmv7 f0 f1 hgl p0 p1 c0 c1 c2 c3 c4 c5 c6 c7;have HS6:=hid hst6;have HM6:=hid hmv6;have HD6:=hid hst6.small;obtain⟨e0,e1,e2,e3,e4,e5,e6,e7⟩:=hst6.cells;have hsta:=zha HS6.out.ok;have HTX:=hid (zf7 HS6.out.ok);have HN2:=hid HS6.out.dk.n2eq;have HN3:=hid HS6.out.dk.n3eq;have HTC:=hid (zhS _ _ g w6 (by omega) hsta.2 HD6.out.n2 HD6.out.n3 e0 e2 e3);clear e0 e1 e2 e3 e4 e5 e6 e7 hsta
 go_wp2_with fail
 refine HTC.out.mono ?_;rintro e w7 ⟨rfl,b7⟩;have HS7:=hid (HS6.out.on b7);have HM7:=hid (HM6.out.trans (Mv.below b7));clear b7;obtain⟨tx,htx⟩:∃z,zcc ⟨nt,d.times,d.runs,d.log⟩=z:=⟨_,rfl⟩
 rw[show zhh _ _ _=tx by rw[<-htx,HTX.out,HN2.out,HN3.out]];rw[htx] at HAN;clear htx
 go_wp2_with fail
 refine(zbR lo g _ A n c ls tx w7 HS7.out.says (Nat.le_trans XI.out.low HM7.out.off.size) (by have:=XI.out.nl;omega)).mono ?_;rintro e w8 ⟨rfl,A',c',hs⟩;have HSS:=hid ((HS7.out.out hs).after HM7.out);clear hs;go_wp2;go_end0;exact⟨rfl,out0 HSS.out HAN.out⟩
theorem znk {w:World} {lo g:Nat} {h:DkH} {d:Dk} {A:Option Addr} {n c:Nat} {ls:List ByteArray} {NA:Option Addr} {nn nc:Nat} {ns:List Int} {TA:Option Addr} {tn tc:Nat} {ts:List ByteArray} (x:StI w lo g h d A n c ls NA nn nc ns TA tn tc ts) :
  Calls prog 108 #[.pointer (some ⟨g,0,none⟩)] w fun e w'=>e= .returned (.tuple #[])/\zbY w w' lo g A (ansD d (queueC d ns)) (ls++ansL (queueC d ns)):=by
 have XI:=hid x;obtain⟨c0,c1,c2,c3,c4,c5,c6,c7⟩:=x.st.cells;have hnl:=zai XI.out.nums.1;have HXS:=hid (show queueC d ns=if nn%3≠0 then ⟨d,[],7⟩ else ⟨d,[zab (zaI (srvC (zb1 ns)).1)],(srvC (zb1 ns)).2⟩ by rw[queueC,hnl]);have HNL:=hid hnl;have acc0:=Acc.made w 140 3;have HS0:=hid (acc0.sl (lo:=w.heap.size) lr lr);have hb0:=(acc0.below (B:=w.heap.size) lr lr)
 have HB0:=hid hb0;have C6:=hid c6;have hnn9:=XI.out.nnl;clear x acc0 hnl c0 c1 c2 c3 c4 c5 c7;by_cases hpar:nn%3=0;rotate_left
 ·have HAN:=hid (show queueC d ns=⟨d,[],7⟩ by rw[HXS.out,if_pos hpar])
  have hp3:((nn:Int)%3 !=0)=true:=by
   rw[bne_iff_ne];omega
  have HSD:=hid XI.out.st;have HMV:=hid (Mv.refl g w A);have hc:¬(7:Int)=0:=by decide
  have HCD:=hid (show(0:Int)<=7/\(7:Int)<=10 by decide);clear hpar hb0;go_enter func108,ntmps108
  go_wp2_with fail
  refine(zcq HSD.out.says (Nat.le_trans XI.out.low HMV.out.off.size) XI.out.nl HCD.out.1 HCD.out.2 hc).mono ?_;rintro e w6 ⟨rfl,A',c',hs⟩;have HSS:=hid ((HSD.out.out hs).after HMV.out);clear hs;go_wp2;refine bodyPost_ret (results_none rfl _ _ _) rfl ?_;exact⟨rfl,outE HSS.out (by rw[HAN.out]) hc⟩
 have HXF:=hid (show queueC d ns=⟨d,[zab (zaI (srvC (zb1 ns)).1)],(srvC (zb1 ns)).2⟩ by rw[HXS.out,if_neg (by omega)])
 have hp3:((nn:Int)%3 !=0)=false:=by
  rw[bne_eq_false_iff_eq];omega
 obtain⟨p,hp⟩:∃p,nn=3*p:=⟨nn/3,by omega⟩
 have HP:=hid hp;clear hpar hp hb0;go_enter func108,ntmps108
 go_wp2_with fail
 go_loopw [2,3] (fun o i wr=>∃(k j:Nat) (A':Option Addr) (d':Nat),k<=p/\j=3*k/\i= .int .i64 (j:Int)/\o= .slice A' k d'/\Sl wr w.heap.size wr.heap.size 140 3 A' k d' (its ((zb1 ns).take k))/\Below w.heap.size w wr) (fun _ i _=>nn-(RowKit.intOf i).toNat)
 case atStart=>exact⟨0,0,_,_,Nat.zero_le _,rfl,rfl,rfl,HS0.out,HB0.out⟩
 case round=>
  obtain⟨k,j,A',d',hk,hj,rfl,rfl,hsl,hbel⟩:=hrel;have HS:=hid hsl;have HBr:=hid hbel;have HJ:=hid hj;have hj2:j<=1048577:=by have:=HP.out;omega
  have c6:=zaa hbel C6.out;clear hsl hbel hj;by_cases hlt:k<p
  ·have hjn:j+2<nn:=by have:=HP.out;have:=HJ.out;omega
   obtain⟨xa,ba,oa,hxa,hAa,hba,q1⟩:=zax (XI.out.nums.1.on lr HBr.out) (k:=j) (by omega);subst hAa;obtain⟨xb,bb,ob,hxb,hBb,hbb,q2⟩:=zax (XI.out.nums.1.on lr HBr.out) (k:=j+1) (by omega);injection hBb with hBb;injection hBb with hBb hBo;subst hBb;subst hBo;obtain⟨xc,bc,oc,hxc,hCb,hbc,q3⟩:=zax (XI.out.nums.1.on lr HBr.out) (k:=j+2) (by omega);injection hCb with hCb;injection hCb with hCb hCo;subst hCb;subst hCo;have HPG:=hid (zhI k ns xa xb xc (by rw[<-HJ.out];exact hxa) (by rw[<-HJ.out];exact hxb) (by rw[<-HJ.out];exact hxc));have HTK:=hid (show(zb1 ns).take (k+1)=(zb1 ns).take k++ [⟨xa,xb,xc⟩] by rw[List.take_add_one,HPG.out];rfl);have hj0:(0:Int)<=j:=by omega
   have hjl:(j:Int)<nn:=by omega
   have hjl2:(j:Int)+1<nn:=by omega
   have hjl3:(j:Int)+2<nn:=by omega
   have hk9:k<=1048577:=by have:=HP.out;omega
   have hz:w.heap.size<=wr.heap.size:=HBr.out.size;have hgw:=XI.out.st.glt;clear hxa hxb hxc
   have hw1:IntKind.i64.wrap ((j:Int)+1)=((j+1:Nat):Int):=by
    unfold IntKind.wrap;simp[IntKind.bits,IntKind.signed];omega
   have hw2:(((j+1:Nat):Int)).toNat=j+1:=by omega
   have hw4:(0:Int)<=(j:Int)+1:=by omega
   have hv1:IntKind.i64.wrap ((j:Int)+2)=((j+2:Nat):Int):=by
    unfold IntKind.wrap;simp[IntKind.bits,IntKind.signed];omega
   have hv2:(((j+2:Nat):Int)).toNat=j+2:=by omega
   have hv4:(0:Int)<=(j:Int)+2:=by omega
   have hv5:((j:Int)+2).toNat=j+2:=by omega
   go_upto_region 6 with fail
   refine ez (fun V=>V.cell? ⟨ba,oa+j,none⟩=some (.int .i64 xa)/\V.cell? ⟨ba,oa+(j+1),none⟩=some (.int .i64 xb)/\V.cell? ⟨ba,oa+(j+2),none⟩=some (.int .i64 xc)/\V.cell? ⟨g,6,none⟩=some (.slice (some ⟨ba,oa,none⟩) nn nc)) ?_ fun hHeld=>?_
   ·exact⟨q1,q2,q3,c6⟩
   refine dq 0 rfl (h:=dq 1 rfl (h:=dq 2 rfl (h:=dq 3 rfl (h:=dq 4 rfl (h:=dq 5 rfl (h:=dq 6 rfl (h:=dq 7 rfl (h:=?_))))))));refine dq 8 rfl (h:=dq 9 rfl (h:=dq 10 rfl (h:=dq 11 rfl (h:=dq 12 rfl (h:=dq 13 rfl (h:=dq 14 rfl (h:=dq 15 rfl (h:=?_))))))));refine dq 16 rfl (h:=dq 17 rfl (h:=dq 18 rfl (h:=dq 19 rfl (h:=dq 20 rfl (h:=dq 21 rfl (h:=dq 22 rfl (h:=dq 23 rfl (h:=?_))))))));refine dq 24 rfl (h:=?_);refine rd 25 rfl fun K hK=>?_;go_simp;refine ke hK ?_ ?_
   ·exact⟨zaa (bal _) hHeld.1,zaa (bal _) hHeld.2.1,zaa (bal _) hHeld.2.2.1,zaa (bal _) hHeld.2.2.2⟩
   clear hK K hHeld;intro hHeld;refine rd 26 rfl fun K hK=>?_;refine zbH rfl _ _ 138 rfl 140 _ 3 24 underlying138 zmZ rfl (by decide) (by decide) HS.out.drew hz rfl [.int .i64 xa,.int .i64 xb,.int .i64 xc] wr.heap.size rfl rfl rfl (fun v hv=>by simp at hv;rcases hv with rfl|rfl|rfl<;>rfl) (by omega) ?_;intro A9 d9 w9 hs9 b9 f9 k9;refine ke hK ?_ ?_
   ·exact⟨(b9.cell (p:=⟨ba,oa+j,none⟩) hba).trans q1,(b9.cell (p:=⟨ba,oa+(j+1),none⟩) hba).trans q2,(b9.cell (p:=⟨ba,oa+(j+2),none⟩) hba).trans q3,(b9.cell (p:=⟨g,6,none⟩) hgw).trans c6⟩
   clear hK K hHeld;intro hHeld;refine dq 27 rfl (h:=?_);refine dn ?_;have HF:=hid hs9;have HBF:=hid (HBr.out.drew.trans b9);clear hHeld hs9 b9 f9 k9 q1 q2 q3 c6;go_wp2
   go_roundw
   case rel=>exact⟨k+1,j+3,A9,d9,by omega,by have:=HJ.out;omega,by go_num,rfl,by rw[HTK.out,zl5];exact HF.out,HBF.out⟩
   case measure=>simp[RowKit.intOf];omega
  ·obtain rfl:p=k:=by omega
   have hpl:=zhJ p ns (by rw[HNL.out,HP.out]);obtain⟨ts9,hts⟩:∃z,zb1 ns=z:=⟨_,rfl⟩
   rw[hts] at hpl HS;have HS2:=hid (show Sl wr w.heap.size wr.heap.size 140 3 A' p d' (its ts9) by have h:=HS.out;rwa[List.take_of_length_le (by omega)] at h);have HAN:=hid (show queueC d ns=⟨d,[zab (zaI (srvC ts9).1)],(srvC ts9).2⟩ by rw[HXF.out,hts]);have hjn:¬(j:Int)<nn:=by have:=HP.out;have:=HJ.out;omega
   have hp9:p<=1048576:=by have:=HP.out;omega
   clear hts hpl HS
   go_wp2_with fail
   refine(zld A' p d' wr.heap.size ts9 wr (HS2.out.reads lr) lr hp9).mono ?_;rintro e w5 ⟨A5,m5,d5,rfl,s5,b5⟩;have HB5:=hid (zac HBr.out b5 lr);have HS5:=hid s5;clear s5 b5 c6;have HSD:=hid (XI.out.st.on HB5.out);have HMV:=hid (Mv.below (g:=g) (A:=A) HB5.out);have HLO:=hid (Nat.le_trans XI.out.low HB5.out.size);have HCD:=hid (show 0<=(srvC ts9).2/\(srvC ts9).2<=10 by have:=zpm ts9;omega);have HWB:=hid (zle ts9);have HWL:=hid (zjy ts9);obtain⟨v1,hv1⟩:∃z,(srvC ts9).1=z:=⟨_,rfl⟩
   obtain⟨v2,hv2⟩:∃z,(srvC ts9).2=z:=⟨_,rfl⟩
   rw[hv1] at HS5 HWB HWL HAN;rw[hv2] at HCD HAN⊢;clear hv1 hv2;have hm5:m5<=1048576:=by have h1:=zai (HS5.out.reads lr);have h2:=HWL.out;omega
   by_cases hc:v2=0
   ·subst hc
    go_wp2_with fail
    refine(zeL g w5).mono ?_;rintro e w6 ⟨rfl,hw⟩;rw[<-hw];clear hw w6
    go_wp2_with fail
    refine(zfy lo g _ A n c ls A5 m5 d5 w5.heap.size v1 w5 HSD.out.says (HS5.out.reads lr) lr HLO.out (by have:=XI.out.nl;omega) hm5 HWB.out).mono ?_;rintro e w7 ⟨rfl,A',c',hs⟩;have HSS:=hid ((HSD.out.out hs).after HMV.out);clear hs;go_wp2;go_end0;exact⟨rfl,out0 HSS.out HAN.out⟩
   ·skip
    go_wp2_with fail
    refine(zcq HSD.out.says (Nat.le_trans XI.out.low HMV.out.off.size) XI.out.nl HCD.out.1 HCD.out.2 hc).mono ?_;rintro e w6 ⟨rfl,A',c',hs⟩;have HSS:=hid ((HSD.out.out hs).after HMV.out);clear hs;go_wp2;go_end0;exact⟨rfl,outE HSS.out (by rw[HAN.out]) hc⟩
theorem znl {w:World} {lo g:Nat} {h:DkH} {d:Dk} {A:Option Addr} {n c:Nat} {ls:List ByteArray} {NA:Option Addr} {nn nc:Nat} {ns:List Int} {TA:Option Addr} {tn tc:Nat} {ts:List ByteArray} (x:StI w lo g h d A n c ls NA nn nc ns TA tn tc ts) (hn:1 <= nn) :
  Calls prog 112 #[.pointer (some ⟨g,0,none⟩)] w fun e w'=>e= .returned (.tuple #[])/\zbY w w' lo g A (ansD d (zcF d ns)) (ls++ansL (zcF d ns)):=by
 have XI:=hid x;obtain⟨c0,c1,c2,c3,c4,c5,c6,c7⟩:=x.st.cells;obtain⟨n0,bn0,on0,hn0,hNA0,_,q0⟩:=zax x.nums.1 (k:=0) (by omega);subst hNA0;rw[Nat.add_zero] at q0;have HN0:=hid (show zal ns 0=n0 by unfold zal;rw[List.getD_eq_getElem?_getD,hn0];rfl);have hi0:0<nn:=by omega
 have hnl:=zai XI.out.nums.1;have HXS:=hid (show zcF d ns=if nn%2=0 then ⟨d,[],7⟩ else ⟨d,[zab (zaI (zbJ (za5 n0 (zaW (ns.drop 1))).1))],(za5 n0 (zaW (ns.drop 1))).2⟩ by rw[zcF,HN0.out,hnl]);have HNL:=hid hnl;have acc0:=Acc.made w 132 2;have HS0:=hid (acc0.sl (lo:=w.heap.size) lr lr);have HB0:=hid (acc0.below (B:=w.heap.size) lr lr);have C6:=hid c6;have Q0:=hid q0;have hnn9:=XI.out.nnl;clear x hn0 acc0 hnl c0 c1 c2 c3 c4 c5 c7;by_cases hpar:nn%2=0
 ·have HAN:=hid (show zcF d ns=⟨d,[],7⟩ by rw[HXS.out,if_pos hpar])
  have hp3:((nn:Int)%2==0)=true:=by
   rw[beq_iff_eq];omega
  have HSD:=hid XI.out.st;have HMV:=hid (Mv.refl g w A);have hc:¬(7:Int)=0:=by decide
  have HCD:=hid (show(0:Int)<=7/\(7:Int)<=10 by decide);clear hpar;go_enter func112,ntmps112
  go_wp2_with fail
  refine(zcq HSD.out.says (Nat.le_trans XI.out.low HMV.out.off.size) XI.out.nl HCD.out.1 HCD.out.2 hc).mono ?_;rintro e w6 ⟨rfl,A',c',hs⟩;have HSS:=hid ((HSD.out.out hs).after HMV.out);clear hs;go_wp2;refine bodyPost_ret (results_none rfl _ _ _) rfl ?_;exact⟨rfl,outE HSS.out (by rw[HAN.out]) hc⟩
 have HXF:=hid (show zcF d ns=⟨d,[zab (zaI (zbJ (za5 n0 (zaW (ns.drop 1))).1))],(za5 n0 (zaW (ns.drop 1))).2⟩ by rw[HXS.out,if_neg hpar])
 have hp3:((nn:Int)%2==0)=false:=by
  rw[beq_eq_false_iff_ne];omega
 obtain⟨p,hp⟩:∃p,nn=1+2*p:=⟨nn/2,by omega⟩
 have HP:=hid hp;clear hpar hp q0;go_enter func112,ntmps112
 go_wp2_with fail
 go_loopw [2,3] (fun o i wr=>∃(k j:Nat) (A':Option Addr) (d':Nat),k<=p/\j=1+2*k/\i= .int .i64 (j:Int)/\o= .slice A' k d'/\Sl wr w.heap.size wr.heap.size 132 2 A' k d' (tls ((zaW (ns.drop 1)).take k))/\Below w.heap.size w wr) (fun _ i _=>nn-(RowKit.intOf i).toNat)
 case atStart=>exact⟨0,1,_,_,Nat.zero_le _,rfl,rfl,rfl,HS0.out,HB0.out⟩
 case round=>
  obtain⟨k,j,A',d',hk,hj,rfl,rfl,hsl,hbel⟩:=hrel;have HS:=hid hsl;have HBr:=hid hbel;have HJ:=hid hj;have hj1:1<=j:=by omega
  have hj2:j<=1048577:=by have:=HP.out;omega
  have c6:=zaa hbel C6.out;clear hsl hbel hj;by_cases hlt:k<p
  ·have hjn:j+1<nn:=by have:=HP.out;have:=HJ.out;omega
   obtain⟨xa,ba,oa,hxa,hAa,hba,q1⟩:=zax (XI.out.nums.1.on lr HBr.out) (k:=j) (by omega);injection hAa with hAa;injection hAa with hAb hAo;subst hAb;subst hAo;obtain⟨xb,bb,ob,hxb,hBa,hbb,q2⟩:=zax (XI.out.nums.1.on lr HBr.out) (k:=j+1) (by omega);injection hBa with hBa;injection hBa with hBb hBo;subst hBb;subst hBo;have HPG:=hid (zgx k (ns.drop 1) xa xb (by rw[List.getElem?_drop,<-hxa,HJ.out]) (by rw[List.getElem?_drop,<-hxb,HJ.out];congr 1));have HTK:=hid (show(zaW (ns.drop 1)).take (k+1)=(zaW (ns.drop 1)).take k++ [(xa,xb)] by rw[List.take_add_one,HPG.out];rfl);have hj0:(0:Int)<=j:=by omega
   have hjl:(j:Int)<nn:=by omega
   have hjl2:(j:Int)+1<nn:=by omega
   have hk9:k<=1048577:=by have:=HP.out;omega
   have hz:w.heap.size<=wr.heap.size:=HBr.out.size;have hgw:=XI.out.st.glt;clear hxa hxb
   have hw1:IntKind.i64.wrap ((j:Int)+1)=((j+1:Nat):Int):=by
    unfold IntKind.wrap;simp[IntKind.bits,IntKind.signed];omega
   have hw2:(((j+1:Nat):Int)).toNat=j+1:=by omega
   have hw4:(0:Int)<=(j:Int)+1:=by omega
   go_upto_region 6 with fail
   refine ez (fun V=>V.cell? ⟨bn0,on0+j,none⟩=some (.int .i64 xa)/\V.cell? ⟨bn0,on0+(j+1),none⟩=some (.int .i64 xb)/\V.cell? ⟨g,6,none⟩=some (.slice (some ⟨bn0,on0,none⟩) nn nc)) ?_ fun hHeld=>?_
   ·exact⟨q1,q2,c6⟩
   refine dq 0 rfl (h:=dq 1 rfl (h:=dq 2 rfl (h:=dq 3 rfl (h:=dq 4 rfl (h:=dq 5 rfl (h:=dq 6 rfl (h:=dq 7 rfl (h:=?_))))))));refine dq 8 rfl (h:=dq 9 rfl (h:=dq 10 rfl (h:=dq 11 rfl (h:=dq 12 rfl (h:=dq 13 rfl (h:=dq 14 rfl (h:=dq 15 rfl (h:=?_))))))));refine dq 16 rfl (h:=?_);refine rd 17 rfl fun K hK=>?_;go_simp;refine ke hK ?_ ?_
   ·exact⟨zaa (bal _) hHeld.1,zaa (bal _) hHeld.2.1,zaa (bal _) hHeld.2.2⟩
   clear hK K hHeld;intro hHeld;refine rd 18 rfl fun K hK=>?_;refine zbH rfl _ _ 130 rfl 132 _ 2 16 underlying130 zna rfl (by decide) (by decide) HS.out.drew hz rfl (zcL (xa,xb)) wr.heap.size rfl rfl rfl (zir _) (by omega) ?_;intro A9 d9 w9 hs9 b9 f9 k9;refine ke hK ?_ ?_
   ·exact⟨(b9.cell (p:=⟨bn0,on0+j,none⟩) hbb).trans q1,(b9.cell (p:=⟨bn0,on0+(j+1),none⟩) hbb).trans q2,(b9.cell (p:=⟨g,6,none⟩) hgw).trans c6⟩
   clear hK K hHeld;intro hHeld;refine dq 19 rfl (h:=?_);refine dn ?_;have HF:=hid hs9;have HBF:=hid (HBr.out.drew.trans b9);clear hHeld hs9 b9 f9 k9 q1 q2 c6;go_wp2
   go_roundw
   case rel=>exact⟨k+1,j+2,A9,d9,by omega,by have:=HJ.out;omega,by go_num,rfl,by rw[HTK.out,<-zga];exact HF.out,HBF.out⟩
   case measure=>simp[RowKit.intOf];omega
  ·obtain rfl:p=k:=by omega
   have hpl:=zgy p (ns.drop 1) (by rw[List.length_drop,HNL.out,HP.out];omega);obtain⟨ts9,hts⟩:∃z,zaW (ns.drop 1)=z:=⟨_,rfl⟩
   rw[hts] at hpl HS;have HS2:=hid (show Sl wr w.heap.size wr.heap.size 132 2 A' p d' (tls ts9) by have h:=HS.out;rwa[List.take_of_length_le (by omega)] at h);have HAN:=hid (show zcF d ns=⟨d,[zab (zaI (zbJ (za5 n0 ts9).1))],(za5 n0 ts9).2⟩ by rw[HXF.out,hts]);have hjn:¬(j:Int)<nn:=by have:=HP.out;have:=HJ.out;omega
   have hp9:p<=1048576:=by have:=HP.out;omega
   have q0:=zaa HBr.out Q0.out;clear hts hpl HS
   go_wp2_with fail
   refine(zm2 n0 A' p d' wr.heap.size ts9 wr (HS2.out.reads lr) lr hp9).mono ?_;rintro e w6 ⟨A6,n6,d6,rfl,s6,b6⟩;have HB6:=hid (zac HBr.out b6 lr);have HR6:=hid (s6.reads lr);have HS6:=hid s6;have HWB:=hid (zio n0 ts9);have HLL:=hid (zg2 n0 ts9);have HCD:=hid (show 0<=(za5 n0 ts9).2/\(za5 n0 ts9).2<=10 by have:=zlT n0 ts9;omega);obtain⟨v1,hv1⟩:∃z,(za5 n0 ts9).1=z:=⟨_,rfl⟩
   obtain⟨v2,hv2⟩:∃z,(za5 n0 ts9).2=z:=⟨_,rfl⟩
   rw[hv1] at HR6 HWB HS6 HLL HAN;rw[hv2] at HCD HAN⊢;have HN6:=hid (zey HR6.out);clear s6 b6 hv1 hv2 q0 c6;have acc6:=Acc.made w6 2 1;have HA6:=hid (acc6.sl (lo:=w.heap.size) HB6.out.size HB6.out.size);have HB7:=hid (HB6.out.trans ((acc6.below (B:=w6.heap.size) lr lr).mono HB6.out.size));have HS7:=hid (HS6.out.on (acc6.below (B:=w6.heap.size) lr lr));have HNE:=hid (show∀b,inB A6 b->¬inB (some (⟨w6.heap.size,0,none⟩:Addr)) b from fun b hb ⟨ad,e,hh⟩=>by have h1:=(HS6.out.inB_lt hb).2;injection e with e;subst e;simp at hh;omega);have hn6:n6<=100:=by have:=HN6.out;have:=HLL.out;omega
   clear acc6
   go_wp2_with fail
   go_loopw [6,7] (fun o i wq=>∃(k:Nat) (A':Option Addr) (d':Nat),k<=n6/\i= .int .i64 (k:Int)/\o= .slice A' (2*k) d'/\Sl wq w.heap.size wq.heap.size 2 1 A' (2*k) d' (ints (zbJ (v1.take k)))/\Sl wq 0 wq.heap.size 137 2 A6 n6 d6 (tls v1)/\(∀b,inB A6 b->¬inB A' b)/\Below w.heap.size w wq) (fun _ i _=>n6-(RowKit.intOf i).toNat)
   case atStart=>exact⟨0,_,_,Nat.zero_le _,rfl,rfl,HA6.out,(HS7.out.wide (Nat.zero_le _) lr).low,HNE.out,HB7.out⟩
   case round=>
    obtain⟨k,A',d',hk,rfl,rfl,hacc,hrd,hnb,hbel⟩:=hrel
    rename World=>wq
    have HA:=hid hacc;have HR:=hid hrd;have HBq:=hid hbel;have HNB:=hid hnb;clear hacc hrd hnb hbel;have hki:(0:Int)<=k:=by omega
    by_cases hlt:k<n6
    ·obtain⟨x,b,off,he,rfl,hb,q0,q1⟩:=zi8 (HR.out.reads lr) hlt;have HE:=hid (zgR he);have hkn:(k:Int)<n6:=by omega
     have hAz:∀ad,A'=some ad->ad.block<wq.heap.size:=fun ad had=>HA.out.2 ad had;have HZ:=hid HBq.out.size;have HBB:=hid (HNB.out b ⟨_,rfl,rfl⟩);clear he hAz
     go_upto_region 12 with fail
     refine ez (fun V=>V.cell? ⟨b,off+k*2,none⟩=some (.int .i64 x.1)/\V.cell? ⟨b,off+k*2+1,none⟩=some (.int .i64 x.2)) ?_ fun hHeld=>?_
     ·exact⟨q0,q1⟩
     refine dq 0 rfl (h:=dq 1 rfl (h:=dq 2 rfl (h:=dq 3 rfl (h:=dq 4 rfl (h:=dq 5 rfl (h:=dq 6 rfl (h:=dq 7 rfl (h:=?_))))))));refine dq 8 rfl (h:=dq 9 rfl (h:=dq 10 rfl (h:=?_)));refine rd 11 rfl fun K hK=>?_;go_simp;refine ke hK ?_ ?_
     ·exact⟨zaa (bal _) hHeld.1,zaa (bal _) hHeld.2⟩
     clear hK K hHeld;intro hHeld;refine rd 12 rfl fun K hK=>?_;refine zlS rfl _ _ 29 rfl 2 _ 1 8 underlying29 zaX rfl (by decide) (by decide) (HA.out.drew.on (bal _)) (by have:=HZ.out;simp;omega) rfl wq.heap.size 0 2 2 [.int .i64 x.1,.int .i64 x.2] rfl rfl (zad.cells ((Blk.new _ _ _).readsL (xs:=[.int .i64 x.1,.int .i64 x.2]) (n:=2) (size:=1) rfl)) (fun v hv=>by simp at hv;rcases hv with rfl|rfl<;>rfl) (by decide) (by omega) ?_;intro A9 d9 w9 hs9 b9 f9 k9;refine ke hK ?_ ?_
     ·exact⟨(zej (p:=⟨b,off+k*2,none⟩) (f9 b (World.block_lt_of_cell? _ _ hHeld.1) (fun ad e hh=>HBB.out ⟨ad,e,hh⟩))).trans hHeld.1,(zej (p:=⟨b,off+k*2+1,none⟩) (f9 b (World.block_lt_of_cell? _ _ hHeld.1) (fun ad e hh=>HBB.out ⟨ad,e,hh⟩))).trans hHeld.2⟩
     clear hK K hHeld;intro hHeld;refine dq 13 rfl (h:=?_);refine dn ?_;have HS9:=hid hs9;have bA:Below wq.heap.size wq (wq.alloc (.cells #[.int .i64 x.1,.int .i64 x.2] 2)).drew:=(bal _).drew;have HB9:=hid ((zac HBq.out bA lr).trans b9);have HRA:=hid (HR.out.on bA);have HK9:=hid k9;have HO9:=hid (zb5 b9 f9);clear hHeld hs9 b9 f9 k9 q0 q1 bA;go_wp2
     go_roundw
     case rel=>
      refine⟨k+1,A9,d9,by omega,by go_num,rfl,by rw[HE.out,znd];exact HS9.out,(HRA.out.off HO9.out (fun b hb hc=>HNB.out b hb hc)).low,fun b hb hc=>?_,HB9.out⟩;obtain⟨ad,e1,e2⟩:=hc;exact HK9.out b (HRA.out.inB_heap hb) (fun ad' e' hh'=>HNB.out b hb ⟨ad',e',hh'⟩) ad e1 e2
     case measure=>simp[RowKit.intOf];omega
    ·obtain rfl:n6=k:=by omega
     have HT:=hid (show v1.take n6=v1 by rw[List.take_of_length_le (by have:=HN6.out;omega)]);have hsl:=HA.out;rw[HT.out] at hsl;have HS:=hid hsl;clear hsl;have HB5:=hid HBq.out;have HSD:=hid (XI.out.st.on HB5.out);have HMV:=hid (Mv.below (g:=g) (A:=A) HB5.out);have HLO:=hid (Nat.le_trans XI.out.low HB5.out.size);by_cases hc:v2=0
     ·subst hc
      go_wp2_with fail
      refine(zeL g wq).mono ?_;rintro e w6 ⟨rfl,hw⟩;rw[<-hw];clear hw w6
      go_wp2_with fail
      refine(zfy lo g _ A n c ls A' (2*n6) d' wq.heap.size (zbJ v1) wq HSD.out.says (HS.out.reads lr) lr HLO.out (by have:=XI.out.nl;omega) (by omega) HWB.out).mono ?_;rintro e w7 ⟨rfl,A',c',hs⟩;have HSS:=hid ((HSD.out.out hs).after HMV.out);clear hs;go_wp2;go_end0;exact⟨rfl,out0 HSS.out HAN.out⟩
     ·skip
      go_wp2_with fail
      refine(zcq HSD.out.says (Nat.le_trans XI.out.low HMV.out.off.size) XI.out.nl HCD.out.1 HCD.out.2 hc).mono ?_;rintro e w6 ⟨rfl,A',c',hs⟩;have HSS:=hid ((HSD.out.out hs).after HMV.out);clear hs;go_wp2;go_end0;exact⟨rfl,outE HSS.out (by rw[HAN.out]) hc⟩
theorem zqB{d:Dk}{ws:List ByteArray}{ns:List Int}{x:En}(hx:x=⟨zal ns 0,zag ws 2,zal ns 1⟩)(h:(zaQ d.log x).2=0):zcR d ws ns=⟨⟨d.net,d.times,d.runs,(zaQ d.log x).1⟩,[zab (itoa (zbq (zbr (zaQ d.log x).1 x.what) (zbr (zaQ d.log x).1 x.what).length))],0⟩:=by
 obtain⟨h1,_,h3⟩:=zgt h;have hn:=(zdX h3).2.2.1;subst hx;have hw:zbD (zaQ d.log ⟨zal ns 0,zag ws 2,zal ns 1⟩).1 (zag ws 2)=0:=zj8 h1 hn;unfold zcR;simp only;rw[if_neg (by rw[h];decide),hw]
theorem zqA{d:Dk}{ws:List ByteArray}{ns:List Int}{x:En}(hx:x=⟨zal ns 0,zag ws 2,zal ns 1⟩)(h:(zaQ d.log x).2≠0):zcR d ws ns=⟨d,[],(zaQ d.log x).2⟩:=by
 subst hx;unfold zcR;simp only;rw[if_pos h]
theorem zt6{w:World}{B n:Nat}{A:Option Addr}{l:List Int}(h:zad w B 1 A n (ints l)):zbq l n=zbq l l.length:=by rw[zai h]
theorem znj {w:World} {lo g:Nat} {h:DkH} {d:Dk} {A:Option Addr} {n c:Nat} {ls:List ByteArray} {NA:Option Addr} {nn nc:Nat} {ns:List Int} {TA:Option Addr} {tn tc:Nat} {ts:List ByteArray} (x:StI w lo g h d A n c ls NA nn nc ns TA tn tc ts) (hn:2 <= nn) (ws:List ByteArray) (s2:ByteArray) (ht0:ts[0]? = some s2) (hw2:zag ws 2 = s2) :
  Calls prog 104 #[.pointer (some ⟨g,0,none⟩)] w fun e w'=>e= .returned (.tuple #[])/\zbY w w' lo g A (ansD d (zcR d ws ns)) (ls++ansL (zcR d ws ns)):=by
 have XI:=hid x;obtain⟨c0,c1,c2,c3,c4,c5,c6,c7⟩:=x.st.cells;obtain⟨n0,bn0,on0,hn0,hNA0,_,q0⟩:=zax x.nums.1 (k:=0) (by omega);subst hNA0;rw[Nat.add_zero] at q0;have HN0:=hid (show zal ns 0=n0 by unfold zal;rw[List.getD_eq_getElem?_getD,hn0];rfl);have hb0_:=x.nb n0 (List.mem_of_getElem? hn0);obtain⟨n1,bn1,on1,hn1,hNA1,_,q1⟩:=zax x.nums.1 (k:=1) (by omega);injection hNA1 with hNA1;injection hNA1 with hNb1 hNo1;subst hNb1;subst hNo1;have HN1:=hid (show zal ns 1=n1 by unfold zal;rw[List.getD_eq_getElem?_getD,hn1];rfl);have hb1_:=x.nb n1 (List.mem_of_getElem? hn1);have hi0:0<nn:=by omega
 have hii1:(1:Int)<nn:=by omega
 have htn:0<tn:=by
  have h1:=x.texts.1.1;rw[za6] at h1;have h2:=(List.getElem?_eq_some_iff.1 ht0).1;omega
 obtain⟨s,b0,o0,hs0,hTA,hb0,k0⟩:=zaP x.texts.1 htn;subst hTA;rw[Nat.add_zero] at k0;have hbs:=x.tb s (List.mem_of_getElem? hs0);obtain rfl:s2=s:=by rw[ht0] at hs0;injection hs0
 have hl9:=x.st.small.log;clear x hn0 hn1 hs0 ht0;go_enter func104,ntmps104
 go_wp2_with fail
 refine ez (fun V=>Below w.heap.size w V) ?_ fun hHeld=>?_
 ·exact(Below.refl _ _).drew
 refine dq 0 rfl (h:=dq 1 rfl (h:=dq 2 rfl (h:=dq 3 rfl (h:=dq 4 rfl (hy:=by intro w hSw;(try dsimp only at hSw);(have y4:=zaa hSw c4);(try have z2:=zaa hSw q2);go_simp;try with_reducible rfl) (h:=dq 5 rfl (h:=dq 6 rfl (h:=dq 7 rfl (h:=?_))))))))
 refine dq 8 rfl (hy:=by intro w hSw;(try dsimp only at hSw);(have y6:=zaa hSw c6);(try have z2:=zaa hSw q2);go_simp;try with_reducible rfl) (h:=dq 9 rfl (h:=dq 10 rfl (hy:=by intro w hSw;(try dsimp only at hSw);(try have z0:=zaa hSw q0);(try have z2:=zaa hSw q2);go_simp;try with_reducible rfl) (h:=dq 11 rfl (h:=dq 12 rfl (h:=dq 13 rfl (h:=dq 14 rfl (hy:=by intro w hSw;(try dsimp only at hSw);(have y7:=zaa hSw c7);(try have z2:=zaa hSw q2);go_simp;try with_reducible rfl) (h:=dq 15 rfl (h:=?_))))))))
 refine dq 16 rfl (hy:=by intro w hSw;(try dsimp only at hSw);(try have z2:=zaa hSw q2);(try have zk:=zaa hSw k0);go_simp;try with_reducible rfl) (h:=dq 17 rfl (h:=dq 18 rfl (h:=dq 19 rfl (h:=dq 20 rfl (hy:=by intro w hSw;(try dsimp only at hSw);(have y6:=zaa hSw c6);(try have z2:=zaa hSw q2);go_simp;try with_reducible rfl) (h:=dq 21 rfl (h:=dq 22 rfl (hy:=by intro w hSw;(try dsimp only at hSw);(try have z1:=zaa hSw q1);(try have z2:=zaa hSw q2);go_simp;try with_reducible rfl) (h:=dq 23 rfl (h:=?_))))))));refine rd 24 rfl fun K hK=>?_;go_simp;refine(zjv d.log ⟨n0,s2,n1⟩ _ hl9 ⟨hb0_,by show s2.size<=9223372036854775807;omega,hb1_⟩ (by show s2.size<=1048576;exact hbs)).mono ?_
 rintro e w5 ⟨rfl,b5⟩
 go_wp2_with fail
 refine ke hK ?_ ?_
 ·exact zac hHeld b5 lr
 clear hK K hHeld;intro hHeld;refine dq 25 rfl (h:=dq 26 rfl (h:=dq 27 rfl (h:=dq 28 rfl (h:=dq 29 rfl (h:=?_)))));refine dn ?_;have HB5:=hid hHeld;have HSD:=hid (XI.out.st.on hHeld);have HMV:=hid (Mv.below (g:=g) (A:=A) hHeld);have hTX:=XI.out.texts.mv (Mv.below (g:=g) (A:=A) hHeld);have k5:=zaa hHeld k0;clear hHeld c0 c1 c2 c3 c4 c5 c6 c7 k0;have HEQ:=hid (show(⟨n0,s2,n1⟩:En)=⟨zal ns 0,zag ws 2,zal ns 1⟩ by rw[HN0.out,HN1.out,hw2]);have HCD:=hid (show 0<=(zaQ d.log ⟨n0,s2,n1⟩).2/\(zaQ d.log ⟨n0,s2,n1⟩).2<=10 by have:=zm9 d.log ⟨n0,s2,n1⟩;omega);by_cases hc:(zaQ d.log ⟨n0,s2,n1⟩).2=0;rotate_left
 ·have HAN:=hid (zqA HEQ.out hc);obtain⟨v1,hv1⟩:∃z,(zaQ d.log ⟨n0,s2,n1⟩).1=z:=⟨_,rfl⟩
  obtain⟨v2,hv2⟩:∃z,(zaQ d.log ⟨n0,s2,n1⟩).2=z:=⟨_,rfl⟩
  rw[hv2] at HCD HAN hc⊢;rw[hv1];clear hv1 hv2 k5 hTX
  go_wp2_with fail
  refine(zcq HSD.out.says (Nat.le_trans XI.out.low HMV.out.off.size) XI.out.nl HCD.out.1 HCD.out.2 hc).mono ?_;rintro e w6 ⟨rfl,A',c',hs⟩;have HSS:=hid ((HSD.out.out hs).after HMV.out);clear hs;go_wp2;refine bodyPost_ret (results_none rfl _ _ _) rfl ?_;exact⟨rfl,outE HSS.out (by rw[HAN.out]) hc⟩
 have HAN:=hid (zqB HEQ.out hc);have HCF:=hid (zgt hc).1;have HSZ:=hid (zj9 d.log ⟨n0,s2,n1⟩);obtain⟨v1,hv1⟩:∃z,(zaQ d.log ⟨n0,s2,n1⟩).1=z:=⟨_,rfl⟩
 rw[hv1] at HAN HCF HSZ⊢;rw[hc];have HVB:=hid (zj4 v1 s2);have hsz1:=HSZ.out;clear hv1 hc HCD
 go_wp2_with fail
 refine(zeL g w5).mono ?_;rintro e w6 ⟨rfl,hw⟩;rw[<-hw];clear hw w6;have f4:=HSD.out.says.blk.frozen 4;have K5:=hid k5;have HTX:=hid hTX;obtain⟨c0,c1,c2,c3,c4,c5,c6,c7⟩:=HSD.out.cells;clear k5 hTX
 go_upto_region 3 with fail
 have ho6:Off (fun b=>b=g) w (w5.setCell ⟨g,4,none⟩ (.string v1)):=(Off.of_below HB5.out (fun b=>b=g)).setCell (p:=⟨g,4,none⟩) rfl _;have ho7:Off (fun b=>b=g) w5 (w5.setCell ⟨g,4,none⟩ (.string v1)):=(Off.refl (fun b=>b=g) _).setCell (p:=⟨g,4,none⟩) rfl _;have hb6:=HSD.out.says.blk.set_ 4 (.string v1);obtain⟨w6,hw6⟩:∃y,w5.setCell ⟨g,4,none⟩ (.string v1)=y:=⟨_,rfl⟩
 rw[hw6] at ho6 ho7 hb6⊢;have hmv6:Mv g w w6 A A:=Mv.ofg ho6;have hmv7:Mv g w5 w6 A A:=Mv.ofg ho7;have hok6:okDk ⟨d.net,d.times,d.runs,v1⟩=true:=zdW (zaT XI.out.st.ok).1 (zaT XI.out.st.ok).2.1 HCF.out
 have hst6:StD w6 lo g h ⟨d.net,d.times,d.runs,v1⟩ A n c ls (.slice (some ⟨bn0,on0,none⟩) nn nc) (.slice (some ⟨b0,o0,none⟩) tn tc):=
  HSD.out.turn ho7 hb6 (HSD.out.tubes.mv hmv7) (HSD.out.times.mv hmv7) (HSD.out.runs.mv hmv7) hok6
 have k6:w6.cell? ⟨b0,o0,none⟩=some (.string s2):=(zej (p:=⟨b0,o0,none⟩) (hmv7.off.block b0 (World.block_lt_of_cell? w5 _ K5.out) (fun e9=>HTX.out.2 htn b0 ⟨_,rfl,rfl⟩ (.inl e9)))).trans K5.out;have HS6:=hid hst6;have HM6:=hid hmv6;clear hw6 ho6 ho7 hb6 hmv7 f4 c0 c1 c2 c3 c4 c5 c6 c7 hok6;obtain⟨c0,c1,c2,c3,c4,c5,c6,c7⟩:=hst6.cells;clear hst6 hmv6
 go_wp2_with fail
 refine(zjx v1 s2 w6 (by omega) hbs).mono ?_;rintro e w7 ⟨A7,m7,d7,rfl,s7,b7⟩;have HR7:=hid (s7.reads lr);have HS7:=hid (HS6.out.on b7);have HM7:=hid (HM6.out.trans (Mv.below b7));clear b7 s7 k6 c0 c1 c2 c3 c4 c5 c6 c7;have hm7:m7<=4000:=by have h1:=zai HR7.out;have h2:=HVB.out.2;omega
 have HSL:=hid (zt6 HR7.out);have hsb:=zgr HVB.out.1 m7
 go_wp2_with fail
 refine(zpG A7 m7 d7 w7.heap.size (zbr v1 s2) w7 HR7.out (by omega) (fun x hx=>by have:=HVB.out.1 x hx;omega)).mono ?_;rintro e w8 ⟨rfl,hw⟩;rw[<-hw];clear hw w8;obtain⟨sm,hsm⟩:∃z,zbq (zbr v1 s2) m7=z:=⟨_,rfl⟩
 rw[hsm] at HSL hsb⊢;clear hsm
 go_wp2_with fail
 refine(zbj sm w7 (by omega) (by omega)).mono ?_;rintro e w8 ⟨rfl,b8⟩;have HS8:=hid (HS7.out.on b8);have HM8:=hid (HM7.out.trans (Mv.below b8));clear b8
 go_wp2_with fail
 refine(zbR lo g _ A n c ls (zab (itoa sm)) w8 HS8.out.says (Nat.le_trans XI.out.low HM8.out.off.size) (by have:=XI.out.nl;omega)).mono ?_;rintro e w9 ⟨rfl,A',c',hs⟩;have HSS:=hid ((HS8.out.out hs).after HM8.out);clear hs;go_wp2;go_end0;exact⟨rfl,out0 HSS.out (by rw[HAN.out,HSL.out])⟩
theorem zpJ {w:World} {lo g:Nat} {h:DkH} {d:Dk} {A:Option Addr} {n c:Nat} {ls:List ByteArray} {NA:Option Addr} {nn nc:Nat} {ns:List Int} {TA:Option Addr} {tn tc:Nat} {ts:List ByteArray} (x:StI w lo g h d A n c ls NA nn nc ns TA tn tc ts) :
  Calls prog 106 #[.pointer (some ⟨g,0,none⟩)] w fun e w'=>e= .returned (.tuple #[])/\zbY w w' lo g A (ansD d (logC d)) (ls++ansL (logC d)):=by
 have XI:=hid x;obtain⟨c0,c1,c2,c3,c4,c5,c6,c7⟩:=x.st.cells;clear x;go_enter func106,ntmps106;have hcf:=(zaT XI.out.st.ok).2.2
 go_wp2_with fail
 refine(zdb d.log w XI.out.st.small.log).mono ?_;rintro e w5 ⟨g5,rfl,hrec,b5⟩;obtain⟨A5,n5,d5,y5,s5,ne5,hlo5⟩:=hrec hcf;have HB5:=hid b5;have HR5:=hid (s5.reads lr);have HY5:=hid y5;have HOK:=hid (zeM d.log).ok;have HLN:=hid (zek hcf);have hln:=zoP (s5.reads lr);have hn5:n5<=4000:=by have:=HLN.out;omega
 have HL5:=hid hln;rw[hcf];obtain⟨L,hL⟩:∃z,(logR d.log).list=z:=⟨_,rfl⟩
 have HAN:=hid (show logC d=⟨d,okL (L.map entW),0⟩ by rw[logC,hL]);rw[hL] at HR5 HOK HLN HL5;have acc0:=Acc.made w5 9 1;have HS0:=hid (acc0.sl (lo:=w5.heap.size) lr lr);have HB0:=hid (acc0.below (B:=w5.heap.size) lr lr);clear hcf hrec b5 y5 s5 ne5 hlo5 hln hL acc0 c0 c1 c2 c3 c4 c5 c6 c7
 go_wp2_with fail
 go_loopw [4,5] (fun o i wr=>∃(k:Nat) (A':Option Addr) (d':Nat),k<=n5/\i= .int .i64 (k:Int)/\o= .slice A' k d'/\Sl wr w5.heap.size wr.heap.size 9 1 A' k d' (strs ((L.map entW).take k))/\Below w5.heap.size w5 wr) (fun _ i _=>n5-(RowKit.intOf i).toNat)
 case atStart=>exact⟨0,_,_,Nat.zero_le _,rfl,rfl,HS0.out,HB0.out⟩
 case round=>
  obtain⟨k,A',d',hk,rfl,rfl,hsl,hbel⟩:=hrel;have HS:=hid hsl;have HBr:=hid hbel;have p3:=(HY5.out.on hbel).cellAt 3 (by simp);simp only[ly] at p3;clear hsl hbel;have hk0:(0:Int)<=k:=by omega
  by_cases hlt:k<n5
  ·obtain⟨x,b,off,he,rfl,hb,q0,q1,q2⟩:=zgN (HR5.out.on lr HBr.out) hlt;have hkn:(k:Int)<n5:=by omega
   have hxo:=HOK.out x (List.mem_of_getElem? he);have HTK:=hid (show(L.map entW).take (k+1)=(L.map entW).take k++ [entW x] by rw[List.take_add_one,List.getElem?_map,he];rfl);have HWC:=hid (zkY x b (off+k*3) wr (zfk hxo) (zhb hxo) q0 q1 q2);clear he q0 q1 q2 hxo
   go_wp2_with fail
   refine HWC.out.mono ?_;rintro e w6 ⟨rfl,b6⟩;have HB6:=hid (zac HBr.out b6 lr);have HS6:=hid (HS.out.on b6).low;have HTK2:=hid (show strs ((L.map entW).take k)++ [.string (zau x)]=strs ((L.map entW).take (k+1)) by rw[HTK.out];simp[strs,zjF]);obtain⟨wx,hwx⟩:∃z,zau x=z:=⟨_,rfl⟩
   rw[hwx] at HTK2⊢;have hz6:w5.heap.size<=w6.heap.size:=HB6.out.size;clear b6 hwx p3
   go_wp2_with (at_builtin;refine zat rfl _ _ 24 rfl 9 _ 1 16 underlying24 zbu rfl (by decide) (by decide) HS6.out hz6 rfl [.string wx] w6.heap.size rfl rfl rfl (fun u hu=>by simp at hu;subst hu;rfl) (by omega) ?_;intro A2 d2 w9 hs9 b9 z9 f9 k9;have HS9:=hid hs9;have HB9:=hid (HB6.out.trans b9);clear hs9 b9 z9 f9 k9)
   go_roundw
   case rel=>exact⟨k+1,A2,d2,by omega,by go_num,rfl,by rw[<-HTK2.out];exact HS9.out,HB9.out⟩
   case measure=>simp[RowKit.intOf];omega
  ·obtain rfl:k=n5:=by omega
   have HT:=hid (show(L.map entW).take k=L.map entW by rw[List.take_of_length_le (by rw[List.length_map];have:=HL5.out;omega)]);have HSX:=hid (show zad wr wr.heap.size 1 A' k (strs (L.map entW)) by have h9:=HS.out.reads lr;rwa[HT.out] at h9);have HBW:=hid (zac HB5.out HBr.out lr);have HSD:=hid (XI.out.st.on HBW.out);have HMV:=hid (Mv.below (g:=g) (A:=A) HBW.out)
   go_wp2_with fail
   refine(ziK lo g _ A n c ls A' k d' wr.heap.size (L.map entW) wr HSD.out.says HSX.out (Nat.le_trans XI.out.low HBW.out.size) (by have:=XI.out.nl;omega) (by omega) (by have:=XI.out.nl;omega)).mono ?_;rintro e w7 ⟨rfl,A9,c9,hs⟩;have HSS:=hid ((HSD.out.out hs).after HMV.out);clear hs;go_wp2;go_end0;exact⟨rfl,out0 HSS.out HAN.out⟩
end
end Go.Proofs.YtjalgpioklcbfaaGreatDoor
