/- Steps of the proof. -/
import Derived.Test.YtjalgpioklcbfaaGreatDoorKEsU
set_option maxHeartbeats 4000000
set_option linter.unusedVariables false
set_option linter.unusedSimpArgs false
set_option maxRecDepth 100000
namespace Go.Proofs.YtjalgpioklcbfaaGreatDoor
section
open Go.RowKit Go.Lib Go.Proofs.Tryz
theorem zjw (Q:Option Addr) (m d:Nat) (ts:List Int) (RA:Option Addr) (rn rc:Nat) (rs:List Rn) (A:Option Addr) (n c B:Nat) (way:List Int) (a:Int) (w:World) (ht:zad w B 1 Q m (ints ts)) (hr:zaC w B RA rn rs) (h:zad w B 1 A n (ints way)) (hB:B <= w.heap.size) (hm:m <= 1048576) (hrn:rn <= 1048576) (hsm:zbM rs) (hn:n <= 1048576) :
  Calls prog 182 #[.slice Q m d,.slice RA rn rc,.slice A n c,.int .i64 a] w fun e w'=>e= .returned (.tuple #[.int .i64 (earlF ts rs way a).1,.int .i64 (earlF ts rs way a).2])/\Below w.heap.size w w':=by
 have HRT:=hid ht;have HRR:=hid hr;have HR:=hid h;have HOKC:=hid (zgk Q m d B ts RA rn rc rs w ht hr hm hrn hsm);have HWYC:=hid (zkd Q m d ts hm (zai ht) A n c B way w h hn);clear ht hr h hsm;go_enter func182,ntmps182
 go_wp2_with fail
 refine HOKC.out.mono ?_;rintro e w1 ⟨rfl,hw⟩;rw[<-hw];clear hw w1;rcases e1:zap ts rs with _|_
 ·have HO:=hid (zkP (way:=way) (a:=a) e1);go_wp2;go_ret2;exact⟨by rw[HO.out];rfl,Below.refl _ _⟩
 have H1:=hid e1;clear e1
 go_wp2_with fail
 refine HWYC.out.mono ?_;rintro e w2 ⟨rfl,hw⟩;rw[<-hw];clear hw w2;rcases e2:zaN ts way with _|_
 ·have HO:=hid (zg7 (way:=way) (a:=a) H1.out (by rw[e2];rfl));go_wp2;go_ret2;exact⟨by rw[HO.out];rfl,Below.refl _ _⟩
 have H2:=hid e2;clear e2
 go_wp2_with fail
 refine(zdl _ _).mono ?_;rintro e w3 ⟨rfl,hw⟩;rw[<-hw];clear hw w3;rcases e3:inR a 0 100000 with _|_
 ·have HO:=hid (zg7 (way:=way) (a:=a) H1.out (by rw[H2.out,e3];rfl));go_wp2;go_ret2;exact⟨by rw[HO.out];rfl,Below.refl _ _⟩
 have HO:=hid (zkQ (way:=way) (a:=a) H1.out (by rw[H2.out,e3];rfl));have hab:=zam.1 e3;have HEI:=hid (zeE H1.out H2.out a).1;clear e3
 go_wp2_with fail
 refine(zkb Q m d ts RA rn rc rs A n c B way a w HRT.out HRR.out HR.out hB H1.out H2.out hab.1 hab.2).mono ?_;rintro e w4 ⟨rfl,b4⟩;have HB4:=hid b4;obtain⟨E,hE⟩:∃z,earl ts rs way a=z:=⟨_,rfl⟩
 rw[hE] at HO HEI⊢;clear b4 hE
 go_wp2_with fail
 refine(zdl _ _).mono ?_;rintro e w5 ⟨rfl,hw⟩;rw[<-hw];clear hw w5;by_cases hlt:100000<E
 ·have hi:inR E 0 100000=false:=by rw[<-Bool.not_eq_true,zam];omega
  have HP:=hid (show earlF ts rs way a=(0,5) by rw[HO.out,if_pos hlt]);rw[hi];clear hi hlt;go_wp2;go_ret2;exact⟨by rw[HP.out];rfl,HB4.out⟩
 ·have hi:inR E 0 100000=true:=by rw[zam];have:=HEI.out;omega
  have HP:=hid (show earlF ts rs way a=(E,0) by rw[HO.out,if_neg hlt]);rw[hi];clear hi hlt;go_wp2;go_ret2;exact⟨by rw[HP.out];rfl,HB4.out⟩
theorem zjm:(prog.info? 137).map (fun i=>(i.zero,i.size,i.bytes))=some (some (.agg #[.int .i64 0,.int .i64 0]),2,16):=by kernel_rfl
def letV(s:Sn):Int:=if s.a0=true then 48 else if s.a1=true then 49 else if s.l0=true/\s.l1=true then 119 else if s.l0=true then 97 else if s.l1=true then 98 else 63
theorem ziM(s:Sn)(w:World):
 Calls prog 218 #[.agg #[.bool s.l0,.bool s.l1,.bool s.a0,.bool s.a1]] w fun e w'=>e= .returned (.int .u8 (letV s))/\Below w.heap.size w w':=zpO s w
theorem zth{s:Sn}(h0:s.a0=false)(h1:s.a1=false):(letV s==48)=false/\(letV s==49)=false:=by
 obtain⟨l0,l1,a0,a1⟩:=s;simp only at h0 h1;subst h0;subst h1
 cases l0<;>cases l1<;>exact⟨rfl,rfl⟩
theorem zib:∀(l:List Sn) (i k:Nat) (s:Sn),l[k]?=some s->outI (l.take (k+1)) i=outI (l.take k) i++(if s.a0=true then [(((i+k:Nat):Int),0)] else if s.a1=true then [(((i+k:Nat):Int),1)] else [])
 | [],i,k,s,h=>by simp at h
 |x::l,i,0,s,h=>by
  simp at h;subst h;simp[outI]
 |x::l,i,k+1,s,h=>by
  rw[List.take_succ_cons,List.take_succ_cons,outI,outI,zib l (i+1) k s (by simpa using h),List.append_assoc,show i+1+k=i+(k+1) by omega]
def za5(D:Int)(ts:List Tl):List Tl×Int:=
 if okTr D ts=false then ([],1) else if (zaO D.toNat ts).any zbw=true then ([],9) else (outI (zaO D.toNat ts) 0,0)
theorem zb5{w w':World}{A:Option Addr}{lo:Nat}(b:Below lo w w')(f:∀g,g<w.heap.size->(∀ad,A=some ad->ad.block≠g)->w'.heap[g]?=w.heap[g]?):Off (inB A) w w':=
 ⟨b.os,b.tape,b.output,b.size,fun k hk hn=>f k hk fun ad e he=>hn ⟨ad,e,he⟩⟩
theorem zmm (D:Int) (A:Option Addr) (n c B:Nat) (l:List Tl) (w:World) (h:zad w B 2 A n (tls l)) (hB:B <= w.heap.size) (hn:n <= 1048576) :
  Calls prog 156 #[.int .i64 D,.slice A n c] w fun e w'=>∃A' q' d' v,e= .returned (.tuple #[.slice A' q' d',v,.int .i64 (za5 D l).2])/\Sl w' w.heap.size w'.heap.size 137 2 A' q' d' (tls (za5 D l).1)/\Below w.heap.size w w':=by
 have HR:=hid h;clear h;go_enter func156,ntmps156
 go_wp2_with fail
 refine(zkD D A n c l B w HR.out hB hn).mono ?_;rintro e w1 ⟨rfl,b1⟩;have HB1:=hid b1;clear b1;rcases e1:okTr D l with _|_
 ·have HO:=hid (show za5 D l=([],1) by unfold za5;rw[if_pos e1]);go_wp2;go_ret3;exact⟨none,0,0,_,by rw[HO.out];rfl,by rw[HO.out];exact Sl.nil _ _ _ _ _,HB1.out⟩
 have hD:1<=D/\D<=4:=by
  unfold okTr at e1;rw[Bool.and_eq_true] at e1;exact zam.1 e1.1
 obtain⟨d,hd⟩:=Int.eq_ofNat_of_zero_le (show 0<=D by omega);subst hd;have H1:=hid e1;clear e1
 go_wp2_with fail
 refine(zqa d A n c B l w1 (HR.out.on hB HB1.out) (Nat.le_trans hB HB1.out.size) H1.out).mono ?_;rintro e w2 ⟨g,rfl,y2,hg,b2⟩;have HB2:=hid (zac HB1.out b2 lr);have HY2:=hid y2;have HL:=hid (zeu d l)
 have hN:2^d<=16:=by
  have:d=1\/d=2\/d=3\/d=4:=by omega
  rcases this with rfl|rfl|rfl|rfl<;>decide
 have HS1:=hid (show za5 (d:Int) l=if (zaO d l).any zbw=true then ([],9) else (outI (zaO d l) 0,0) by unfold za5;rw[if_neg (by rw[H1.out];decide),Int.toNat_natCast]);clear b2 y2 hg hD;obtain⟨N,hNe⟩:∃N,2^d=N:=⟨_,rfl⟩
 rw[hNe] at HL hN⊢;obtain⟨sl,hsl⟩:∃z,zaO d l=z:=⟨_,rfl⟩
 rw[hsl] at HL HY2 HS1⊢;clear hNe hsl;rcases e2:sl.any zbw with _|_;rotate_left
 ·have HO:=hid (show za5 (d:Int) l=([],9) by rw[HS1.out,if_pos e2]);go_wp2;go_ret3;exact⟨none,0,0,_,by rw[HO.out];rfl,by rw[HO.out];exact Sl.nil _ _ _ _ _,HB2.out⟩
 have HO:=hid (show za5 (d:Int) l=(outI sl 0,0) by rw[HS1.out,if_neg (by rw[e2];decide)]);clear e2
 go_upto_region 6 with fail
 have s9:=((Acc.made w2 137 2).sl (lo:=w2.heap.size) lr lr)
 have s10:=((Acc.made (w2.alloc (.cells #[] 137)) 5 1).sl (lo:=w2.heap.size+1) (by simp) (by simp))
 rw[show(w2.alloc (.cells #[] 137)).heap.size=w2.heap.size+1 by simp] at s10;have HZ1:=hid (s9.on ((Below.refl _ _).alloc lr (.cells #[] 5))).low;have HZ2:=hid (s10.wide (lo':=w2.heap.size) (by omega) lr);have HBz:=hid (((Below.refl w2.heap.size w2).alloc lr (.cells #[] 137)).alloc (by simp) (.cells #[] 5));clear s9 s10
 go_wp2_with fail
 go_loopw [9,10,29] (fun o p i wr=>∃(k:Nat) (A1:Option Addr) (q1 d1:Nat) (A2:Option Addr) (q2 d2:Nat) (ys:List Value),k<=N/\i= .int .i64 (k:Int)/\o= .slice A1 q1 d1/\p= .slice A2 q2 d2/\q1<=k/\q2<=k/\Sl wr w2.heap.size wr.heap.size 137 2 A1 q1 d1 (tls (outI (sl.take k) 0))/\Sl wr w2.heap.size wr.heap.size 5 1 A2 q2 d2 ys/\(∀b,inB A1 b->¬inB A2 b)/\Below w2.heap.size w2 wr) (fun _ _ i _=>N-(RowKit.intOf i).toNat)
 case atStart=>exact⟨0,_,_,_,_,_,_,[],Nat.zero_le _,rfl,rfl,rfl,by omega,by omega,HZ1.out,HZ2.out,fun b ⟨ad,h1,h2⟩ ⟨ad',h3,h4⟩=>by injection h1 with h1;injection h3 with h3;subst h1;subst h3;simp at h2 h4;omega,HBz.out⟩
 case round=>
  obtain⟨k,A1,q1,d1,A2,q2,d2,ys,hk,rfl,rfl,rfl,hq1,hq2,hs1,hs2,hne,hbel⟩:=hrel;have HA1:=hid hs1;have HA2:=hid hs2;have HNE:=hid hne;have HBr:=hid hbel;have HYr:=hid (HY2.out.on hbel);clear hs1 hs2 hne hbel;have hk0:(0:Int)<=k:=by omega
  by_cases hlt:k<N
  ·obtain⟨s,hs⟩:∃s,sl[k]?=some s:=⟨_,List.getElem?_eq_getElem (by rw[HL.out];exact hlt)⟩
   obtain⟨c0,c1,c2,c3⟩:=zkx HYr.out hs;have HSN:=hid (zib sl 0 k s hs);have hkn:(k:Int)<N:=by omega
   clear hs
   go_upto_region 10 with fail
   obtain⟨u,hu⟩:∃y,wr.alloc (.cells #[.bool s.l0,.bool s.l1,.bool s.a0,.bool s.a1] 252)=y:=⟨_,rfl⟩
   have yu:Blk u wr.heap.size 252 #[.bool s.l0,.bool s.l1,.bool s.a0,.bool s.a1]:=by rw[<-hu];exact Blk.new _ _ _
   have bu:Below wr.heap.size wr u:=by rw[<-hu];exact bal _
   rw[hu];have HYu:=hid yu;have p0:=yu.cellAt 0 (by simp);have p1:=yu.cellAt 1 (by simp);have p2:=yu.cellAt 2 (by simp);have p3:=yu.cellAt 3 (by simp);simp only[ly] at p0 p1 p2 p3;have HBu:=hid (HBr.out.trans (bu.mono HBr.out.size));have HAu:=hid (HA1.out.on bu).low;have HAv:=hid (HA2.out.on bu).low;clear hu yu bu c0 c1 c2 c3
   go_wp2_with fail
   refine(ziM s u).mono ?_;rintro e w4 ⟨rfl,b4⟩;have HB4:=hid (HBu.out.trans (b4.mono HBu.out.size));have HA4:=hid (HAu.out.on b4).low;have HV4:=hid (HAv.out.on b4).low;have HY4:=hid (HYu.out.on b4);have hz4:w2.heap.size<=w4.heap.size:=HB4.out.size;have HZ4:=hid (show wr.heap.size<w4.heap.size from HY4.out.lt);clear b4 p0 p1 p2 p3
   go_wp2_with (at_builtin;refine zat rfl _ _ 22 rfl 5 _ 1 1 underlying22 zi1 rfl (by decide) (by decide) HV4.out hz4 rfl [.int .u8 (letV s)] w4.heap.size rfl rfl rfl (fun u hu=>by simp at hu;subst hu;rfl) (by omega) ?_;intro A3 d3 w5 hs5 b5 z5 f5 k5;have HS5:=hid hs5;have HB5:=hid b5;have HF5:=hid f5;have HK5:=hid k5;have HZ5:=hid z5;have p0:Blk w5 wr.heap.size 252 #[.bool s.l0,.bool s.l1,.bool s.a0,.bool s.a1]:=((f5 wr.heap.size HZ4.out (fun ad had e=>by have h1:=(HA2.out.inB_lt ⟨ad,had,rfl⟩).2;rw[e] at h1;omega)).trans HY4.out);have HP5:=hid p0;have q0:=p0.cellAt 0 (by simp);have q1_:=p0.cellAt 1 (by simp);have q2_:=p0.cellAt 2 (by simp);have q3_:=p0.cellAt 3 (by simp);simp only[ly] at q0 q1_ q2_ q3_;clear hs5 b5 z5 f5 k5 p0)
   refine(ziM s w5).mono ?_;rintro e w6 ⟨rfl,b6⟩;have HO5:=hid (zb5 HB5.out HF5.out);have HN5:=hid (show∀b,inB A1 b->¬inB A3 b from fun b hb ⟨ad,e,hh⟩=>HK5.out b (HA4.out.inB_heap hb) (fun ad e hh=>HNE.out b hb ⟨ad,e,hh⟩) ad e hh);have HB6:=hid ((HB4.out.trans HB5.out).trans (b6.mono (HB4.out.trans HB5.out).size));have HA6:=hid ((HA4.out.off HO5.out HNE.out).on b6).low;have HV6:=hid ((HS5.out.on b6).low);clear b6 q0 q1_ q2_ q3_;have hz6:w2.heap.size<=w6.heap.size:=HB6.out.size;rcases h0:s.a0 with _|_
   ·rcases h1:s.a1 with _|_
    ·have hl:=zth h0 h1;have HSX:=hid (show outI (sl.take (k+1)) 0=outI (sl.take k) 0 by rw[HSN.out,h0,h1];simp);have hl1:=hl.1;have hl2:=hl.2;obtain⟨z,hz⟩:∃z,letV s=z:=⟨_,rfl⟩
     rw[hz] at hl1 hl2⊢;clear hl hz h0 h1;go_wp2
     go_roundw
     case rel=>exact⟨k+1,A1,q1,d1,A3,q2+1,d3,_,by omega,by go_num,rfl,rfl,by omega,by omega,by rw[HSX.out];exact HA6.out,HV6.out,HN5.out,HB6.out⟩
     case measure=>simp[RowKit.intOf];omega
    ·have hle:letV s=49:=by unfold letV;rw[if_neg (by rw[h0];decide),if_pos h1]
     have HSX:=hid (show outI (sl.take (k+1)) 0=outI (sl.take k) 0++ [((k:Int),1)] by rw[HSN.out,h0,h1];simp);rw[hle];clear hle h0 h1
     go_wp2_with (at_builtin;refine zat rfl _ _ 133 rfl 137 _ 2 16 underlying133 zjm rfl (by decide) (by decide) HA6.out hz6 rfl (zcL ((k:Int),1)) w6.heap.size rfl rfl rfl (zir _) (by omega) ?_;intro A7 d7 w7 hs7 b7 z7 f7 k7;have HS7:=hid hs7;have HB7:=hid b7;have HF7:=hid f7;have HK7:=hid k7;have HZ7:=hid z7;clear hs7 b7 z7 f7 k7)
     go_roundw
     case rel=>
      have hO7:=zb5 HB7.out HF7.out;refine⟨k+1,A7,q1+1,d7,A3,q2+1,d3,_,by omega,by go_num,rfl,rfl,by omega,by omega,?_,((HV6.out.off hO7 (fun b hb hc=>HN5.out b hc hb))).low,?_,HB6.out.trans HB7.out⟩
      ·rw[HSX.out,<-zga];exact HS7.out
      ·intro b hb hc;obtain⟨ad,e,hh⟩:=hb;exact HK7.out b (HV6.out.inB_heap hc) (fun ad e hh=>HN5.out b ⟨ad,e,hh⟩ hc) ad e hh
     case measure=>simp[RowKit.intOf];omega
   ·have hle:letV s=48:=by unfold letV;rw[if_pos h0]
    have HSX:=hid (show outI (sl.take (k+1)) 0=outI (sl.take k) 0++ [((k:Int),0)] by rw[HSN.out,h0];simp);rw[hle];clear hle h0
    go_wp2_with (at_builtin;refine zat rfl _ _ 133 rfl 137 _ 2 16 underlying133 zjm rfl (by decide) (by decide) HA6.out hz6 rfl (zcL ((k:Int),0)) w6.heap.size rfl rfl rfl (zir _) (by omega) ?_;intro A7 d7 w7 hs7 b7 z7 f7 k7;have HS7:=hid hs7;have HB7:=hid b7;have HF7:=hid f7;have HK7:=hid k7;have HZ7:=hid z7;clear hs7 b7 z7 f7 k7)
    go_roundw
    case rel=>
     have hO7:=zb5 HB7.out HF7.out;refine⟨k+1,A7,q1+1,d7,A3,q2+1,d3,_,by omega,by go_num,rfl,rfl,by omega,by omega,?_,((HV6.out.off hO7 (fun b hb hc=>HN5.out b hc hb))).low,?_,HB6.out.trans HB7.out⟩
     ·rw[HSX.out,<-zga];exact HS7.out
     ·intro b hb hc;obtain⟨ad,e,hh⟩:=hb;exact HK7.out b (HV6.out.inB_heap hc) (fun ad e hh=>HN5.out b ⟨ad,e,hh⟩ hc) ad e hh
    case measure=>simp[RowKit.intOf];omega
  ·obtain rfl:N=k:=by omega
   have HT:=hid (show sl.take N=sl by rw[<-HL.out,List.take_length]);go_wp2;go_ret3;exact⟨A1,q1,d1,_,by rw[HO.out];rfl,by rw[HO.out,<-HT.out];exact(HA1.out.wide HB2.out.size lr),HB2.out.trans (HBr.out.mono HB2.out.size)⟩
theorem zmt (D:Int) (A:Option Addr) (n c B:Nat) (l:List Tl) (w:World) (h:zad w B 2 A n (tls l)) (hB:B <= w.heap.size) (hn:n <= 1048576) :
  Calls prog 89 #[.int .i64 D,.slice A n c] w fun e w'=>∃A' q' d',e= .returned (.tuple #[.slice A' q' d',.int .i64 (za5 D l).2])/\Sl w' w.heap.size w'.heap.size 137 2 A' q' d' (tls (za5 D l).1)/\Below w.heap.size w w':=by
 have HC:=hid (zmm D A n c B l w h hB hn);clear h;go_enter func89,ntmps89
 go_wp2_with fail
 refine HC.out.mono ?_;rintro e w1 ⟨A',q',d',v,rfl,s1,b1⟩;have HS:=hid s1;have HB:=hid b1;clear s1 b1;go_wp2;go_ret2;exact⟨A',q',d',rfl,HS.out,HB.out⟩
theorem zov (Q:Option Addr) (m d:Nat) (ts:List Int) (RA:Option Addr) (rn rc:Nat) (rs:List Rn) (B:Nat) (tube:Int) (w:World) (ht:zad w B 1 Q m (ints ts)) (hr:zaC w B RA rn rs) (hm:m <= 1048576) (hrn:rn <= 1048576) (hsm:zbM rs) :
  Calls prog 235 #[.slice Q m d,.slice RA rn rc,.int .i64 tube] w fun e w'=>e= .returned (.int .i64 (zbC ts rs tube))/\w'=w:=by
 have HOKC:=hid (zgk Q m d B ts RA rn rc rs w ht hr hm hrn hsm);have htl:=zai ht;have HW:=hid (show wrap64 ((m:Int)-1)=(m:Int)-1 by unfold wrap64;omega);have HTL:=hid htl;clear ht hr hsm htl;rcases e1:zap ts rs with _|_
 ·have HO:=hid (show zbC ts rs tube=1 by unfold zbC;rw[if_pos e1]);rw[e1] at HOKC;clear e1;go_enter func235,ntmps235
  go_wp2_with fail
  refine HOKC.out.mono ?_;rintro e w1 ⟨rfl,hw⟩;rw[<-hw];clear hw w1;go_wp2;go_ret;exact⟨za3 HO.out.symm,rfl⟩
 rw[e1] at HOKC;rcases e2:inR tube 0 ((m:Int)-1) with _|_
 ·have HO:=hid (show zbC ts rs tube=2 by unfold zbC;rw[if_neg (by rw[e1];decide),HTL.out,if_pos e2]);clear e1;go_enter func235,ntmps235
  go_wp2_with fail
  refine HOKC.out.mono ?_;rintro e w1 ⟨rfl,hw⟩;rw[<-hw];clear hw w1
  go_wp2_with fail
  try rw[HW.out]
  refine(za2 _ _ _ _).mono ?_;rintro e w2 ⟨rfl,rfl⟩;rw[e2];clear e2;go_wp2;go_ret;exact⟨za3 HO.out.symm,rfl⟩
 ·have HO:=hid (show zbC ts rs tube=0 by unfold zbC;rw[if_neg (by rw[e1];decide),HTL.out,if_neg (by rw[e2];decide)]);clear e1;go_enter func235,ntmps235
  go_wp2_with fail
  refine HOKC.out.mono ?_;rintro e w1 ⟨rfl,hw⟩;rw[<-hw];clear hw w1
  go_wp2_with fail
  try rw[HW.out]
  refine(za2 _ _ _ _).mono ?_;rintro e w2 ⟨rfl,rfl⟩;rw[e2];clear e2;go_wp2;go_ret;exact⟨za3 HO.out.symm,rfl⟩
end
end Go.Proofs.YtjalgpioklcbfaaGreatDoor
