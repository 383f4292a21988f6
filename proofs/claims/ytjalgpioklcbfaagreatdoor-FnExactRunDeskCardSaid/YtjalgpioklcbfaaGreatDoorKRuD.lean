/- RunDesk, as the program does it. -/
import Derived.Test.YtjalgpioklcbfaaGreatDoorKExL
set_option maxHeartbeats 4000000
set_option maxRecDepth 100000
set_option linter.unusedVariables false
set_option linter.unusedSimpArgs false
namespace Go.Proofs.YtjalgpioklcbfaaGreatDoor
open Go.RowKit Go.Lib Go.Proofs.Tryz
theorem zr1(l:List ByteArray):∀u∈strs l,u.oneCell'=true:=by
 intro u hu;unfold strs at hu;obtain⟨x,_,rfl⟩:=List.mem_map.1 hu
 rfl
theorem zj0(a b:List ByteArray):strs a++strs b=strs (a++b):=by simp[strs]
theorem ziw{L:List ByteArray}(hb:∀x∈L,x.size<=33554432)(hl:L.length<=1048576)(k:Nat):(catL (L.take k)).size<=35184373137408:=by
 have h1:=zlq 33554432 (ls:=L.take k) fun x hx=>hb x (List.mem_of_mem_take hx);have h2:(L.take k).length<=1048576:=by rw[List.length_take];omega
 omega
theorem zno{s:ByteArray}(hs:s.size<=1048576):(outT s).length<=1048576/\∀x∈outT s,x.size<=33554432:=by
 have hl:∀l∈zcb s,l.size<=1048576:=fun l h=>Nat.le_trans (zfM l h) hs;unfold outT
 split
 ·rename_i h;have:=zfU hl (zcb s).length;exact⟨by omega,this.2.2⟩
 ·have:=zfU hl 60;refine⟨by rw[List.length_append,List.length_singleton];omega,fun x hx=>?_⟩;rw[List.mem_append,List.mem_singleton] at hx;rcases hx with hx|rfl
  ·exact this.2.2 x hx
  ·decide
theorem zjN (s:ByteArray) (m:Int) (w:World) (hs:s.size <= 1048576) (hm:w.cell? ⟨1,0,none⟩ = some (.int .i64 m)) (ht:TabP w) (hv:SynP w) (hc:CnP w) (hlow:4 < w.heap.size) :
  Calls prog 12 #[.string s] w fun e w'=>e= .returned (.string (runT s))/\Below w.heap.size w w':=by
 have HM0:=hid hm;have HT0:=hid ht;have HV0:=hid hv;have HC0:=hid hc;have HLOW:=hid hlow;have HSZ:=hid (fun l (h:l∈zcb s)=>Nat.le_trans (zfM l h) hs);have HOUT:=hid (zno hs);have HNL:=hid (zkf s);have hlt0:zcb s=if (zah 10 s).getLast?=some ⟨#[]⟩ then (zah 10 s).take ((zah 10 s).length-1) else zah 10 s:=rfl
 have HLT0:=hid hlt0;clear hm ht hv hc hlow hlt0;go_enter func12,ntmps12
 go_wp2_with fail
 refine(zcE s 10 m w (by omega) HM0.out).mono ?_;rintro e w1 ⟨LA,n,c,rfl,s1,b1⟩;have hsl:(zah 10 s).length=n:=by have:=s1.len;rw[za6] at this;omega
 have hn0:0<n:=by rw[<-hsl];exact List.length_pos_iff.2 (zev 10 s)
 have hnm:n<=1048577:=by
  have h1:=zc2 10 s;have h2:s.data.toList.count 10<=s.size:=by rw[<-za8 s];exact List.count_le_length
  omega
 obtain⟨sp,hsp⟩:∃z,zah 10 s=z:=⟨_,rfl⟩
 have HLT:=hid (show zcb s=if sp.getLast?=some ⟨#[]⟩ then sp.take (sp.length-1) else sp by rw[<-hsp];exact HLT0.out);rw[hsp] at s1 hsl;have HSL:=hid hsl;obtain⟨x,bl,ol,hx,rfl,hbl,k0⟩:=zaP (s1.reads lr) (k:=n-1) (by omega);have HX:=hid (show sp.getLast?=some x by rw[List.getLast?_eq_getElem?,hsl];exact hx);have HCAP:=hid (Sl.cap_ge s1);have HS1:=hid (s1.reads lr);have HB1:=hid b1;have hcap:n<=c:=HCAP.out;clear s1 b1 hsp hsl hx;obtain⟨ls,hls⟩:∃z,zcb s=z:=⟨_,rfl⟩
 have HLS:=hid hls;rw[hls] at HLT;obtain⟨nn,hnn⟩:∃z,ls.length=z:=⟨_,rfl⟩
 have HNN:=hid hnn;clear hls hnn
 have hw1:IntKind.i64.wrap ((n:Int)-1)=((n-1:Nat):Int):=by
  unfold IntKind.wrap;simp[IntKind.bits,IntKind.signed];omega
 have hi2:(0:Int)<=((n-1:Nat):Int)/\((n-1:Nat):Int)<n:=by omega
 have hi3:(((n-1:Nat):Int)).toNat=n-1:=by omega
 have hi4:((n-1:Nat):Int)<=c:=by omega
 go_upto_if 24 with fail
 go_cut [3] (fun sv wx=>(∃cc,sv= .slice (some ⟨bl,ol,none⟩) nn cc)/\wx=w1)
 case first=>as_aux_lemma=>
  rcases he:x.toList.isEmpty with _|_
  ·have hne:¬x=⟨#[]⟩:=by rintro rfl;simp[ByteArray.toList_eq] at he
   have hnn:nn=n:=by rw[<-HNN.out,HLT.out,if_neg (by rw[HX.out];exact fun h=>hne (Option.some.inj h)),HSL.out]
   clear hne;go_wp2
   go_meet
   exact⟨⟨_,by rw[hnn]⟩,rfl⟩
  ·have he2:x=⟨#[]⟩:=by
    have h0:x.toList=[]:=List.isEmpty_iff.1 he;apply ByteArray.ext;have:x.data.toList=[]:=by rw[<-ByteArray.toList_eq];exact h0
    exact Array.toList_inj.1 (by simpa using this)
   have hnn:nn=n-1:=by rw[<-HNN.out,HLT.out,if_pos (by rw[HX.out,he2]),List.length_take,HSL.out];omega
   clear he2;go_wp2
   go_meet
   exact⟨⟨_,by rw[hnn]⟩,rfl⟩
 obtain⟨⟨cc,rfl⟩,hwc⟩:=hcut;have hwc:=hwc.symm;subst hwc
 have hLR:zad w1 w1.heap.size 1 (some ⟨bl,ol,none⟩) nn (strs ls):=by
  by_cases hg:sp.getLast?=some ⟨#[]⟩
  ·have hl:ls=sp.take (sp.length-1):=by rw[HLT.out,if_pos hg]
   have hr:=HS1.out.sub (i:=0) (m:=n-1) (by omega);have hnn:nn=n-1:=by rw[<-HNN.out,hl,List.length_take,HSL.out];omega
   rw[hnn,hl];have e:((strs sp).drop 0).take (n-1)=strs (sp.take (sp.length-1)):=by rw[List.drop_zero,HSL.out];simp[strs,List.map_take]
   rw[e] at hr;exact hr
  ·have hl:ls=sp:=by rw[HLT.out,if_neg hg]
   have hnn:nn=n:=by rw[<-HNN.out,hl,HSL.out]
   rw[hnn,hl];exact HS1.out
 have HLR:=hid hLR;clear hLR k0;have hnn9:nn<=1048577:=by have:=HNL.out;rw[HLS.out,HNN.out] at this;omega
 go_wp2_with fail
 refine(zjM m w1 (zaa HB1.out HM0.out) (zaw HT0.out HB1.out) (zbk HV0.out HB1.out)).mono ?_;rintro e w2 ⟨h0,rfl,o2,b2⟩
 go_wp2_with fail
 obtain⟨u,hu,zu,k1,k2,bu⟩:=zcW w2 #[] #[.int .i64 3,.slice h0.A1 h0.n1 h0.c1,.slice h0.A2 h0.n2 h0.c2,.slice h0.A3 h0.n3 h0.c3,.string ⟨#[]⟩] 9 32;rw[<-hu];have sl0:Sl u w2.heap.size (w2.heap.size+1) 9 1 (some ⟨w2.heap.size,0,none⟩) 0 0 []:=Sl.of_blk (xs:=[]) k1 lr (Nat.lt_succ_self _) rfl (Nat.zero_le _);have hzu:=b2.size;have HG:=hid (show w1.heap.size<=w2.heap.size from hzu);have HSL0:=hid (sl0.wide (lo':=w1.heap.size) (hi':=u.heap.size) hzu (by omega));have HO0:=hid ((o2.on bu).wide lr (hi':=u.heap.size) bu.size);have HY0:=hid k2;have HBU:=hid (zac b2 bu lr)
 have HNE0:=hid (show∀b,inB (some (⟨w2.heap.size,0,none⟩:Addr)) b->¬inD h0 [] b from fun b hb hd=>by have h1:=zgU hb;have h2:=(o2.inD_lt hd).2;omega);have HNG0:=hid (show∀b,inD h0 [] b->b≠w2.heap.size+1 from fun b hd=>by have h2:=(o2.inD_lt hd).2;omega);clear o2 b2 bu hu k1 k2 sl0 zu hzu
 go_loopw [6,32] (fun o i wr=>∃(k:Nat) (A':Option Addr) (d':Nat) (hd:DkH) (rh:List RnH),k<=nn/\k<=60/\i= .int .i64 (k:Int)/\o= .slice A' (runTo ls k).2.length d'/\Blk wr (w2.heap.size+1) 32 #[.int .i64 (runTo ls k).1.net.sta,.slice hd.A1 hd.n1 hd.c1,.slice hd.A2 hd.n2 hd.c2,.slice hd.A3 hd.n3 hd.c3,.string (runTo ls k).1.log]/\OwnD wr w1.heap.size wr.heap.size hd (runTo ls k).1 rh/\Sl wr w1.heap.size wr.heap.size 9 1 A' (runTo ls k).2.length d' (strs (runTo ls k).2)/\(∀b,inB A' b->¬inD hd rh b)/\(∀b,inB A' b->b≠w2.heap.size+1)/\(∀b,inD hd rh b->b≠w2.heap.size+1)/\Below w1.heap.size w1 wr) (fun _ i _=>nn-(RowKit.intOf i).toNat)
 case atStart=>exact⟨0,_,_,h0,[],Nat.zero_le _,Nat.zero_le _,rfl,rfl,HY0.out,HO0.out,HSL0.out,HNE0.out,fun b hb=>by have:=zgU hb;omega,HNG0.out,HBU.out⟩
 case round=>
  obtain⟨k,A',d',hd,rh,hk,hk60,rfl,rfl,hy,ho,hsl,hne,hng,hdg,hbel⟩:=hrel;have HSZS:=hid (zfU (ls:=ls) (fun l hl=>HSZ.out l (by rw[HLS.out];exact hl)) k);have HBAD:=hid (fun(l:ByteArray) (hl:ls[k]?=some l) (hc:(cmdF (runTo ls k).1 l).code≠0)=>zif hl hc);have HGOOD:=hid (fun(l:ByteArray) (hl:ls[k]?=some l) (hc:(cmdF (runTo ls k).1 l).code=0)=>zhc hl hc);have HOT1:=hid (show nn=k->outT s=(runTo ls k).2 from fun h=>by unfold outT;rw[HLS.out,HNN.out,if_pos (by omega),h]);have HOT2:=hid (show k=60->k<nn->outT s=(runTo ls k).2++ [zeH] from fun h h'=>by unfold outT;rw[HLS.out,HNN.out,if_neg (by omega),h]);obtain⟨st,hst⟩:∃z,runTo ls k=z:=⟨_,rfl⟩
  rw[hst] at HSZS HBAD HGOOD HOT1 HOT2 hy ho hsl⊢;obtain⟨dk,rl⟩:=st;simp only at HSZS HBAD HGOOD HOT1 HOT2 hy ho hsl⊢;have HY:=hid hy;have HO:=hid ho;have HSL1:=hid hsl;have HNE:=hid hne;have HNG:=hid hng;have HDG:=hid hdg;have HBR:=hid hbel;have HB0:=hid (zac HB1.out hbel lr);have hzr:w1.heap.size<=wr.heap.size:=hbel.size;have hrl:rl.length<=240120:=by have:=HSZS.out.2.1;omega
  clear ho hsl hne hng hdg hbel hst;have hki:(0:Int)<=k:=by omega
  by_cases hlt:k<nn
  ·have hkn:(k:Int)<nn:=by omega
   obtain⟨l,bb,oo,hl,hAe,hbb,q0⟩:=zaP (HLR.out.on lr HBR.out) hlt;injection hAe with hAe;injection hAe with hAb hAo;subst hAb;subst hAo;have hlsz:l.size<=1048576:=HSZ.out l (by rw[HLS.out];exact List.mem_of_getElem? hl);have hdok:=HSZS.out.1;have HCM:=hid (ziy hdok l hlsz);by_cases h60:k=60
   ·have hk6:((k:Int)==60)=true:=by rw[beq_iff_eq];omega
    have HOT:=hid (HOT2.out h60 hlt);clear h60 hl hy
    go_wp2_with (at_builtin;refine zat rfl _ _ 24 rfl 9 _ 1 16 underlying24 zbu rfl (by decide) (by decide) HSL1.out hzr rfl [.string zeH] wr.heap.size rfl rfl rfl (fun u hu=>by simp at hu;subst hu;rfl) (by omega) ?_;intro A9 d9 w9 hs9 b9 z9 f9 k9;have HS9:=hid hs9;have HB9:=hid b9;clear hs9 b9 z9 f9 k9)
    have HLL:=hid (show(outT s).length=rl.length+1 by rw[HOT.out];simp)
    have HR9:=hid (show zad w9 w9.heap.size 1 A9 (rl.length+1) (strs (outT s)) by
     have h:=HS9.out.reads lr;rw[HOT.out,<-zj0];exact h)
    have HBF:=hid (show Below w.heap.size w w9 from HB0.out.trans (HB9.out.mono HB1.out.size))
    go_wp2_with fail
    go_loop [12,61] (fun a i=>∃q:Nat,q<=rl.length+1/\i= .int .i64 (q:Int)/\a= .string (catL ((outT s).take q))) (fun _ i=>rl.length+1-(RowKit.intOf i).toNat)
    case atStart=>exact⟨0,Nat.zero_le _,rfl,by rw[List.take_zero];rfl⟩
    case round=>
     obtain⟨q,hq,rfl,rfl⟩:=hrel;have hqi:(0:Int)<=q:=by omega
     by_cases hlq:q<rl.length+1
     ·obtain⟨y,bY,oY,hyq,rfl,hbY,p1⟩:=zaP HR9.out hlq;have hys:=HOUT.out.2 y (List.mem_of_getElem? hyq);have hcb:=ziw HOUT.out.2 HOUT.out.1 q;have HCS:=hid (zhx hyq);obtain⟨cq,hcq⟩:∃z,catL ((outT s).take q)=z:=⟨_,rfl⟩
      rw[hcq] at hcb HCS⊢;have ov1:¬(9223372036854775807<y.size+1):=by omega
      have ov2:¬(9223372036854775807<cq.size+(y.size+1)):=by omega
      clear hyq hcq;go_wp2
      go_round
      case rel=>exact⟨q+1,by omega,by go_num,by rw[HCS.out]⟩
      case measure=>simp[RowKit.intOf];omega
     ·obtain rfl:q=rl.length+1:=by omega
      have HE:=hid (show catL ((outT s).take (rl.length+1))=runT s by rw[List.take_of_length_le (by rw[HLL.out];exact Nat.le_refl _)];rfl);have hqn:¬(((rl.length+1:Nat):Int)<((rl.length+1:Nat):Int)):=by omega
      rw[HE.out];go_wp2;go_ret;exact⟨rfl,HBF.out⟩
   have hk6:((k:Int)==60)=false:=by rw[beq_eq_false_iff_ne];omega
   have hk61:k+1<=60:=by omega
   obtain⟨c0,c1,c2,c3,c4⟩:=zaq hy;clear hy h60
   go_wp2_with fail
   refine(zgd (h:=hd) (d:=dk) (line:=l) (m:=m) (B:=wr.heap.size) (w:=wr) (HO.out.reads lr) (zny HO.out hdok) lr (Sl.plainA HO.out.tubes) (Sl.plainA HO.out.times) hlsz (zhW HM0.out HLOW.out HB0.out) (zdM HT0.out HLOW.out HB0.out) (zfZ HV0.out HLOW.out HB0.out) (HC0.out.upB HLOW.out HB0.out) (Nat.lt_of_lt_of_le HLOW.out HB0.out.size)).mono ?_;rintro e w5 ⟨h5,rh5,LA,ln,lc,rfl,co⟩;simp only[dkv];have hbad:=HBAD.out l hl;have hgood:=HGOOD.out l hl;obtain⟨cm,hcm⟩:∃z,cmdF dk l=z:=⟨_,rfl⟩
   rw[hcm] at co HCM hbad hgood⊢;have HCO:=hid co;have HBD:=hid hbad;have HGD:=hid hgood;clear hcm co hbad hgood hl c0 c1 c2 c3 c4 q0
   go_upto_region 12 with fail
   obtain⟨u5,hu5⟩:∃y,w5.alloc (.cells #[.int .i64 cm.dk.net.sta,.slice h5.A1 h5.n1 h5.c1,.slice h5.A2 h5.n2 h5.c2,.slice h5.A3 h5.n3 h5.c3,.string cm.dk.log] 32)=y:=⟨_,rfl⟩
   have y5:Blk u5 w5.heap.size 32 #[.int .i64 cm.dk.net.sta,.slice h5.A1 h5.n1 h5.c1,.slice h5.A2 h5.n2 h5.c2,.slice h5.A3 h5.n3 h5.c3,.string cm.dk.log]:=by rw[<-hu5];exact Blk.new _ _ _
   have b5:Below w5.heap.size w5 u5:=by rw[<-hu5];exact bal _
   rw[hu5];have HY5:=hid y5;have HB5:=hid (zac HCO.out.bel b5 lr);have HSL5:=hid (HSL1.out.on HB5.out).low;have HBW5:=hid (HBR.out.trans (HB5.out.mono hzr));have hz5:w1.heap.size<=u5.heap.size:=HBW5.out.size;have HW5:=hid (show wr.heap.size<=w5.heap.size from HCO.out.bel.size);have HB55:=hid b5;have HYG:=hid (HY.out.on HB5.out);have HGW:=hid (show w2.heap.size+1<wr.heap.size from HY.out.lt);have HAW:=hid (show∀b,inB A' b->b<wr.heap.size from fun b hb=>(HSL1.out.inB_lt hb).2);clear hu5 y5 b5;rcases HCM.out.1 with hc0|hc7;rotate_left
   ·have HRT:=hid (HBD.out (by rw[hc7];decide));rw[hc7]
    go_wp2_with (at_builtin;refine zat rfl _ _ 24 rfl 9 _ 1 16 underlying24 zbu rfl (by decide) (by decide) HSL5.out hz5 rfl [.string ⟨#[63]⟩] u5.heap.size rfl rfl rfl (fun u hu=>by simp at hu;subst hu;rfl) (by omega) ?_;intro A9 d9 w9 hs9 b9 z9 f9 k9;have HS9:=hid hs9;have HB9:=hid b9;have HF9:=hid f9;have HK9:=hid k9;clear hs9 b9 z9 f9 k9)
    go_roundw
    case rel=>
     refine⟨k+1,A9,d9,hd,rh,by omega,by omega,by go_num,by rw[HRT.out];simp,?_,?_,?_,fun b hb hb2=>?_,fun b hb e=>?_,HDG.out,HBW5.out.trans HB9.out⟩
     ·rw[HRT.out];exact HYG.out.off (zb5 HB9.out HF9.out) (fun h=>HNG.out _ h rfl)
     ·rw[HRT.out];exact((HO.out.on HB5.out).low.off (zb5 HB9.out HF9.out) (fun b hb hc=>HNE.out b hc hb)).low
     ·rw[HRT.out];show Sl _ _ _ _ _ _ (rl++ [(⟨#[63]⟩:ByteArray)]).length _ (strs (rl++ [(⟨#[63]⟩:ByteArray)]));rw[<-zj0,List.length_append];exact HS9.out
     ·obtain⟨ad,e1,e2⟩:=hb;exact HK9.out b (by have:=(HO.out.inD_lt hb2).2;have:=HB5.out.size;omega) (fun ad' e' hh'=>HNE.out b ⟨ad',e',hh'⟩ hb2) ad e1 e2
     ·subst e;obtain⟨ad,e1,e2⟩:=hb;exact HK9.out _ (by have:=HGW.out;have:=HB5.out.size;omega) (fun ad' e' hh'=>HNG.out _ ⟨ad',e',hh'⟩ rfl) ad e1 e2
    case measure=>simp[RowKit.intOf];omega
   have HRT:=hid (HGD.out hc0);have hln:=HCM.out.2.1 hc0;have hsm:=HCM.out.2.2;have hll:cm.lines.length=ln:=by have:=HCO.out.row.len;rw[za6] at this;omega
   have hl0:0<ln:=by rw[<-hll];exact List.length_pos_iff.2 hln.2
   have hl2:ln<=4002:=by rw[<-hll];exact hsm.1
   obtain⟨bq,oq,rfl,hbq,hcq⟩:=((HCO.out.row.reads lr).on lr HB55.out).at_ hl0;have HCQ:=hid hcq;have HLLN:=hid hll;have HA9:=hid (show∀ad,A'=some ad->ad.block≠w5.heap.size from fun ad e h=>by have:=HAW.out _ ⟨ad,e,h⟩;have:=HW5.out;omega);rw[hc0];clear hc0 hln hsm hcq hll hbq
   go_upto_region 14 with fail
   refine ez (fun V=>Blk V w5.heap.size 32 #[.int .i64 cm.dk.net.sta,.slice h5.A1 h5.n1 h5.c1,.slice h5.A2 h5.n2 h5.c2,.slice h5.A3 h5.n3 h5.c3,.string cm.dk.log]) ?_ fun hHeld=>?_
   ·exact HY5.out.drew
   refine dq 0 rfl (hy:=by intro w hSw;(try dsimp only at hSw);obtain⟨l0,l1,l2,l3,l4⟩:=zaq hSw;go_simp;try with_reducible rfl) (h:=dq 1 rfl (h:=dq 2 rfl (h:=?_)));refine rd 3 rfl fun K hK=>?_;refine zlS rfl _ _ 24 rfl 9 _ 1 16 underlying24 zbu rfl (by decide) (by decide) HSL5.out.drew hz5 rfl bq oq ln lc (strs cm.lines) rfl (by rw[za6,HLLN.out,Nat.mul_one]) (fun j u hu=>HCQ.out j u hu) (zr1 _) hl0 (by omega) ?_;intro A9 d9 w9 hs9 b9 f9 k9;refine ke hK ?_ ?_
   ·exact Blk.off (show Blk _ _ _ _ from hHeld) (zb5 b9 f9) (fun⟨ad,e,h⟩=>HA9.out ad e h)
   clear hK K hHeld;intro hHeld;refine rd 4 rfl fun K hK=>?_;have YG9:=HYG.out.drew.off (zb5 b9 f9) (fun h=>HNG.out _ h rfl);obtain⟨z0,z1,z2,z3,z4⟩:=zaq YG9;obtain⟨g0,g1,g2,g3,g4⟩:=zbF YG9;go_simp;refine ke hK ?_ ?_
   ·obtain⟨q1,q2,q3⟩:=zb0 YG9 (.int .i64 cm.dk.net.sta) (.slice h5.A1 h5.n1 h5.c1) (.slice h5.A2 h5.n2 h5.c2) (.slice h5.A3 h5.n3 h5.c3) (.string cm.dk.log);exact Blk.apart (show Blk _ _ _ _ from hHeld) q3 (.inr (by have:=HGW.out;have:=HW5.out;omega))
   clear hK K hHeld;intro hHeld;refine dq 5 rfl (h:=?_);refine dn ?_;obtain⟨q1,q2,q3⟩:=zb0 YG9 (.int .i64 cm.dk.net.sta) (.slice h5.A1 h5.n1 h5.c1) (.slice h5.A2 h5.n2 h5.c2) (.slice h5.A3 h5.n3 h5.c3) (.string cm.dk.log);obtain⟨V,hV⟩:∃y,(World.setCell (World.setCell (World.setCell (World.setCell (World.setCell w9 ⟨w2.heap.size+1,0,none⟩ (.int .i64 cm.dk.net.sta)) ⟨w2.heap.size+1,1,none⟩ (.slice h5.A1 h5.n1 h5.c1)) ⟨w2.heap.size+1,2,none⟩ (.slice h5.A2 h5.n2 h5.c2)) ⟨w2.heap.size+1,3,none⟩ (.slice h5.A3 h5.n3 h5.c3)) ⟨w2.heap.size+1,4,none⟩ (.string cm.dk.log))=y:=⟨_,rfl⟩
   rw[hV] at q1 q2 q3⊢;have HS9:=hid hs9;have HB9:=hid b9;have HF9:=hid f9;have HK9:=hid k9;have HQ1:=hid q1;have HQ3:=hid (show Off (fun b=>b=w2.heap.size+1) w9 V from⟨q3.os,q3.tape,q3.output,q3.size,fun k hk hn=>q3.block k hk (by omega)⟩);have hzd:u5.drew.heap.size=u5.heap.size:=rfl;clear hHeld hs9 b9 f9 k9 q1 q2 q3 YG9 hV;go_wp2
   go_roundw
   case rel=>
    refine⟨k+1,A9,d9,h5,rh5,by omega,by omega,by go_num,by rw[HRT.out];show _=Value.slice A9 (rl++cm.lines).length d9;rw[List.length_append,HLLN.out],by rw[HRT.out];exact HQ1.out,?_,?_,fun b hb hb2=>?_,fun b hb e=>?_,fun b hb e=>?_,?_⟩
    ·rw[HRT.out];have h1:=((HCO.out.own.on HB55.out).low.on (w':=u5.drew) (Below.refl _ _).drew)
     have h2:=(h1.off (zb5 HB9.out HF9.out) (fun b hb hc=>by have:=HAW.out b hc;have:=(HCO.out.own.inD_lt hb).1;omega)).low;have h3:=(h2.off HQ3.out (fun b hb e=>by have:=(HCO.out.own.inD_lt hb).1;have:=HGW.out;omega)).low;exact h3.wide hzr lr
    ·rw[HRT.out];show Sl _ _ _ _ _ _ (rl++cm.lines).length _ (strs (rl++cm.lines));rw[<-zj0,List.length_append,HLLN.out];refine(HS9.out.off HQ3.out (fun b hb e=>?_)).low;subst e;obtain⟨ad,e1,e2⟩:=hb;exact HK9.out _ (by have:=HGW.out;have:=HB5.out.size;show _<u5.heap.size;omega) (fun ad' e' hh'=>HNG.out _ ⟨ad',e',hh'⟩ rfl) ad e1 e2
    ·obtain⟨ad,e1,e2⟩:=hb;exact HK9.out b (by have:=(HCO.out.own.inD_lt hb2).2;have:=HB55.out.size;show b<u5.heap.size;omega) (fun ad' e' hh'=>by have:=HAW.out b ⟨ad',e',hh'⟩;have:=(HCO.out.own.inD_lt hb2).1;omega) ad e1 e2
    ·subst e;obtain⟨ad,e1,e2⟩:=hb;exact HK9.out _ (by have:=HGW.out;have:=HB5.out.size;show _<u5.heap.size;omega) (fun ad' e' hh'=>HNG.out _ ⟨ad',e',hh'⟩ rfl) ad e1 e2
    ·subst e;have:=(HCO.out.own.inD_lt hb).1;have:=HGW.out;omega
    ·have h1:Below w1.heap.size w1 w9:=HBW5.out.trans ((Below.refl _ _).drew.trans HB9.out);exact h1.trans (HQ3.out.below (fun b hb=>by have:=HG.out;omega) h1.size)
   case measure=>simp[RowKit.intOf];omega
  ·obtain rfl:nn=k:=by omega
   have hkn:¬((nn:Int)<nn):=by omega
   have HOT:=hid (HOT1.out rfl);clear hy
   have HR9:=hid (show zad wr wr.heap.size 1 A' rl.length (strs (outT s)) by
    rw[HOT.out];exact HSL1.out.reads lr)
   have HLL:=hid (show(outT s).length=rl.length by rw[HOT.out]);have HBF:=hid (show Below w.heap.size w wr from HB0.out)
   go_wp2_with fail
   go_loop [12,61] (fun a i=>∃q:Nat,q<=rl.length/\i= .int .i64 (q:Int)/\a= .string (catL ((outT s).take q))) (fun _ i=>rl.length-(RowKit.intOf i).toNat)
   case atStart=>exact⟨0,Nat.zero_le _,rfl,by rw[List.take_zero];rfl⟩
   case round=>
    obtain⟨q,hq,rfl,rfl⟩:=hrel;have hqi:(0:Int)<=q:=by omega
    by_cases hlq:q<rl.length
    ·obtain⟨y,bY,oY,hyq,rfl,hbY,p1⟩:=zaP HR9.out hlq;have hys:=HOUT.out.2 y (List.mem_of_getElem? hyq);have hcb:=ziw HOUT.out.2 HOUT.out.1 q;have HCS:=hid (zhx hyq);obtain⟨cq,hcq⟩:∃z,catL ((outT s).take q)=z:=⟨_,rfl⟩
     rw[hcq] at hcb HCS⊢;have ov1:¬(9223372036854775807<y.size+1):=by omega
     have ov2:¬(9223372036854775807<cq.size+(y.size+1)):=by omega
     have hqn:(q:Int)<((rl.length:Nat):Int):=by omega
     clear hyq hcq;go_wp2
     go_round
     case rel=>exact⟨q+1,by omega,by go_num,by rw[HCS.out]⟩
     case measure=>simp[RowKit.intOf];omega
    ·obtain rfl:q=rl.length:=by omega
     have HE:=hid (show catL ((outT s).take (rl.length))=runT s by rw[List.take_of_length_le (by rw[HLL.out];exact Nat.le_refl _)];rfl);have hqn:¬(((rl.length:Nat):Int)<((rl.length:Nat):Int)):=by omega
     rw[HE.out];go_wp2;go_ret;exact⟨rfl,HBF.out⟩
end Go.Proofs.YtjalgpioklcbfaaGreatDoor
