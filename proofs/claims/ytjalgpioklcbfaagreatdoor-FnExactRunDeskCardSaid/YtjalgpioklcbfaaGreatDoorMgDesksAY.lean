/- Steps of the proof. -/
import Derived.Test.YtjalgpioklcbfaaGreatDoorMgDesksAX
import Derived.Test.YtjalgpioklcbfaaGreatDoorKRuD
set_option maxHeartbeats 4000000
set_option maxRecDepth 100000
set_option linter.unusedVariables false
set_option linter.unusedSimpArgs false
namespace Go.Proofs.YtjalgpioklcbfaaGreatDoor
section
open Go.RowKit Go.Lib Go.Proofs.Tryz
theorem zs6{w:World}(h:TabP w):4<w.heap.size:=by
 have e:prog.globalNamed "internal/strconv.uint64pow10" =some 4:=by kernel_rfl
 unfold TabP Lib.TabIs World.var? at h;rw[e] at h;simp only[Option.bind_some] at h;rcases Nat.lt_or_ge 4 w.heap.size with h'|h'
 ·exact h'
 ·rw[Array.getElem?_eq_none h'] at h;cases h
theorem zub:errL 5=zeH:=by unfold errL zeH;decide
theorem zkz (s:ByteArray) (w:World) (hs:s.size <= 1048576) :
  Calls prog 13 #[.string s] w fun e w'=>e= .returned (.string (runT s))/\Below w.heap.size w w':=by
 have HSZ:=hid (fun l (h:l∈zcb s)=>Nat.le_trans (zfM l h) hs);have HNL:=hid (zkf s);have hlt0:zcb s=if (zah 10 s).getLast?=some ⟨#[]⟩ then (zah 10 s).take ((zah 10 s).length-1) else zah 10 s:=rfl
 have HLT0:=hid hlt0;clear hlt0;go_enter func13,ntmps13
 go_wp2_with fail
 refine(zpL w).mono ?_;rintro e w1 ⟨h1,rfl,o1,b1⟩;have HLD:=hid (show LowD w1 w.heap.size h1 zgK from⟨o1.tubes,o1.times,[],o1.runs⟩);have HB1:=hid b1;clear o1 b1
 go_upto_region 2 with fail
 obtain⟨u,hu⟩:∃y,w1.alloc (.cells #[.int .i64 3,.slice h1.A1 h1.n1 h1.c1,.slice h1.A2 h1.n2 h1.c2,.slice h1.A3 h1.n3 h1.c3,.string ⟨#[]⟩,.slice none 0 0,.slice none 0 0,.slice none 0 0] 74)=y:=⟨_,rfl⟩
 have hst:StD u w.heap.size w1.heap.size h1 zgK none 0 0 [] (.slice none 0 0) (.slice none 0 0):=by rw[<-hu];exact StD.start HLD.out zkn rfl
 have hbu:Below w.heap.size w u:=by rw[<-hu];exact zac HB1.out (bal _) lr
 rw[hu];have HST:=hid hst;have HBU:=hid hbu;obtain⟨g,hg⟩:∃z,w1.heap.size=z:=⟨_,rfl⟩
 rw[hg] at HST⊢;have HG:=hid (show w.heap.size<=g by rw[<-hg];exact HB1.out.size);clear hu hst hbu hg
 go_wp2_with fail
 refine(zcD s 10 u hs).mono ?_;rintro e w2 ⟨LA,n,c,rfl,s2,b2⟩;have hsl:(zah 10 s).length=n:=by have:=s2.len;rw[za6] at this;omega
 have hn0:0<n:=by rw[<-hsl];exact List.length_pos_iff.2 (zev 10 s)
 have hnm:n<=1048577:=by
  have h1:=zc2 10 s;have h2:s.data.toList.count 10<=s.size:=by rw[<-za8 s];exact List.count_le_length
  omega
 have HAW:=hid (show Aw w2 (Nn w.heap.size g none) 1 LA n (strs (zah 10 s)) from Aw.of_sl s2 HST.out.glt (fun b hb=>absurd hb zb4) HBU.out.size);have HST2:=hid (HST.out.on b2);have HB2:=hid (zac HBU.out b2 lr);have hcap:n<=c:=Sl.cap_ge s2;obtain⟨sp,hsp⟩:∃z,zah 10 s=z:=⟨_,rfl⟩
 have HLT:=hid (show zcb s=if sp.getLast?=some ⟨#[]⟩ then sp.take (sp.length-1) else sp by rw[<-hsp];exact HLT0.out);rw[hsp] at s2 hsl HAW;have HSL:=hid hsl;obtain⟨x,bl,ol,hx,rfl,hbl,k0⟩:=zaP (s2.reads lr) (k:=n-1) (by omega);have HX:=hid (show sp.getLast?=some x by rw[List.getLast?_eq_getElem?,hsl];exact hx);have HS1:=hid (s2.reads lr);clear s2 b2 hsp hsl hx;obtain⟨ls,hls⟩:∃z,zcb s=z:=⟨_,rfl⟩
 have HLS:=hid hls;rw[hls] at HLT;obtain⟨nn,hnn⟩:∃z,ls.length=z:=⟨_,rfl⟩
 have HNN:=hid hnn;clear hls hnn
 have hw1:IntKind.i64.wrap ((n:Int)-1)=((n-1:Nat):Int):=by
  unfold IntKind.wrap;simp[IntKind.bits,IntKind.signed];omega
 have hi0:(0:Int)<=(n:Int)-1:=by omega
 have hi1:(n:Int)-1<n:=by omega
 have hi2:(0:Int)<=((n-1:Nat):Int)/\((n-1:Nat):Int)<n:=by omega
 have hi3:(((n-1:Nat):Int)).toNat=n-1:=by omega
 have hi4:((n-1:Nat):Int)<=c:=by omega
 go_upto_if 17 with fail
 go_cut [4] (fun sv wx=>(∃cc,sv= .slice (some ⟨bl,ol,none⟩) nn cc)/\wx=w2)
 case first=>as_aux_lemma=>
  rcases he:x.toList.isEmpty with _|_
  ·have hne:¬x=⟨#[]⟩:=by rintro rfl;simp[ByteArray.toList_eq] at he
   have hnn:nn=n:=by rw[<-HNN.out,HLT.out,if_neg (by rw[HX.out];exact fun h=>hne (Option.some.inj h)),HSL.out]
   clear hne;go_wp2
   go_meet
   exact⟨⟨_,by rw[hnn]⟩,rfl⟩
  ·have he2:x=⟨#[]⟩:=by
    have h0:x.toList=[]:=List.isEmpty_iff.1 he;apply ByteArray.ext;have:x.data.toList=[]:=by rw[<-ByteArray.toList_eq];exact h0
    exact Array.toList_inj.1 (by simpa using this)
   have hnn:nn=n-1:=by rw[<-HNN.out,HLT.out,if_pos (by rw[HX.out,he2]),List.length_take,HSL.out];omega
   clear he2;go_wp2
   go_meet
   exact⟨⟨_,by rw[hnn]⟩,rfl⟩
 obtain⟨⟨cc,rfl⟩,hwc⟩:=hcut;have hwc:=hwc.symm;subst hwc
 have hLR:zad w2 w2.heap.size 1 (some ⟨bl,ol,none⟩) nn (strs ls):=by
  by_cases hg:sp.getLast?=some ⟨#[]⟩
  ·have hl:ls=sp.take (sp.length-1):=by rw[HLT.out,if_pos hg]
   have hr:=HS1.out.sub (i:=0) (m:=n-1) (by omega);have hnn:nn=n-1:=by rw[<-HNN.out,hl,List.length_take,HSL.out];omega
   rw[hnn,hl];have e:((strs sp).drop 0).take (n-1)=strs (sp.take (sp.length-1)):=by rw[List.drop_zero,HSL.out];simp[strs,List.map_take]
   rw[e] at hr;exact hr
  ·have hl:ls=sp:=by rw[HLT.out,if_neg hg]
   have hnn:nn=n:=by rw[<-HNN.out,hl,HSL.out]
   rw[hnn,hl];exact HS1.out
 have HLR:=hid (show Aw w2 (Nn w.heap.size g none) 1 (some ⟨bl,ol,none⟩) nn (strs ls) from⟨hLR,fun _=>HAW.out.2 hn0⟩);clear hLR k0 hw1 hi0 hi1 hi2 hi3 hi4;have hnn9:nn<=1048577:=by have:=HNL.out;rw[HLS.out,HNN.out] at this;omega
 have HOT:=hid (show outT s=if ls.length<=60 then (runTo ls ls.length).2 else (runTo ls 60).2++ [zeH] by unfold outT;rw[HLS.out]);have HSZ2:=hid (fun l (h:l∈ls)=>HSZ.out l (by rw[HLS.out];exact h));have HRO:=hid (fun k=>zfU (ls:=ls) HSZ2.out k)
 go_wp2_with fail
 go_loopw [5] (fun i wr=>∃(k:Nat) (h':DkH) (A':Option Addr) (n' c':Nat) (V6 V7:Value),k<=nn/\k<=60/\i= .int .i64 (k:Int)/\StD wr w.heap.size g h' (runTo ls k).1 A' n' c' (runTo ls k).2 V6 V7/\Aw wr (Nn w.heap.size g A') 1 (some ⟨bl,ol,none⟩) nn (strs ls)/\Below w.heap.size w wr) (fun i _=>nn-(RowKit.intOf i).toNat)
 case atStart=>exact⟨0,h1,none,0,0,_,_,Nat.zero_le _,Nat.zero_le _,rfl,HST2.out,HLR.out,HB2.out⟩
 case round=>
  obtain⟨k,h',A',n',c',V6,V7,hk,hk60,rfl,hst,haw,hbel⟩:=hrel;have HSK:=hid hst;have HAK:=hid haw;have HBr:=hid hbel
  have hn9:n'<=240120:=by
   have h1:=hst.says.sl.len;have h2:=(HRO.out k).2.1;rw[za6] at h1;omega
  have hlow:w.heap.size<=wr.heap.size:=hbel.size;clear hst haw hbel;have hk0:(0:Int)<=k:=by omega
  by_cases hlt:k<nn;rotate_left
  ·obtain rfl:k=nn:=by omega
   have HRT:=hid (show runT s=catL (runTo ls k).2 by unfold runT;rw[HOT.out,HNN.out,if_pos hk60])
   have HBD:=hid (show(catL (runTo ls k).2).size<=35184373137408 by
    have h1:=ziw (L:=(runTo ls k).2) (HRO.out k).2.2 (by have:=(HRO.out k).2.1;omega) (runTo ls k).2.length;rwa[List.take_length] at h1)
   obtain⟨_,_,_,_,_,p5,_,_⟩:=HSK.out.cells
   go_wp2_with fail
   refine(zhR A' n' c' wr.heap.size (runTo ls k).2 wr (HSK.out.says.sl.reads lr) lr (by omega) HBD.out).mono ?_;rintro e w5 ⟨rfl,b5⟩;have HB5:=hid (zac HBr.out b5 lr);rw[<-HRT.out];clear b5 p5;go_wp2;go_ret;exact⟨rfl,HB5.out⟩
  have hkn:(k:Int)<nn:=by omega
  by_cases h60:k=60
  ·have HRT:=hid (show runT s=catL ((runTo ls k).2++ [errL (5:Int).toNat]) by unfold runT;rw[HOT.out,HNN.out,if_neg (by omega),h60];rw[show errL (5:Int).toNat=zeH from zub])
   have HBD:=hid (show(catL ((runTo ls k).2++ [errL (5:Int).toNat])).size<=35184373137408 by
    have h1:=ziw (L:=(runTo ls k).2++ [errL (5:Int).toNat]) (fun x hx=>by
     rw[List.mem_append,List.mem_singleton] at hx;rcases hx with hx|rfl
     ·exact(HRO.out k).2.2 x hx
     ·exact zhA _) (by have:=(HRO.out k).2.1;rw[List.length_append,List.length_singleton];omega) ((runTo ls k).2++ [errL (5:Int).toNat]).length
    rwa[List.take_length] at h1)
   have hk6:(60:Int)<=k:=by omega
   obtain⟨rl,hrl⟩:∃z,(runTo ls k).2=z:=⟨_,rfl⟩
   rw[hrl] at HRT HBD HSK;clear hrl h60
   go_wp2_with fail
   refine(zcq HSK.out.says hlow (by omega) (k:=5) (by decide) (by decide) (by decide)).mono ?_;rintro e w5 ⟨rfl,A5,c5,hs5⟩;have HS5:=hid (HSK.out.said hs5);have HB5:=hid (HBr.out.trans (hs5.mv.bel (B:=w.heap.size) HG.out (fun b hb=>(HSK.out.says.sl.inB_lt hb).1) hlow));clear hs5;obtain⟨_,_,_,_,_,p5,_,_⟩:=HS5.out.cells
   go_wp2_with fail
   refine(zhR A5 (n'+1) c5 w5.heap.size (rl++ [errL (5:Int).toNat]) w5 (HS5.out.says.sl.reads lr) lr (by omega) HBD.out).mono ?_;rintro e w6 ⟨rfl,b6⟩;have HB6:=hid (zac HB5.out b6 lr);rw[<-HRT.out];clear b6 p5;go_wp2;go_ret;exact⟨rfl,HB6.out⟩
  have hk6:¬(60:Int)<=k:=by omega
  obtain⟨l,b9,o9,hl,e9,_,k9⟩:=zaP HAK.out.1 hlt;injection e9 with e9;injection e9 with e9 e8;subst e9;subst e8;have HL:=hid hl;have hlz:=HSZ2.out l (List.mem_of_getElem? hl);have HDO:=hid (zl6 (line:=l) HSK.out hlow (by omega) hlz);clear hl hlz
  go_wp2_with fail
  refine HDO.out.mono ?_;rintro e w5 hcase;rcases hcase with ⟨hc,rfl,so⟩|⟨hc,rfl,so⟩
  ·obtain⟨h5,A5,n5,c5,V6',V7',st5,mv5⟩:=so;have HST5:=hid (show StD w5 w.heap.size g h5 (runTo ls (k+1)).1 A5 n5 c5 (runTo ls (k+1)).2 V6' V7' by rw[zhc HL.out hc];exact st5);have HA5:=hid (HAK.out.mv mv5);have HB5:=hid (HBr.out.trans (mv5.bel (B:=w.heap.size) HG.out (fun b hb=>(HSK.out.says.sl.inB_lt hb).1) hlow));clear hc st5 mv5 k9;go_wp2
   go_roundw
   case rel=>exact⟨k+1,h5,A5,n5,c5,V6',V7',by omega,by omega,by go_num,HST5.out,HA5.out,HB5.out⟩
   case measure=>simp[RowKit.intOf];omega
  ·obtain⟨h5,A5,n5,c5,V6',V7',st5,mv5⟩:=so;have HST5:=hid st5;have HC:=hid hc;have HA5:=hid (HAK.out.mv mv5);have HB5:=hid (HBr.out.trans (mv5.bel (B:=w.heap.size) HG.out (fun b hb=>(HSK.out.says.sl.inB_lt hb).1) hlow))
   have hn5:n5<=240120:=by
    have h1:=st5.says.sl.len;have h2:=(HRO.out k).2.1;rw[za6] at h1;omega
   clear hc st5 mv5 k9
   go_wp2_with fail
   refine(zbR w.heap.size g _ A5 n5 c5 (runTo ls k).2 ⟨#[63]⟩ w5 HST5.out.says HB5.out.size (by omega)).mono ?_;rintro e w6 ⟨rfl,A6,c6,hs6⟩;have HST6:=hid (show StD w6 w.heap.size g h5 (runTo ls (k+1)).1 A6 (n5+1) c6 (runTo ls (k+1)).2 V6' V7' by rw[zif HL.out HC.out];exact HST5.out.said hs6);have HA6:=hid (HA5.out.mv hs6.mv);have HB6:=hid (HB5.out.trans (hs6.mv.bel (B:=w.heap.size) HG.out (fun b hb=>(HST5.out.says.sl.inB_lt hb).1) HB5.out.size));clear hs6;go_wp2
   go_roundw
   case rel=>exact⟨k+1,h5,A6,n5+1,c6,V6',V7',by omega,by omega,by go_num,HST6.out,HA6.out,HB6.out⟩
   case measure=>simp[RowKit.intOf];omega
end
end Go.Proofs.YtjalgpioklcbfaaGreatDoor
namespace Go.Proofs.YtjalgpioklcbfaaGreatDoor.lawRunDesk
open Go.RowKit Go.Proofs.YtjalgpioklcbfaaGreatDoor Go.Proofs.Tryz
theorem walk (s:ByteArray) (w:World) (hz:s.size <= 9223372036854775807) (m:Int) (hm:w.cell? ⟨1,0,none⟩ = some (.int .i64 m)) (ht:TabP w) (hv:SynP w) (hcn:CnP w) :
  Calls prog 4 #[.string s] w fun e w'=>e= .returned (.bool true)/\Below w.heap.size w w':=by
 have HLOW:=hid (zs6 ht);have HT:=hid ht;have HV:=hid hv;have HM:=hid hm;have HC:=hid hcn;clear ht hv hm hcn;by_cases h1:1048576<s.size
 ·have h1i:(1048576:Int)<(s.size:Int):=by omega
  go_enter func4,ntmps4;go_wp2;go_ret;exact⟨rfl,Below.refl _ _⟩
 ·have h1i:¬((1048576:Int)<(s.size:Int)):=by omega
  have hs:s.size<=1048576:=by omega
  go_enter func4,ntmps4
  go_wp2_with fail
  refine(zkz s _ hs).mono ?_;rintro e w1 ⟨rfl,b1⟩
  go_wp2_with fail
  refine(zjN s m _ hs (zaa b1 HM.out) (zaw HT.out b1) (zbk HV.out b1) (HC.out.on b1) (Nat.lt_of_lt_of_le HLOW.out b1.size)).mono ?_;rintro e w2 ⟨rfl,b2⟩;have HF:=hid (zac b1 b2 lr);clear b1 b2;obtain⟨v1,hv1⟩:∃v,runT s=v:=⟨_,rfl⟩
  rw[hv1];clear hv1;go_wp2;go_ret;exact⟨rfl,HF.out⟩
end Go.Proofs.YtjalgpioklcbfaaGreatDoor.lawRunDesk
