/- DeskCommand, as the program does it. -/
import Derived.Test.YtjalgpioklcbfaaGreatDoorMgDesksAT
set_option maxHeartbeats 4000000
set_option maxRecDepth 100000
set_option linter.unusedVariables false
set_option linter.unusedSimpArgs false
namespace Go.Proofs.YtjalgpioklcbfaaGreatDoor
open Go.RowKit Go.Lib Go.Proofs.Tryz
theorem zgd {h:DkH} {d:Dk} {line:ByteArray} {m:Int} {B:Nat} {w:World} (hr:DkR w B h d) (hs:DkS h d) (hB:B <= w.heap.size) (hp1:zd6 h.A1) (hp2:zd6 h.A2) (hl:line.size <= 1048576) (hm:w.cell? ⟨1,0,none⟩ = some (.int .i64 m)) (ht:TabP w) (hv:SynP w) (hc:CnP w) (hlow:4 < w.heap.size) :
  Calls prog 9 #[.agg #[.int .i64 d.net.sta,.slice h.A1 h.n1 h.c1,.slice h.A2 h.n2 h.c2,.slice h.A3 h.n3 h.c3,.string d.log],.string line] w fun e w'=>∃h' rh' LA ln lc,e= .returned (.tuple #[dkv h' (cmdF d line).dk,.slice LA ln lc,.int .i64 (cmdF d line).code])/\zhv w w' h' (cmdF d line).dk rh' LA ln lc (cmdF d line).lines:=by
 obtain⟨W,hW,hz,k0,k1,hb⟩:=zcW w #[.int .i64 d.net.sta,.slice h.A1 h.n1 h.c1,.slice h.A2 h.n2 h.c2,.slice h.A3 h.n3 h.c3,.string d.log] #[.int .i64 0,.slice none 0 0,.slice none 0 0,.slice none 0 0,.string ⟨#[]⟩] 32 32;have HW:=hid hW;have HB:=hid hb;have HZ:=hid hz;have HY:=hid k0;have HY2:=hid k1;have HR:=hid (hr.on hB hb);have HBW:=hid (Nat.le_trans hB hb.size);have HS:=hid hs;have HP1:=hid hp1;have HP2:=hid hp2;have HM0:=hid hm;have HT0:=hid ht;have HV0:=hid hv;have HC0:=hid hc;have HM:=hid (zaa hb hm);have HT:=hid (zaw ht hb);have HV:=hid (zbk hv hb);have HLOW:=hid hlow;have HHL:=hid hl;have HWN:=hid (zrF line);have HZS:=hid (fun x hx=>zeB (c:=32) (s:=line) x hx)
 clear hW hb hz k0 k1 hr hB hs hp1 hp2 hm ht hv hc hlow;go_enter func9,ntmps9
 go_wp2_with fail
 rw[<-HW.out];refine(zcE line 32 m W (by omega) HM.out).mono ?_;rintro e w1 ⟨WA,wn,wcap,rfl,s1,b1⟩;have hwl:(zah 32 line).length=wn:=by have:=s1.len;rw[za6] at this;omega
 have hw0:0<wn:=by rw[<-hwl];exact List.length_pos_iff.2 (zev 32 line)
 have hwm:wn<=1048577:=by have:=HWN.out;omega
 clear hl;obtain⟨ws,hws⟩:∃z,zah 32 line=z:=⟨_,rfl⟩
 rw[hws] at s1 hwl HZS;have HWS:=hid hws;have HWL:=hid hwl;obtain⟨s0,bw,ow,hs0,rfl,hbw,kw⟩:=zaP (s1.reads lr) hw0;rw[Nat.add_zero] at kw;have hw00:zag ws 0=s0:=by unfold zag;rw[List.getD_eq_getElem?_getD,hs0];rfl
 have HW0:=hid hw00;have HS1:=hid s1;have HB1:=hid (zac HB.out b1 lr);have HBW1:=hid b1;have y1:=HY.out.on b1;obtain⟨d0,d1,d2,d3,d4⟩:=zaq y1;have HY1:=hid y1;clear hws hwl hs0 hw00 b1 y1;have hwi:(0:Int)<wn:=by omega
 have hwi1:(1:Int)<=wn:=by omega
 obtain⟨TA,hTA⟩:∃z,(if wcap=1 then some (⟨bw,ow,none⟩:Addr) else some ⟨bw,ow+1,none⟩)=z:=⟨_,rfl⟩
 have HCAP:=hid (Sl.cap_ge s1)
 have hSB:=(show zad w1 w1.heap.size 1 TA (wn-1) (strs (ws.drop 1)) by
  have hl:=HWL.out;by_cases h1:wcap=1
  ·have:=HCAP.out;rw[if_pos h1] at hTA;refine⟨by rw[za6,List.length_drop];omega,fun h=>by omega⟩
  ·rw[if_neg h1] at hTA;rw[<-hTA];have hr:=(s1.reads lr).sub (i:=1) (m:=wn-1) (by omega);rwa[show((strs ws).drop 1).take (wn-1)=strs (ws.drop 1) by rw[List.take_of_length_le (by simp[strs];omega)];simp[strs]] at hr)
 have HTR:=hid hSB;clear hSB s1
 go_wp2_with fail
 refine(zml s0 w1).mono ?_;rintro e w2 ⟨rfl,rfl⟩;have hsz:=zs2 s0;obtain⟨sh,hsh⟩:∃z,shp s0=z:=⟨_,rfl⟩
 rw[hsh] at hsz⊢;have HSH:=hid hsh;clear hsh;have hshl:sh.size<=9223372036854775807:=by omega
 obtain⟨ob,hob⟩:∃z,zci sh=z:=⟨_,rfl⟩
 have HOB:=hid hob;clear hob
 go_upto_region 3 with fail
 go_cut [9] (fun sv wx=>sv= .bool ob/\wx=w2)
 case first=>as_aux_lemma=>
  rcases hq1:Lib.hasSuffix sh.data.toList [43] with _|_
  ·go_wp2_with fail
   refine(Tryz.strings_HasSuffix sh ⟨#[43]⟩ w2 hshl).mono ?_;rintro e w3 ⟨rfl,rfl⟩;rw[show(ByteArray.mk #[43]).data.toList=[43] from rfl,hq1]
   go_wp2_with fail
   refine(Tryz.strings_HasSuffix sh ⟨#[42]⟩ w3 hshl).mono ?_;rintro e w4 ⟨rfl,rfl⟩;rw[show(ByteArray.mk #[42]).data.toList=[42] from rfl];have hq2:Lib.hasSuffix sh.data.toList [42]=ob:=by have h:=HOB.out;rw[zlR,hq1] at h;simpa using h
   rw[hq2]
   go_wp2_with fail
   go_meet
   exact⟨rfl,rfl⟩
  ·have hb1:ob=true:=by have h:=HOB.out;rw[zlR,hq1] at h;simpa using h.symm
   subst hb1
   go_wp2_with fail
   refine(Tryz.strings_HasSuffix sh ⟨#[43]⟩ w2 hshl).mono ?_;rintro e w3 ⟨rfl,rfl⟩;rw[show(ByteArray.mk #[43]).data.toList=[43] from rfl,hq1]
   go_wp2_with fail
   go_meet
   exact⟨rfl,rfl⟩
 obtain⟨rfl,hwc⟩:=hcut;have hwc:=hwc.symm;subst hwc
 go_wp2_with fail
 refine(zfs h d m B w2 (HR.out.on HBW.out HBW1.out) HS.out (Nat.le_trans HBW.out HBW1.out.size) (zaa HBW1.out HM.out) (zaw HT.out HBW1.out) (zbk HV.out HBW1.out)).mono ?_;rintro e w5 ⟨rfl,b5⟩;have HBW5:=hid (zac HBW1.out b5 lr);have HB5:=hid (zac HB.out HBW5.out lr);replace kw:=zaa b5 kw;have HTR5:=hid (HTR.out.on lr b5);have HS5:=hid (HS1.out.on b5);have HZ5:=hid b5.size;clear d0 d1 d2 d3 d4 b5;rcases hok:okDk d with _|_
 ·have HX:=hid (zrL (line:=line) hok);clear hok;have YR:=HY2.out.on HBW5.out;have HYR:=hid YR;obtain⟨z0,z1,z2,z3,z4⟩:=zaq YR;obtain⟨g0,g1,g2,g3,g4⟩:=zbF YR;have yl:=YR.lt;clear YR;go_wp2;obtain⟨q1,q2,q3⟩:=zb0 HYR.out (.int .i64 0) (.slice none 0 0) (.slice none 0 0) (.slice none 0 0) (.string ⟨#[]⟩);obtain⟨r0,r1,r2,r3,r4⟩:=zaq q1;obtain⟨V,hV⟩:∃y,(World.setCell (World.setCell (World.setCell (World.setCell (World.setCell w5 ⟨w.heap.size+1,0,none⟩ (.int .i64 0)) ⟨w.heap.size+1,1,none⟩ (.slice none 0 0)) ⟨w.heap.size+1,2,none⟩ (.slice none 0 0)) ⟨w.heap.size+1,3,none⟩ (.slice none 0 0)) ⟨w.heap.size+1,4,none⟩ (.string ⟨#[]⟩))=y:=⟨_,rfl⟩
  rw[hV] at q3 r0 r1 r2 r3 r4⊢;exact bodyPost_ret (v:=.tuple #[.agg #[.int .i64 0,.slice none 0 0,.slice none 0 0,.slice none 0 0,.string ⟨#[]⟩],.slice none 0 0,.int .i64 1]) (by simp[results,results9,go_sem,r0,r1,r2,r3,r4]) rfl ⟨⟨none,0,0,none,0,0,none,0,0⟩,[],none,0,0,by rw[HX.out];rfl,by rw[HX.out];exact zmG HB5.out q3⟩
 have HOK:=hid hok;clear hok;rcases hhas:hasW zb9 s0 with _|_
 ·have HX:=hid (zq3 HOK.out HWS.out HW0.out hhas)
  go_upto_region 6 with fail
  refine ez (fun V=>Below w5.heap.size w5 V) ?_ fun hHeld=>?_
  ·exact(Below.refl _ _).drew
  refine dq 1 rfl (h:=dq 2 rfl (h:=dq 3 rfl (hy:=by intro w hSw;(try dsimp only at hSw);(have y0:=zaa hSw kw);go_simp;try with_reducible rfl) (h:=?_)));refine rd 0 rfl fun K hK=>?_;go_simp;refine(zhn _).mono ?_;rintro e w6 ⟨DA,rfl,s6,b6⟩;have HS6:=hid s6;refine ke hK ?_ ?_
  ·exact zac hHeld b6 lr
  clear hK K hHeld;intro hHeld;refine rd 4 rfl fun K hK=>?_;go_simp;refine(zfo DA 11 11 w6.heap.size zb9 s0 w6 (HS6.out.reads lr) (by decide)).mono ?_;rintro e w7 ⟨rfl,rfl⟩;rw[hhas];refine ke hK ?_ ?_
  ·exact hHeld
  clear hK K hHeld;intro hHeld;refine dq 5 rfl (h:=dq 6 rfl (h:=?_));refine dn ?_;clear hhas;have HB6:=hid (zac HB5.out hHeld lr);have HBW6:=hid (zac HBW5.out hHeld lr);clear hHeld;have YR:=HY2.out.on HBW6.out;have HYR:=hid YR;obtain⟨z0,z1,z2,z3,z4⟩:=zaq YR;obtain⟨g0,g1,g2,g3,g4⟩:=zbF YR;have yl:=YR.lt;clear YR;go_wp2;obtain⟨q1,q2,q3⟩:=zb0 HYR.out (.int .i64 0) (.slice none 0 0) (.slice none 0 0) (.slice none 0 0) (.string ⟨#[]⟩);obtain⟨r0,r1,r2,r3,r4⟩:=zaq q1
  obtain⟨V,hV⟩:∃y,(World.setCell (World.setCell (World.setCell (World.setCell (World.setCell w6 ⟨w.heap.size+1,0,none⟩ (.int .i64 0)) ⟨w.heap.size+1,1,none⟩ (.slice none 0 0)) ⟨w.heap.size+1,2,none⟩ (.slice none 0 0)) ⟨w.heap.size+1,3,none⟩ (.slice none 0 0)) ⟨w.heap.size+1,4,none⟩ (.string ⟨#[]⟩))=y:=⟨_,rfl⟩
  rw[hV] at q3 r0 r1 r2 r3 r4⊢;exact bodyPost_ret (v:=.tuple #[.agg #[.int .i64 0,.slice none 0 0,.slice none 0 0,.slice none 0 0,.string ⟨#[]⟩],.slice none 0 0,.int .i64 7]) (by simp[results,results9,go_sem,r0,r1,r2,r3,r4]) rfl ⟨⟨none,0,0,none,0,0,none,0,0⟩,[],none,0,0,by rw[HX.out];rfl,by rw[HX.out];exact zmG HB6.out q3⟩
 go_upto_region 6 with fail
 refine ez (fun V=>Below w5.heap.size w5 V) ?_ fun hHeld=>?_
 ·exact(Below.refl _ _).drew
 refine dq 1 rfl (h:=dq 2 rfl (h:=dq 3 rfl (hy:=by intro w hSw;(try dsimp only at hSw);(have y0:=zaa hSw kw);go_simp;try with_reducible rfl) (h:=?_)));refine rd 0 rfl fun K hK=>?_;go_simp;refine(zhn _).mono ?_;rintro e w6 ⟨DA,rfl,s6,b6⟩;have HS6:=hid s6;refine ke hK ?_ ?_
 ·exact zac hHeld b6 lr
 clear hK K hHeld;intro hHeld;refine rd 4 rfl fun K hK=>?_;go_simp;refine(zfo DA 11 11 w6.heap.size zb9 s0 w6 (HS6.out.reads lr) (by decide)).mono ?_;rintro e w7 ⟨rfl,rfl⟩;rw[hhas];refine ke hK ?_ ?_
 ·exact hHeld
 clear hK K hHeld;intro hHeld;refine dq 5 rfl (h:=dq 6 rfl (h:=?_));refine dn ?_;have HHAS:=hid hhas;have HB6:=hid (zac HB5.out hHeld lr);have HBW6:=hid (zac HBW5.out hHeld lr);have HTR6:=hid (HTR5.out.on HZ5.out hHeld);have HSW6:=hid (HS5.out.on hHeld);have HZ6:=hid (Nat.le_trans HZ5.out hHeld.size);clear hhas hHeld kw
 have hws1:IntKind.i64.wrap ((sh.size:Int)+1)=(sh.size:Int)+1:=by
  unfold IntKind.wrap;simp[IntKind.bits,IntKind.signed];omega
 go_upto_region 8 with fail
 go_cut [44] (fun sv wx=>sv= .bool (decide (wn<sh.size+1\/(ob=false/\sh.size+1<wn)))/\wx=w6)
 case first=>as_aux_lemma=>
  by_cases hl1:wn<sh.size+1
  ·have hl1i:(wn:Int)<(sh.size:Int)+1:=by omega
   go_wp2
   go_meet
   exact⟨congrArg Value.bool (decide_eq_true (.inl hl1)).symm,rfl⟩
  ·have hl1i:¬((wn:Int)<(sh.size:Int)+1):=by omega
   have hl1d:decide ((wn:Int)<(sh.size:Int)+1)=false:=decide_eq_false hl1i
   cases ob
   ·by_cases hl2:sh.size+1<wn
    ·have hl2i:(sh.size:Int)+1<(wn:Int):=by omega
     go_wp2
     go_meet
     exact⟨congrArg Value.bool (decide_eq_true (.inr ⟨by simp,hl2⟩)).symm,rfl⟩
    ·have hl2i:¬((sh.size:Int)+1<(wn:Int)):=by omega
     go_wp2
     go_meet
     exact⟨congrArg Value.bool (decide_eq_false (fun h=>h.elim hl1 fun h=>hl2 h.2)).symm,rfl⟩
   ·go_wp2
    go_meet
    exact⟨congrArg Value.bool (decide_eq_false (fun h=>h.elim hl1 fun h=>by cases h.1)).symm,rfl⟩
 obtain⟨rfl,hwc⟩:=hcut;have hwc:=hwc.symm;subst hwc;by_cases hbad:wn<sh.size+1\/(ob=false/\sh.size+1<wn)
 ·have HX:=hid (zrN HOK.out HWS.out HW0.out HSH.out HHAS.out (by rw[HWL.out,HOB.out];exact hbad));rw[decide_eq_true hbad];clear hbad;have YR:=HY2.out.on HBW6.out;have HYR:=hid YR;obtain⟨z0,z1,z2,z3,z4⟩:=zaq YR;obtain⟨g0,g1,g2,g3,g4⟩:=zbF YR;have yl:=YR.lt;clear YR;go_wp2;obtain⟨q1,q2,q3⟩:=zb0 HYR.out (.int .i64 0) (.slice none 0 0) (.slice none 0 0) (.slice none 0 0) (.string ⟨#[]⟩);obtain⟨r0,r1,r2,r3,r4⟩:=zaq q1
  obtain⟨V,hV⟩:∃y,(World.setCell (World.setCell (World.setCell (World.setCell (World.setCell w6 ⟨w.heap.size+1,0,none⟩ (.int .i64 0)) ⟨w.heap.size+1,1,none⟩ (.slice none 0 0)) ⟨w.heap.size+1,2,none⟩ (.slice none 0 0)) ⟨w.heap.size+1,3,none⟩ (.slice none 0 0)) ⟨w.heap.size+1,4,none⟩ (.string ⟨#[]⟩))=y:=⟨_,rfl⟩
  rw[hV] at q3 r0 r1 r2 r3 r4⊢;exact bodyPost_ret (v:=.tuple #[.agg #[.int .i64 0,.slice none 0 0,.slice none 0 0,.slice none 0 0,.string ⟨#[]⟩],.slice none 0 0,.int .i64 7]) (by simp[results,results9,go_sem,r0,r1,r2,r3,r4]) rfl ⟨⟨none,0,0,none,0,0,none,0,0⟩,[],none,0,0,by rw[HX.out];rfl,by rw[HX.out];exact zmG HB6.out q3⟩
 rw[decide_eq_false hbad];have HFIT:=hid (show¬(ws.length<sh.size+1\/(zci sh=false/\sh.size+1<ws.length)) by rw[HWL.out,HOB.out];exact hbad)
 have HSZ:=hid (show 1<wn->0<sh.size from fun hw=>by
  rcases hq:ob with _|_
  ·rcases Nat.eq_zero_or_pos sh.size with h0|h0
   ·exact absurd (.inr ⟨hq,by omega⟩) hbad
   ·exact h0
  ·exact zrz (HOB.out.trans hq))
 clear hbad
 go_upto_region 10 with fail
 obtain⟨u,hu⟩:∃y,w6.alloc (.cells #[] 2)=y:=⟨_,rfl⟩
 have bu:Below w6.heap.size w6 u:=by rw[<-hu];exact bal _
 have HBU6:=hid bu;have su:Sl u w6.heap.size (w6.heap.size+1) 2 1 (some ⟨w6.heap.size,0,none⟩) 0 0 []:=by rw[<-hu];exact Sl.made _ _ _
 have zu:u.heap.size=w6.heap.size+1:=by rw[<-hu];simp
 have HZU:=hid zu;have HSU:=hid su;have HBWU:=hid (zac HBW6.out bu lr);have YU:=HY.out.on HBWU.out;obtain⟨d0,d1,d2,d3,d4⟩:=zaq YU;clear bu su zu YU
 go_wp2_with fail
 refine(zh6 h d B u (HR.out.on HBW.out HBWU.out) HS.out (Nat.le_trans HBW.out HBWU.out.size) HP1.out HP2.out (zhZ HOK.out)).mono ?_;rintro e w7 ⟨h7,rh7,rfl,o7,b7⟩;simp only[dkv];clear hu d0 d1 d2 d3 d4
 go_wp2_with fail
 obtain⟨u2,hu2⟩:∃y,w7.alloc (.cells #[.int .i64 d.net.sta,.slice h7.A1 h7.n1 h7.c1,.slice h7.A2 h7.n2 h7.c2,.slice h7.A3 h7.n3 h7.c3,.string d.log] 32)=y:=⟨_,rfl⟩
 have Y2:Blk u2 w7.heap.size 32 #[.int .i64 d.net.sta,.slice h7.A1 h7.n1 h7.c1,.slice h7.A2 h7.n2 h7.c2,.slice h7.A3 h7.n3 h7.c3,.string d.log]:=by rw[<-hu2];exact Blk.new _ _ _
 have B2:Below w7.heap.size w7 u2:=by rw[<-hu2];exact bal _
 rw[hu2];have HSN:=(HSU.out.on b7).on B2;have HACC:=hid (Acc.start HSN (fun a ha=>by injection ha with ha;subst ha;rfl) u2.heap.size);have HY2B:=hid Y2;have HO7:=hid (o7.on B2);have HB62:=hid (zac (zac HBU6.out b7 lr) B2 lr);have HBX:=hid (zac HBW6.out HB62.out lr);have HTR2:=hid (HTR6.out.on HZ6.out HB62.out);have HSW2:=hid (HSW6.out.on HB62.out);have HG7:=hid (show w6.heap.size+1<=w7.heap.size by have:=b7.size;have:=HZU.out;omega);have HG2:=hid (show u2.heap.size=w7.heap.size+1 by rw[<-hu2];simp);have HUL:=hid (show w.heap.size+1+1<=w6.heap.size by have:=HZ.out;have:=HBW6.out.size;omega);have HWU:=hid (show W.heap.size<=w6.heap.size from HBW6.out.size);have HZ62:=hid HB62.out.size
 clear Y2 B2 o7 b7 hu2 HSN hTA
 go_loopw [10,70] (fun o i wr=>∃(k nn:Nat) (A':Option Addr) (d':Nat) (acc:List Int),k<=wn-1/\nn<=k/\i= .int .i64 (k:Int)/\o= .slice A' nn d'/\Acc w6.heap.size u2.heap.size 2 1 u2 wr A' nn d' (ints acc)/\zaD sh (ws.drop 1) 0 []=zaD sh ((ws.drop 1).drop k) k acc) (fun _ i _=>wn-(RowKit.intOf i).toNat)
 case atStart=>exact⟨0,0,_,_,[],Nat.zero_le _,Nat.le_refl _,rfl,rfl,HACC.out,rfl⟩
 case round=>
  obtain⟨k,nn,A',d',acc,hk,hnk,rfl,rfl,hacc,hnum⟩:=hrel;have HA:=hid hacc;have HN:=hid hnum;have HBR:=hid (HBX.out.trans (hacc.below (B:=W.heap.size) HWU.out (Nat.le_trans HWU.out HZ62.out)));have HB0:=hid (zac HB.out HBR.out lr);clear hacc hnum;have hki:(0:Int)<=k:=by omega
  by_cases hlt:k<wn-1
  ·obtain⟨x,bx,ox,hx,rfl,hbx,q0⟩:=zaP (HA.out.reads HTR2.out (Nat.le_trans HZ6.out HZ62.out) HZ6.out) hlt;have hxs:x.size<=1048576:=Nat.le_trans (HZS.out x (List.mem_of_mem_drop (List.mem_of_getElem? hx))) (by have:=HHL.out;omega);have hsp:=HSZ.out (by omega)
   have HDR:=hid (show(ws.drop 1).drop k=x::(ws.drop 1).drop (k+1) by
    have hlen:=(List.getElem?_eq_some_iff.1 hx).1;rw[List.drop_eq_getElem_cons hlen,(List.getElem?_eq_some_iff.1 hx).2])
   obtain⟨q,hq⟩:∃q,min k (sh.size-1)=q:=⟨_,rfl⟩
   have hql:q<sh.size:=by omega
   have HKB:=hid (zsi hq hql);have hmn:min (k:Int) ((sh.size:Int)-1)=(q:Int):=by omega
   have hwm1:IntKind.i64.wrap ((sh.size:Int)-1)=(sh.size:Int)-1:=by
    unfold IntKind.wrap;simp[IntKind.bits,IntKind.signed];omega
   have hqi:(0:Int)<=q:=by omega
   have hqs:(q:Int)<sh.size:=by omega
   have hkw:(k:Int)<((wn-1:Nat):Int):=by omega
   clear hx hq hsp;by_cases hk1:sh[q]=110
   ·have HKD:=hid (show zbh sh k=110\/zbh sh k=42 from .inl (HKB.out.trans hk1));have hx1:((sh[q].toNat:Int) !=110)=false:=by rw[hk1];rfl
    clear hk1
    go_wp2_with fail
    refine(za7 x wr (by omega) (zdM HT0.out HLOW.out HB0.out) (zfZ HV0.out HLOW.out HB0.out)).mono ?_;rintro e w8 ⟨rfl,b8⟩;have HBR8:=hid (zac HBR.out b8 lr);have HA8:=hid (HA.out.on b8 lr);clear b8 q0;obtain⟨v,hv⟩:∃v,(zak x.data.toList).1=v:=⟨_,rfl⟩
    rw[hv];rcases hrd:(zak x.data.toList).2 with _|_
    ·have HX:=hid (zmF (d:=d) HOK.out HWS.out HW0.out HSH.out HHAS.out HFIT.out (by rw[HN.out,HDR.out,zaD,if_pos HKD.out,if_neg (by rw[hrd];decide)]));clear hrd hv;have YB:=HA8.out.blk HY2B.out (by have:=HG2.out;omega) (by have:=HG7.out;omega);have HYB:=hid YB;have HRB:=hid (HY2.out.on HBR8.out);obtain⟨nm,hnm⟩:∃z,cnm.getD 7 ⟨#[]⟩=z:=⟨_,rfl⟩
     have hov:¬(9223372036854775807<6+nm.size):=by have:=zgG 7;rw[hnm] at this;omega
     have HNM:=hid hnm;have HEL:=hid (show errL 7=(⟨#[101,114,114,111,114,32]⟩:ByteArray)++nm by unfold errL;rw[hnm]);clear hnm;have hlo8:w.heap.size+1+1<=u.heap.size:=by have:=HUL.out;have:=HZU.out;omega
     have oww:=HO7.out.off (S:=fun b=>b=w6.heap.size) ⟨HA8.out.os,HA8.out.tape,HA8.out.output,HA8.out.size,fun k hk hn=>HA8.out.block k hk hn⟩ (fun b hb e=>by have:=(HO7.out.inD_lt hb).1;have:=HZU.out;omega);have HOW8:=hid (oww.low.on (w':=w8.drew) (Below.refl _ _).drew);have HB8:=hid (zac HB.out HBR8.out lr).drew;have hu8:u.heap.size<=w8.drew.heap.size:=by have:=HBR8.out.size;have:=HA8.out.size;have:=HG2.out;have:=HG7.out;have:=HZU.out;show u.heap.size<=w8.heap.size;omega
     have hg8:w.heap.size+1+1<=w7.heap.size:=by have:=HUL.out;have:=HG7.out;omega
     clear oww YB
     go_upto_region 18 with fail
     refine ez (fun V=>Blk V w7.heap.size 32 #[.int .i64 d.net.sta,.slice h7.A1 h7.n1 h7.c1,.slice h7.A2 h7.n2 h7.c2,.slice h7.A3 h7.n3 h7.c3,.string d.log]) ?_ fun hHeld=>?_
     ·exact HYB.out.drew
     refine dq 0 rfl (hy:=by intro w hSw;(try dsimp only at hSw);obtain⟨l0,l1,l2,l3,l4⟩:=zaq hSw;go_simp;try with_reducible rfl) (h:=?_);refine rd 1 rfl fun K hK=>?_;go_simp;refine(zls _ (HC0.out.upB HLOW.out HB8.out)).mono ?_;rintro e w9 ⟨rfl,hw9⟩;rw[HNM.out];have HW9:=hid hw9;have HRB9:=hid (show Blk w9 (w.heap.size+1) 32 #[.int .i64 0,.slice none 0 0,.slice none 0 0,.slice none 0 0,.string ⟨#[]⟩] by rw[HW9.out];exact HRB.out.drew);have HOW9:=hid (show OwnD w9 u.heap.size w9.heap.size h7 d rh7 by rw[HW9.out];exact HOW8.out);have HB9:=hid (show Below w.heap.size w w9 by rw[HW9.out];exact HB8.out);have hu9:u.heap.size<=w9.heap.size:=by rw[HW9.out];exact hu8
     clear hw9;refine ke hK ?_ ?_
     ·rw[HW9.out];exact hHeld
     clear hK K hHeld;intro hHeld;refine dq 2 rfl (h:=?_);refine wpAnyH_ready (rs:=[3,4]) (by kernel_rfl) (by simp) ?_;refine AllReadyH.cons rfl (fun K hK=>?_) ?_
     ·skip
      go_simp;refine ke hK ?_ ?_
      ·exact hHeld.alloc _
      clear hK K hHeld;intro hHeld;refine rd 4 rfl fun K hK=>?_;have YR:=HRB9.out.alloc (.cells #[.string ((⟨#[101,114,114,111,114,32]⟩:ByteArray)++nm)] 9);obtain⟨z0,z1,z2,z3,z4⟩:=zaq YR;obtain⟨g0,g1,g2,g3,g4⟩:=zbF YR;have yl:=YR.lt;go_simp;refine ke hK ?_ ?_
      ·obtain⟨q1,q2,q3⟩:=zb0 (HRB9.out.alloc (.cells #[.string ((⟨#[101,114,114,111,114,32]⟩:ByteArray)++nm)] 9)) (.int .i64 d.net.sta) (.slice h7.A1 h7.n1 h7.c1) (.slice h7.A2 h7.n2 h7.c2) (.slice h7.A3 h7.n3 h7.c3) (.string d.log);exact Blk.apart (show Blk _ _ _ _ from hHeld) q3 (.inr hg8)
      clear hK K hHeld;intro hHeld;refine dq 5 rfl (h:=dq 6 rfl (h:=?_));refine dn ?_;go_wp2;obtain⟨q1,q2,q3⟩:=zb0 (HRB9.out.alloc (.cells #[.string ((⟨#[101,114,114,111,114,32]⟩:ByteArray)++nm)] 9)) (.int .i64 d.net.sta) (.slice h7.A1 h7.n1 h7.c1) (.slice h7.A2 h7.n2 h7.c2) (.slice h7.A3 h7.n3 h7.c3) (.string d.log);obtain⟨r0,r1,r2,r3,r4⟩:=zaq q1
      obtain⟨V,hV⟩:∃y,(World.setCell (World.setCell (World.setCell (World.setCell (World.setCell (w9.alloc (.cells #[.string ((⟨#[101,114,114,111,114,32]⟩:ByteArray)++nm)] 9)) ⟨w.heap.size+1,0,none⟩ (.int .i64 d.net.sta)) ⟨w.heap.size+1,1,none⟩ (.slice h7.A1 h7.n1 h7.c1)) ⟨w.heap.size+1,2,none⟩ (.slice h7.A2 h7.n2 h7.c2)) ⟨w.heap.size+1,3,none⟩ (.slice h7.A3 h7.n3 h7.c3)) ⟨w.heap.size+1,4,none⟩ (.string d.log))=y:=⟨_,rfl⟩
      rw[hV] at q3 r0 r1 r2 r3 r4⊢;exact bodyPost_ret (v:=.tuple #[.agg #[.int .i64 d.net.sta,.slice h7.A1 h7.n1 h7.c1,.slice h7.A2 h7.n2 h7.c2,.slice h7.A3 h7.n3 h7.c3,.string d.log],.slice (some ⟨w9.heap.size,0,none⟩) 1 1,.int .i64 0]) (by simp[results,results9,go_sem,r0,r1,r2,r3,r4]) rfl ⟨h7,rh7,_,1,1,by rw[HX.out];rfl,by rw[HX.out,HEL.out];exact zje HB9.out q3 hlo8 hu9 HOW9.out⟩
     refine AllReadyH.cons rfl (fun K hK=>?_) ?_
     ·skip
      have YR:=HRB9.out;obtain⟨z0,z1,z2,z3,z4⟩:=zaq YR;obtain⟨g0,g1,g2,g3,g4⟩:=zbF YR;have yl:=YR.lt;go_simp;refine ke hK ?_ ?_
      ·obtain⟨q1,q2,q3⟩:=zb0 (HRB9.out) (.int .i64 d.net.sta) (.slice h7.A1 h7.n1 h7.c1) (.slice h7.A2 h7.n2 h7.c2) (.slice h7.A3 h7.n3 h7.c3) (.string d.log);exact Blk.apart (show Blk _ _ _ _ from hHeld) q3 (.inr hg8)
      clear hK K hHeld;intro hHeld;refine rd 3 rfl fun K hK=>?_;go_simp;refine ke hK ?_ ?_
      ·exact hHeld.alloc _
      clear hK K hHeld;intro hHeld;refine dq 5 rfl (h:=dq 6 rfl (h:=?_));refine dn ?_;go_wp2;obtain⟨q1,q2,q3⟩:=zb0 HRB9.out (.int .i64 d.net.sta) (.slice h7.A1 h7.n1 h7.c1) (.slice h7.A2 h7.n2 h7.c2) (.slice h7.A3 h7.n3 h7.c3) (.string d.log);obtain⟨V,hV⟩:∃y,(World.setCell (World.setCell (World.setCell (World.setCell (World.setCell w9 ⟨w.heap.size+1,0,none⟩ (.int .i64 d.net.sta)) ⟨w.heap.size+1,1,none⟩ (.slice h7.A1 h7.n1 h7.c1)) ⟨w.heap.size+1,2,none⟩ (.slice h7.A2 h7.n2 h7.c2)) ⟨w.heap.size+1,3,none⟩ (.slice h7.A3 h7.n3 h7.c3)) ⟨w.heap.size+1,4,none⟩ (.string d.log))=y:=⟨_,rfl⟩
      rw[hV] at q1 q2 q3⊢;have qa:=q1.alloc (.cells #[.string ((⟨#[101,114,114,111,114,32]⟩:ByteArray)++nm)] 9);obtain⟨r0,r1,r2,r3,r4⟩:=zaq qa;exact bodyPost_ret (v:=.tuple #[.agg #[.int .i64 d.net.sta,.slice h7.A1 h7.n1 h7.c1,.slice h7.A2 h7.n2 h7.c2,.slice h7.A3 h7.n3 h7.c3,.string d.log],.slice (some ⟨V.heap.size,0,none⟩) 1 1,.int .i64 0]) (by simp[results,results9,go_sem,r0,r1,r2,r3,r4,q2]) rfl ⟨h7,rh7,_,1,1,by rw[HX.out];rfl,by rw[HX.out,HEL.out];exact zmD HB9.out q3 hlo8 HOW9.out⟩
     exact AllReadyH.nil
    have HNX:=hid (show zaD sh (ws.drop 1) 0 []=zaD sh ((ws.drop 1).drop (k+1)) (k+1) (acc++ [v]) by rw[HN.out,HDR.out,zaD,if_pos HKD.out,if_pos hrd,hv]);clear hrd hv
    go_wp2_with (at_builtin;refine zcH rfl _ _ 29 rfl 2 _ 1 8 underlying29 zaX rfl (by decide) (by decide) HA8.out lr rfl _ rfl [.int .i64 v] rfl rfl (fun u hu=>by simp at hu;subst hu;rfl) (by omega) ?_;intro A9 d9 w9 hacc9;have HA9:=hid hacc9;clear hacc9)
    go_roundw
    case rel=>exact⟨k+1,nn+1,A9,d9,acc++ [v],by omega,by omega,by go_num,rfl,by rw[<-zbp];exact HA9.out,HNX.out⟩
    case measure=>simp[RowKit.intOf];omega
   by_cases hk2:sh[q]=42
   ·have HKD:=hid (show zbh sh k=110\/zbh sh k=42 from .inr (HKB.out.trans hk2));have hx1:((sh[q].toNat:Int) !=110)=true:=by rw[hk2];rfl
    have hx2:((sh[q].toNat:Int) !=42)=false:=by rw[hk2];rfl
    clear hk1 hk2
    go_wp2_with fail
    refine(za7 x wr (by omega) (zdM HT0.out HLOW.out HB0.out) (zfZ HV0.out HLOW.out HB0.out)).mono ?_;rintro e w8 ⟨rfl,b8⟩;have HBR8:=hid (zac HBR.out b8 lr);have HA8:=hid (HA.out.on b8 lr);clear b8 q0;obtain⟨v,hv⟩:∃v,(zak x.data.toList).1=v:=⟨_,rfl⟩
    rw[hv];rcases hrd:(zak x.data.toList).2 with _|_
    ·have HX:=hid (zmF (d:=d) HOK.out HWS.out HW0.out HSH.out HHAS.out HFIT.out (by rw[HN.out,HDR.out,zaD,if_pos HKD.out,if_neg (by rw[hrd];decide)]));clear hrd hv;have YB:=HA8.out.blk HY2B.out (by have:=HG2.out;omega) (by have:=HG7.out;omega);have HYB:=hid YB;have HRB:=hid (HY2.out.on HBR8.out);obtain⟨nm,hnm⟩:∃z,cnm.getD 7 ⟨#[]⟩=z:=⟨_,rfl⟩
     have hov:¬(9223372036854775807<6+nm.size):=by have:=zgG 7;rw[hnm] at this;omega
     have HNM:=hid hnm;have HEL:=hid (show errL 7=(⟨#[101,114,114,111,114,32]⟩:ByteArray)++nm by unfold errL;rw[hnm]);clear hnm;have hlo8:w.heap.size+1+1<=u.heap.size:=by have:=HUL.out;have:=HZU.out;omega
     have oww:=HO7.out.off (S:=fun b=>b=w6.heap.size) ⟨HA8.out.os,HA8.out.tape,HA8.out.output,HA8.out.size,fun k hk hn=>HA8.out.block k hk hn⟩ (fun b hb e=>by have:=(HO7.out.inD_lt hb).1;have:=HZU.out;omega);have HOW8:=hid (oww.low.on (w':=w8.drew) (Below.refl _ _).drew);have HB8:=hid (zac HB.out HBR8.out lr).drew;have hu8:u.heap.size<=w8.drew.heap.size:=by have:=HBR8.out.size;have:=HA8.out.size;have:=HG2.out;have:=HG7.out;have:=HZU.out;show u.heap.size<=w8.heap.size;omega
     have hg8:w.heap.size+1+1<=w7.heap.size:=by have:=HUL.out;have:=HG7.out;omega
     clear oww YB
     go_upto_region 18 with fail
     refine ez (fun V=>Blk V w7.heap.size 32 #[.int .i64 d.net.sta,.slice h7.A1 h7.n1 h7.c1,.slice h7.A2 h7.n2 h7.c2,.slice h7.A3 h7.n3 h7.c3,.string d.log]) ?_ fun hHeld=>?_
     ·exact HYB.out.drew
     refine dq 0 rfl (hy:=by intro w hSw;(try dsimp only at hSw);obtain⟨l0,l1,l2,l3,l4⟩:=zaq hSw;go_simp;try with_reducible rfl) (h:=?_);refine rd 1 rfl fun K hK=>?_;go_simp;refine(zls _ (HC0.out.upB HLOW.out HB8.out)).mono ?_;rintro e w9 ⟨rfl,hw9⟩;rw[HNM.out];have HW9:=hid hw9;have HRB9:=hid (show Blk w9 (w.heap.size+1) 32 #[.int .i64 0,.slice none 0 0,.slice none 0 0,.slice none 0 0,.string ⟨#[]⟩] by rw[HW9.out];exact HRB.out.drew);have HOW9:=hid (show OwnD w9 u.heap.size w9.heap.size h7 d rh7 by rw[HW9.out];exact HOW8.out);have HB9:=hid (show Below w.heap.size w w9 by rw[HW9.out];exact HB8.out);have hu9:u.heap.size<=w9.heap.size:=by rw[HW9.out];exact hu8
     clear hw9;refine ke hK ?_ ?_
     ·rw[HW9.out];exact hHeld
     clear hK K hHeld;intro hHeld;refine dq 2 rfl (h:=?_);refine wpAnyH_ready (rs:=[3,4]) (by kernel_rfl) (by simp) ?_;refine AllReadyH.cons rfl (fun K hK=>?_) ?_
     ·skip
      go_simp;refine ke hK ?_ ?_
      ·exact hHeld.alloc _
      clear hK K hHeld;intro hHeld;refine rd 4 rfl fun K hK=>?_;have YR:=HRB9.out.alloc (.cells #[.string ((⟨#[101,114,114,111,114,32]⟩:ByteArray)++nm)] 9);obtain⟨z0,z1,z2,z3,z4⟩:=zaq YR;obtain⟨g0,g1,g2,g3,g4⟩:=zbF YR;have yl:=YR.lt;go_simp;refine ke hK ?_ ?_
      ·obtain⟨q1,q2,q3⟩:=zb0 (HRB9.out.alloc (.cells #[.string ((⟨#[101,114,114,111,114,32]⟩:ByteArray)++nm)] 9)) (.int .i64 d.net.sta) (.slice h7.A1 h7.n1 h7.c1) (.slice h7.A2 h7.n2 h7.c2) (.slice h7.A3 h7.n3 h7.c3) (.string d.log);exact Blk.apart (show Blk _ _ _ _ from hHeld) q3 (.inr hg8)
      clear hK K hHeld;intro hHeld;refine dq 5 rfl (h:=dq 6 rfl (h:=?_));refine dn ?_;go_wp2;obtain⟨q1,q2,q3⟩:=zb0 (HRB9.out.alloc (.cells #[.string ((⟨#[101,114,114,111,114,32]⟩:ByteArray)++nm)] 9)) (.int .i64 d.net.sta) (.slice h7.A1 h7.n1 h7.c1) (.slice h7.A2 h7.n2 h7.c2) (.slice h7.A3 h7.n3 h7.c3) (.string d.log);obtain⟨r0,r1,r2,r3,r4⟩:=zaq q1
      obtain⟨V,hV⟩:∃y,(World.setCell (World.setCell (World.setCell (World.setCell (World.setCell (w9.alloc (.cells #[.string ((⟨#[101,114,114,111,114,32]⟩:ByteArray)++nm)] 9)) ⟨w.heap.size+1,0,none⟩ (.int .i64 d.net.sta)) ⟨w.heap.size+1,1,none⟩ (.slice h7.A1 h7.n1 h7.c1)) ⟨w.heap.size+1,2,none⟩ (.slice h7.A2 h7.n2 h7.c2)) ⟨w.heap.size+1,3,none⟩ (.slice h7.A3 h7.n3 h7.c3)) ⟨w.heap.size+1,4,none⟩ (.string d.log))=y:=⟨_,rfl⟩
      rw[hV] at q3 r0 r1 r2 r3 r4⊢;exact bodyPost_ret (v:=.tuple #[.agg #[.int .i64 d.net.sta,.slice h7.A1 h7.n1 h7.c1,.slice h7.A2 h7.n2 h7.c2,.slice h7.A3 h7.n3 h7.c3,.string d.log],.slice (some ⟨w9.heap.size,0,none⟩) 1 1,.int .i64 0]) (by simp[results,results9,go_sem,r0,r1,r2,r3,r4]) rfl ⟨h7,rh7,_,1,1,by rw[HX.out];rfl,by rw[HX.out,HEL.out];exact zje HB9.out q3 hlo8 hu9 HOW9.out⟩
     refine AllReadyH.cons rfl (fun K hK=>?_) ?_
     ·skip
      have YR:=HRB9.out;obtain⟨z0,z1,z2,z3,z4⟩:=zaq YR;obtain⟨g0,g1,g2,g3,g4⟩:=zbF YR;have yl:=YR.lt;go_simp;refine ke hK ?_ ?_
      ·obtain⟨q1,q2,q3⟩:=zb0 (HRB9.out) (.int .i64 d.net.sta) (.slice h7.A1 h7.n1 h7.c1) (.slice h7.A2 h7.n2 h7.c2) (.slice h7.A3 h7.n3 h7.c3) (.string d.log);exact Blk.apart (show Blk _ _ _ _ from hHeld) q3 (.inr hg8)
      clear hK K hHeld;intro hHeld;refine rd 3 rfl fun K hK=>?_;go_simp;refine ke hK ?_ ?_
      ·exact hHeld.alloc _
      clear hK K hHeld;intro hHeld;refine dq 5 rfl (h:=dq 6 rfl (h:=?_));refine dn ?_;go_wp2;obtain⟨q1,q2,q3⟩:=zb0 HRB9.out (.int .i64 d.net.sta) (.slice h7.A1 h7.n1 h7.c1) (.slice h7.A2 h7.n2 h7.c2) (.slice h7.A3 h7.n3 h7.c3) (.string d.log);obtain⟨V,hV⟩:∃y,(World.setCell (World.setCell (World.setCell (World.setCell (World.setCell w9 ⟨w.heap.size+1,0,none⟩ (.int .i64 d.net.sta)) ⟨w.heap.size+1,1,none⟩ (.slice h7.A1 h7.n1 h7.c1)) ⟨w.heap.size+1,2,none⟩ (.slice h7.A2 h7.n2 h7.c2)) ⟨w.heap.size+1,3,none⟩ (.slice h7.A3 h7.n3 h7.c3)) ⟨w.heap.size+1,4,none⟩ (.string d.log))=y:=⟨_,rfl⟩
      rw[hV] at q1 q2 q3⊢;have qa:=q1.alloc (.cells #[.string ((⟨#[101,114,114,111,114,32]⟩:ByteArray)++nm)] 9);obtain⟨r0,r1,r2,r3,r4⟩:=zaq qa;exact bodyPost_ret (v:=.tuple #[.agg #[.int .i64 d.net.sta,.slice h7.A1 h7.n1 h7.c1,.slice h7.A2 h7.n2 h7.c2,.slice h7.A3 h7.n3 h7.c3,.string d.log],.slice (some ⟨V.heap.size,0,none⟩) 1 1,.int .i64 0]) (by simp[results,results9,go_sem,r0,r1,r2,r3,r4,q2]) rfl ⟨h7,rh7,_,1,1,by rw[HX.out];rfl,by rw[HX.out,HEL.out];exact zmD HB9.out q3 hlo8 HOW9.out⟩
     exact AllReadyH.nil
    have HNX:=hid (show zaD sh (ws.drop 1) 0 []=zaD sh ((ws.drop 1).drop (k+1)) (k+1) (acc++ [v]) by rw[HN.out,HDR.out,zaD,if_pos HKD.out,if_pos hrd,hv]);clear hrd hv
    go_wp2_with (at_builtin;refine zcH rfl _ _ 29 rfl 2 _ 1 8 underlying29 zaX rfl (by decide) (by decide) HA8.out lr rfl _ rfl [.int .i64 v] rfl rfl (fun u hu=>by simp at hu;subst hu;rfl) (by omega) ?_;intro A9 d9 w9 hacc9;have HA9:=hid hacc9;clear hacc9)
    go_roundw
    case rel=>exact⟨k+1,nn+1,A9,d9,acc++ [v],by omega,by omega,by go_num,rfl,by rw[<-zbp];exact HA9.out,HNX.out⟩
    case measure=>simp[RowKit.intOf];omega
   have HKD:=hid (show¬(zbh sh k=110\/zbh sh k=42) by rw[HKB.out];exact fun h=>h.elim hk1 hk2)
   have hx1:((sh[q].toNat:Int) !=110)=true:=by
    rw[bne_iff_ne];intro e;exact hk1 (by rw[<-UInt8.toNat_inj];show _=110;omega)
   have hx2:((sh[q].toNat:Int) !=42)=true:=by
    rw[bne_iff_ne];intro e;exact hk2 (by rw[<-UInt8.toNat_inj];show _=42;omega)
   clear hk1 hk2;go_wp2
   go_roundw
   case rel=>exact⟨k+1,nn,A',d',acc,by omega,by omega,by go_num,rfl,HA.out,by rw[HN.out,HDR.out,zaD,if_neg HKD.out]⟩
   case measure=>simp[RowKit.intOf];omega
  ·obtain rfl:k=wn-1:=by omega
   have HNS:=hid (show zaD sh (ws.drop 1) 0 []=some acc by rw[HN.out,List.drop_drop,List.drop_eq_nil_of_le (by rw[HWL.out];omega),zaD]);have hkw:¬((wn-1:Nat):Int)<((wn-1:Nat):Int):=by omega
   go_wp2_with fail
   have hcapn:=Sl.cap_ge (HA.out.sl (lo:=0) (Nat.zero_le _) (Nat.zero_le _));have hulo:w.heap.size+1+1<=u.heap.size:=by have:=HUL.out;have:=HZU.out;omega
   have oww:=HO7.out.off (S:=fun b=>b=w6.heap.size) ⟨HA.out.os,HA.out.tape,HA.out.output,HA.out.size,fun k hk hn=>HA.out.block k hk hn⟩ (fun b hb e=>by have:=(HO7.out.inD_lt hb).1;have:=HZU.out;omega)
   have XI:ExIn wr u.heap.size w7.heap.size h7 d rh7 (some ⟨bw,ow,none⟩) wn ws A' nn acc m:=
    {blk:=HA.out.blk HY2B.out (by have:=HG2.out;omega) (by have:=HG7.out;omega)
     own:=oww.low
     gne:=fun b hb e=>by have:=(HO7.out.inD_lt hb).2;omega
     glo:=by have:=HG7.out;have:=HZU.out;omega
     small:=zny HO7.out HOK.out
     ok:=HOK.out
     wsr:=(HA.out.reads (HSW2.out.reads lr) (Nat.le_trans HZ6.out HZ62.out) HZ6.out).more (by have:=HZ6.out;have:=HZU.out;omega)
     nsr:=(HA.out.sl (lo:=0) (Nat.zero_le _) (Nat.zero_le _)).reads lr
     wl:=by omega
     nl:=by omega
     wsz:=fun x hx=>Nat.le_trans (HZS.out x hx) (by have:=HHL.out;omega)
     nsb:=(zfS _ _ _ _ _ HNS.out (fun x hx=>by cases hx)).1
     max:=zhW HM0.out HLOW.out HB0.out
     tab:=zdM HT0.out HLOW.out HB0.out
     syn:=zfZ HV0.out HLOW.out HB0.out
     low:=Nat.lt_of_lt_of_le HLOW.out (by omega)}
   refine(zrY wcap d' XI hw0 HCAP.out hcapn (zrP HWS.out HW0.out HSH.out HHAS.out HFIT.out HNS.out HHL.out)).mono ?_;rintro e w9 ⟨LA,ln,lc,rfl,h9,rh9,xo⟩;have hec:=zrW d ws acc;have HX1:=hid (fun hc=>zrM (d:=d) HOK.out HWS.out HW0.out HSH.out HHAS.out HFIT.out HNS.out hc);have HX2:=hid (fun hc=>zrO (d:=d) HOK.out HWS.out HW0.out HSH.out HHAS.out HFIT.out HNS.out hc);obtain⟨x,hx⟩:∃z,execF d ws acc=z:=⟨_,rfl⟩
   rw[hx] at xo hec HX1 HX2⊢;have XO:=hid xo;have HBW9:=hid (HBR.out.trans (xo.bel.mono (by have:=HWU.out;have:=HZU.out;omega)));have HB9:=hid (zac HB.out HBW9.out lr);clear XI oww xo hx;by_cases hc:x.code=0
   ·have HX:=hid (HX2.out hc);have HCZ:=hid hc;have hcb:(x.code !=0)=false:=by rw[hc];rfl
    have YB:=XO.out.blk;obtain⟨c0,c1,c2,c3,c4⟩:=zaq YB;clear YB hc hec;have YR:=HY2.out.on HBW9.out;have HYR:=hid YR;obtain⟨z0,z1,z2,z3,z4⟩:=zaq YR;obtain⟨g0,g1,g2,g3,g4⟩:=zbF YR;have yl:=YR.lt;clear YR;go_wp2;obtain⟨q1,q2,q3⟩:=zb0 HYR.out (.int .i64 x.dk.net.sta) (.slice h9.A1 h9.n1 h9.c1) (.slice h9.A2 h9.n2 h9.c2) (.slice h9.A3 h9.n3 h9.c3) (.string x.dk.log);obtain⟨r0,r1,r2,r3,r4⟩:=zaq q1
    obtain⟨V,hV⟩:∃y,(World.setCell (World.setCell (World.setCell (World.setCell (World.setCell w9 ⟨w.heap.size+1,0,none⟩ (.int .i64 x.dk.net.sta)) ⟨w.heap.size+1,1,none⟩ (.slice h9.A1 h9.n1 h9.c1)) ⟨w.heap.size+1,2,none⟩ (.slice h9.A2 h9.n2 h9.c2)) ⟨w.heap.size+1,3,none⟩ (.slice h9.A3 h9.n3 h9.c3)) ⟨w.heap.size+1,4,none⟩ (.string x.dk.log))=y:=⟨_,rfl⟩
    rw[hV] at q3 r0 r1 r2 r3 r4⊢;exact bodyPost_ret (v:=.tuple #[.agg #[.int .i64 x.dk.net.sta,.slice h9.A1 h9.n1 h9.c1,.slice h9.A2 h9.n2 h9.c2,.slice h9.A3 h9.n3 h9.c3,.string x.dk.log],.slice LA ln lc,.int .i64 0]) (by simp[results,results9,go_sem,r0,r1,r2,r3,r4]) rfl ⟨h9,rh9,LA,ln,lc,by rw[HX.out,HCZ.out];rfl,by rw[HX.out];exact zix HB9.out q3 hulo XO.out.own XO.out.row XO.out.lne⟩
   obtain⟨cn,hcn⟩:=Int.eq_ofNat_of_zero_le hec.1;have HX:=hid (HX1.out hc);rw[hcn] at hc hec⊢;have hcb:((cn:Int) !=0)=true:=by rw[bne_iff_ne];exact hc
   have hcn9:cn<=10:=by omega
   have HCN:=hid (show x.code.toNat=cn by rw[hcn];rfl);obtain⟨nm,hnm⟩:∃z,cnm.getD cn ⟨#[]⟩=z:=⟨_,rfl⟩
   have hov:¬(9223372036854775807<6+nm.size):=by have:=zgG cn;rw[hnm] at this;omega
   have HNM:=hid hnm;have HEL:=hid (show errL cn=(⟨#[101,114,114,111,114,32]⟩:ByteArray)++nm by unfold errL;rw[hnm]);clear hnm;have YA:=HY.out.on HBW9.out;obtain⟨c0,c1,c2,c3,c4⟩:=zaq YA;clear YA hc hec hcn
   go_wp2_with fail
   refine(zh6 h d B w9 (HR.out.on HBW.out HBW9.out) HS.out (Nat.le_trans HBW.out HBW9.out.size) HP1.out HP2.out (zhZ HOK.out)).mono ?_;rintro e w10 ⟨h8,rh8,rfl,o8,b8⟩;simp only[dkv];have HO8:=hid o8;have HBW10:=hid (zac HBW9.out b8 lr);have HB10:=hid (zac HB.out HBW10.out lr);have HZ10:=hid b8.size;clear o8 b8 c0 c1 c2 c3 c4
   go_wp2_with fail
   refine(zhz cn hcn9 w10 (HC0.out.upB HLOW.out HB10.out)).mono ?_;rintro e w11 ⟨rfl,hw11⟩;have hw11:=hw11.symm;subst hw11;rw[HNM.out];obtain⟨v,hv⟩:∃y,w10.alloc (.cells #[.string ((⟨#[101,114,114,111,114,32]⟩:ByteArray)++nm)] 9)=y:=⟨_,rfl⟩
   have YR:=(HY2.out.on HBW10.out).alloc (.cells #[.string ((⟨#[101,114,114,111,114,32]⟩:ByteArray)++nm)] 9);rw[hv] at YR;have HYR:=hid YR;obtain⟨z0,z1,z2,z3,z4⟩:=zaq YR;obtain⟨g0,g1,g2,g3,g4⟩:=zbF YR;have yl:=YR.lt;clear YR;go_wp2;obtain⟨q1,q2,q3⟩:=zb0 HYR.out (.int .i64 d.net.sta) (.slice h8.A1 h8.n1 h8.c1) (.slice h8.A2 h8.n2 h8.c2) (.slice h8.A3 h8.n3 h8.c3) (.string d.log);obtain⟨r0,r1,r2,r3,r4⟩:=zaq q1
   obtain⟨V,hV⟩:∃y,(World.setCell (World.setCell (World.setCell (World.setCell (World.setCell v ⟨w.heap.size+1,0,none⟩ (.int .i64 d.net.sta)) ⟨w.heap.size+1,1,none⟩ (.slice h8.A1 h8.n1 h8.c1)) ⟨w.heap.size+1,2,none⟩ (.slice h8.A2 h8.n2 h8.c2)) ⟨w.heap.size+1,3,none⟩ (.slice h8.A3 h8.n3 h8.c3)) ⟨w.heap.size+1,4,none⟩ (.string d.log))=y:=⟨_,rfl⟩
   rw[hV] at q3 r0 r1 r2 r3 r4⊢;rw[<-hv] at q3;exact bodyPost_ret (v:=.tuple #[.agg #[.int .i64 d.net.sta,.slice h8.A1 h8.n1 h8.c1,.slice h8.A2 h8.n2 h8.c2,.slice h8.A3 h8.n3 h8.c3,.string d.log],.slice (some ⟨w10.heap.size,0,none⟩) 1 1,.int .i64 0]) (by simp[results,results9,go_sem,r0,r1,r2,r3,r4]) rfl ⟨h8,rh8,_,1,1,by rw[HX.out];rfl,by rw[HX.out,HCN.out,HEL.out];exact zje HB10.out q3 (by have:=HZ.out;have:=HBW9.out.size;omega) HZ10.out HO8.out⟩
end Go.Proofs.YtjalgpioklcbfaaGreatDoor
