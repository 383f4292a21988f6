/- A line carried out, as the reference does it. -/
import Derived.Test.YtjalgpioklcbfaaGreatDoorKRfK
import Derived.Test.YtjalgpioklcbfaaGreatDoorMgDesksAW
set_option maxHeartbeats 4000000
set_option maxRecDepth 100000
set_option linter.unusedVariables false
set_option linter.unusedSimpArgs false
namespace Go.Proofs.YtjalgpioklcbfaaGreatDoor
open Go.RowKit Go.Lib Go.Proofs.Tryz
theorem StD.keep{w w':World}{lo g n c:Nat}{h:DkH}{d:Dk}{A:Option Addr}{ls:List ByteArray}{V6 V7:Value}(s:StD w lo g h d A n c ls V6 V7)(b:Below w.heap.size w w'):zbY w w' lo g A d ls:=⟨h,A,n,c,V6,V7,s.on b,Mv.below b⟩
theorem zsK{ws:List ByteArray}{s0:ByteArray}(h:ws[0]?=some s0):zag ws 0=s0:=by unfold zag;rw[List.getD_eq_getElem?_getD,h];rfl
theorem zqu(line:ByteArray):(zah 32 line).length<=line.size+1:=by
 have hs:=zc2 32 line;have hcnt:line.data.toList.count 32<=line.size:=by rw[<-za8 line];exact List.count_le_length
 omega
inductive Kn (ws:List ByteArray):ByteArray->ByteArray->List ByteArray->Prop
 |kNet (hw:((zag ws 0).toList==[110,101,116])=true):Kn ws ⟨#[114]⟩ ⟨#[43]⟩ [zbQ (ws.drop 1)]
 |kQueue (hw:((zag ws 0).toList==[113,117,101,117,101])=true):Kn ws ⟨#[108]⟩ ⟨#[42]⟩ []
 |kTimes (hw:((zag ws 0).toList==[116,105,109,101,115])=true):Kn ws ⟨#[108]⟩ ⟨#[42]⟩ []
 |kRun (hw:((zag ws 0).toList==[114,117,110])=true):Kn ws ⟨#[110,108]⟩ ⟨#[110,42]⟩ []
 |kSearch (hw:((zag ws 0).toList==[115,101,97,114,99,104])=true):Kn ws ⟨#[110,108]⟩ ⟨#[110,42]⟩ []
 |kStuck (hw:((zag ws 0).toList==[115,116,117,99,107])=true):Kn ws ⟨#[110,108]⟩ ⟨#[110,42]⟩ []
 |kWay (hw:((zag ws 0).toList==[119,97,121])=true):Kn ws ⟨#[110,110]⟩ ⟨#[110,110]⟩ []
 |kFree (hw:((zag ws 0).toList==[102,114,101,101])=true):Kn ws ⟨#[110,110,110]⟩ ⟨#[110,110,110]⟩ []
 |kEnter (hw:((zag ws 0).toList==[101,110,116,101,114])=true):Kn ws ⟨#[110,120,110]⟩ ⟨#[110,119,110]⟩ [zag ws 2]
 |kLog (hw:((zag ws 0).toList==[108,111,103])=true):Kn ws ⟨#[]⟩ ⟨#[]⟩ []
 |kRuns (hw:((zag ws 0).toList==[114,117,110,115])=true):Kn ws ⟨#[]⟩ ⟨#[]⟩ []
theorem zui{ws:List ByteArray}(h1:1<=ws.length)(h:hasW zb9 (zag ws 0)=true):∃f sh tx,Plan ws f sh tx/\Kn ws f sh tx:=by
 rcases ziB h with hw|hw|hw|hw|hw|hw|hw|hw|hw|hw|hw
 ·exact⟨_,_,_,zrh h1 hw,.kEnter hw⟩
 ·exact⟨_,_,_,zsw h1 hw,.kFree hw⟩
 ·exact⟨_,_,_,ztq h1 hw,.kLog hw⟩
 ·exact⟨_,_,_,ztr h1 hw,.kNet hw⟩
 ·exact⟨_,_,_,zri h1 hw,.kQueue hw⟩
 ·exact⟨_,_,_,zts h1 hw,.kRun hw⟩
 ·exact⟨_,_,_,zsx h1 hw,.kRuns hw⟩
 ·exact⟨_,_,_,zpZ h1 hw,.kSearch hw⟩
 ·exact⟨_,_,_,zrj h1 hw,.kStuck hw⟩
 ·exact⟨_,_,_,zrk h1 hw,.kTimes hw⟩
 ·exact⟨_,_,_,ztt h1 hw,.kWay hw⟩
theorem zud(d:Dk){ws:List ByteArray}(ns:List Int)(hw:((zag ws 0).toList==[110,101,116])=true):execF d ws ns=netC d ws:=by unfold execF;rw[if_pos hw]
theorem zsX(d:Dk){ws:List ByteArray}(ns:List Int)(hw:((zag ws 0).toList==[113,117,101,117,101])=true):execF d ws ns=queueC d ns:=by unfold execF;rw[eq_of_beq hw];rfl
theorem zsZ(d:Dk){ws:List ByteArray}(ns:List Int)(hw:((zag ws 0).toList==[116,105,109,101,115])=true):execF d ws ns=zcG d ns:=by unfold execF;rw[eq_of_beq hw];rfl
theorem zue(d:Dk){ws:List ByteArray}(ns:List Int)(hw:((zag ws 0).toList==[114,117,110])=true):execF d ws ns=runC d ns:=by unfold execF;rw[eq_of_beq hw];rfl
theorem zrV(d:Dk){ws:List ByteArray}(ns:List Int)(hw:((zag ws 0).toList==[115,101,97,114,99,104])=true):execF d ws ns=zcN d ns:=by unfold execF;rw[eq_of_beq hw];rfl
theorem zsY(d:Dk){ws:List ByteArray}(ns:List Int)(hw:((zag ws 0).toList==[115,116,117,99,107])=true):execF d ws ns=zcF d ns:=by unfold execF;rw[eq_of_beq hw];rfl
theorem zuf(d:Dk){ws:List ByteArray}(ns:List Int)(hw:((zag ws 0).toList==[119,97,121])=true):execF d ws ns=zfa d ns:=by unfold execF;rw[eq_of_beq hw];rfl
theorem ztF(d:Dk){ws:List ByteArray}(ns:List Int)(hw:((zag ws 0).toList==[102,114,101,101])=true):execF d ws ns=zeV d ns:=by unfold execF;rw[eq_of_beq hw];rfl
theorem zsW(d:Dk){ws:List ByteArray}(ns:List Int)(hw:((zag ws 0).toList==[101,110,116,101,114])=true):execF d ws ns=zcR d ws ns:=by unfold execF;rw[eq_of_beq hw];rfl
theorem zuc(d:Dk){ws:List ByteArray}(ns:List Int)(hw:((zag ws 0).toList==[108,111,103])=true):execF d ws ns=logC d:=by unfold execF;rw[if_neg (by rw[notW hw (by decide)];decide),if_neg (by rw[notW hw (by decide)];decide),if_neg (by rw[notW hw (by decide)];decide),if_neg (by rw[notW hw (by decide)];decide),if_neg (by rw[notW hw (by decide)];decide),if_neg (by rw[notW hw (by decide)];decide),if_neg (by rw[notW hw (by decide)];decide),if_neg (by rw[notW hw (by decide)];decide),if_neg (by rw[notW hw (by decide)];decide),if_neg (by rw[notW hw (by decide)];decide)]
theorem ztG(d:Dk){ws:List ByteArray}(ns:List Int)(hw:((zag ws 0).toList==[114,117,110,115])=true):execF d ws ns=zfn d:=by unfold execF;rw[eq_of_beq hw];rfl
theorem zl6 {w:World} {lo g n c:Nat} {h:DkH} {d:Dk} {A:Option Addr} {ls:List ByteArray} {V6 V7:Value} {line:ByteArray} (s:StD w lo g h d A n c ls V6 V7) (hlo:lo <= w.heap.size) (hn:n <= 1000000) (hl:line.size <= 1048576) :
  Calls prog 42 #[.pointer (some ⟨g,0,none⟩),.string line] w fun e w'=>((cmdF d line).code=0/\e= .returned (.bool true)/\zbY w w' lo g A (cmdF d line).dk (ls++(cmdF d line).lines))\/((cmdF d line).code≠0/\e= .returned (.bool false)/\zbY w w' lo g A d ls):=by
 have HSD:=hid s;have HLO:=hid hlo;have hwl:=zqu line;have HJN:=hid (Nat.le_trans (zpc line) hl);have HZS:=hid (fun x hx=>Nat.le_trans (zeB (c:=32) (s:=line) x hx) hl);clear s;go_enter func42,ntmps42
 go_wp2_with fail
 refine(zcD line 32 w hl).mono ?_;rintro e w1 ⟨WA,wn,wc,rfl,s1,b1⟩;have HB1:=hid b1;have HS1:=hid (HSD.out.on b1);have HWR:=hid (Aw.of_sl s1 HSD.out.glt HSD.out.alt HLO.out);have hwn:(zah 32 line).length=wn:=by have:=s1.len;rw[za6] at this;omega
 have hw0:0<wn:=by rw[<-hwn];exact List.length_pos_iff.2 (zev 32 line)
 have hwm:wn<=1048577:=by omega
 clear s1 b1 hl hwl;obtain⟨ws,hws⟩:∃z,zah 32 line=z:=⟨_,rfl⟩
 rw[hws] at HWR hwn HZS HJN;have HWS:=hid hws;have HWN:=hid hwn;obtain⟨s0,bw,ow,hs0,rfl,hbw,k0⟩:=zaP HWR.out.1 hw0;rw[Nat.add_zero] at k0;have HS0:=hid (zsK hs0);have HQ:=hid (show wrap64 ((wn:Int)-1)=(wn:Int)-1 by unfold wrap64;omega);clear hws hwn hs0 hbw
 go_wp2_with fail
 refine(zo4 s0 w1).mono ?_;rintro e w2 ⟨rfl,hw2⟩;rw[hw2];clear hw2 w2;rcases hh:hasW zb9 s0 with _|_
 ·have HF:=hid (ztI hh);have HCM:=hid (ztD (line:=line) HSD.out.ok (by rw[HWS.out,HS0.out];exact hh));rw[HF.out];clear hh k0;go_wp2;go_ret;exact .inr ⟨HCM.out,rfl,HSD.out.keep HB1.out⟩
 obtain⟨f,sh,tx,p,kn⟩:=zui (ws:=ws) (by have:=HWN.out;omega) (by rw[HS0.out];exact hh);have HH:=hid (show hasW zb9 (zag ws 0)=true by rw[HS0.out];exact hh);have HP:=hid p;have HK:=hid kn;have hff:frmS s0=f:=by rw[<-HS0.out];exact p.fr
 have HFM:=hid (show f∈zdh by rw[<-hff];exact zsa s0);have hnb:=p.nb;rw[hff];have hfi:=zo3 f HFM.out (wn-1) w1;rw[show((wn-1:Nat):Int)=(wn:Int)-1 by omega] at hfi;have HFT:=hid (show zaS f (ws.length-1)=zaS f (wn-1) by rw[HWN.out]);clear hh p kn hff k0;rcases hft:zaS f (wn-1) with _|_
 ·have HCM:=hid (zq4 HSD.out.ok HWS.out HH.out HP.out (by rw[HFT.out];exact hft));rw[hft] at hfi;have HFI:=hid hfi;clear hft hfi
  go_wp2_with fail
  try rw[HQ.out]
  refine HFI.out.mono ?_;rintro e w2 ⟨rfl,hw2⟩;rw[hw2];clear hw2 w2;go_wp2;go_ret;exact .inr ⟨HCM.out,rfl,HSD.out.keep HB1.out⟩
 have HTR:=hid (show zaS f (ws.length-1)=true by rw[HFT.out];exact hft);rw[hft] at hfi;have HFI:=hid hfi;have hfl:=zdj hft;have hf3:=HP.out.s3;clear hft hfi
 go_wp2_with fail
 try rw[HQ.out]
 refine HFI.out.mono ?_;rintro e w2 ⟨rfl,hw2⟩;rw[hw2];clear hw2 w2
 go_wp2_with fail
 refine(znn (wc:=wc) HS1.out (Nat.le_trans HLO.out HB1.out.size) HWR.out hwm HZS.out hf3 (by omega)).mono ?_;rintro e w5 hcase;rcases hcase with ⟨x,hfx,rfl,wo⟩|⟨hfx,rfl,x,wo⟩;rotate_left
 ·have HCM:=hid (zrR HSD.out.ok HWS.out HH.out HP.out HTR.out hfx);obtain⟨NA,nn,nc,TA,tn,tc,st5,_⟩:=wo.at_;have HST5:=hid st5;have HM5:=hid ((Mv.below (g:=g) (A:=A) HB1.out).trans wo.mv);clear hfx wo st5
  go_wp2_with fail
  refine(zcq HST5.out.says (Nat.le_trans HLO.out HM5.out.off.size) hn (k:=7) (by decide) (by decide) (by decide)).mono ?_;rintro e w6 ⟨rfl,A',c',hs⟩;have HSS:=hid ((HST5.out.out hs).after HM5.out);clear hs;go_wp2;go_ret;exact .inl ⟨by rw[HCM.out],rfl,by rw[HCM.out];exact HSS.out⟩
 obtain⟨x2,hnf,hc0,hcd,hcl⟩:=zrQ HSD.out.ok HWS.out HH.out HP.out HTR.out hfx;obtain⟨NA,nn,nc,TA,tn,tc,st5,an5,at5,hnc⟩:=wo.at_;obtain⟨ns,ts⟩:=x;simp only at x2 hnf hcd hcl an5 at5;subst x2;have hnl:=zai an5.1;have hbd:=zfS _ _ _ _ _ hnf (fun v hv=>by cases hv);have hdl:=zcv ws;have hwnn:=HWN.out;have hsl:ns.length<=wn-1:=by have h9:=hbd.2;rw[List.length_nil,hdl,hwnn] at h9;omega
 have HI:=hid (show StI w5 lo g h d A n c ls NA nn nc ns TA tn tc ts from⟨st5,an5,at5,Nat.le_trans HLO.out (Nat.le_trans HB1.out.size wo.mv.off.size),hn,hbd.1,by omega,hnc,HP.out.tb HTR.out HZS.out HJN.out⟩);have HM5:=hid ((Mv.below (g:=g) (A:=A) HB1.out).trans wo.mv);have HNF:=hid hnf;have HNL:=hid hnl;have HDL:=hid hdl;have HC:=hid hc0;have HCD:=hid hcd;have HCL:=hid hcl
 have k5:w5.cell? ⟨bw,ow,none⟩=some (.string s0):=by
  obtain⟨sz,b9,o9,h9,e9,_,c9⟩:=zaP (HWR.out.mv wo.mv).1 hw0;injection e9 with e9;injection e9 with e9 e8;subst e9;subst e8;rw[Nat.add_zero] at c9;have:=zsK h9;rw[HS0.out] at this;rw[this];exact c9
 have hkn:=HK.out;have HZ0:=HS0.out;clear hfx wo hnf hc0 hcd hcl an5 at5 hbd hsl hnl st5 hdl hwnn
 cases hkn
 case kNet hw=>
  have HX:=hid (zud d ns hw);rw[HZ0] at hw;have e0:=notW (l':=[101,110,116,101,114]) hw (by decide);have e1:=notW (l':=[102,114,101,101]) hw (by decide);have e2:=notW (l':=[108,111,103]) hw (by decide);have HCALL:=hid (zpK HI.out ws rfl)
  go_wp2_with fail
  refine HCALL.out.mono ?_;rintro e w6 ⟨rfl,hso⟩;have HSO:=hid (hso.after HM5.out);clear hso k5;go_wp2;go_ret;exact .inl ⟨HC.out,rfl,by rw[HCD.out,HCL.out,HX.out];exact HSO.out⟩
 case kQueue hw=>
  have HX:=hid (zsX d ns hw);rw[HZ0] at hw;have e0:=notW (l':=[101,110,116,101,114]) hw (by decide);have e1:=notW (l':=[102,114,101,101]) hw (by decide);have e2:=notW (l':=[108,111,103]) hw (by decide);have e3:=notW (l':=[110,101,116]) hw (by decide);have HCALL:=hid (znk HI.out)
  go_wp2_with fail
  refine HCALL.out.mono ?_;rintro e w6 ⟨rfl,hso⟩;have HSO:=hid (hso.after HM5.out);clear hso k5;go_wp2;go_ret;exact .inl ⟨HC.out,rfl,by rw[HCD.out,HCL.out,HX.out];exact HSO.out⟩
 case kTimes hw=>
  have HX:=hid (zsZ d ns hw);rw[HZ0] at hw;have e0:=notW (l':=[101,110,116,101,114]) hw (by decide);have e1:=notW (l':=[102,114,101,101]) hw (by decide);have e2:=notW (l':=[108,111,103]) hw (by decide);have e3:=notW (l':=[110,101,116]) hw (by decide);have e4:=notW (l':=[113,117,101,117,101]) hw (by decide);have e5:=notW (l':=[114,117,110]) hw (by decide);have e6:=notW (l':=[114,117,110,115]) hw (by decide);have e7:=notW (l':=[115,101,97,114,99,104]) hw (by decide);have e8:=notW (l':=[115,116,117,99,107]) hw (by decide);have HCALL:=hid (znm HI.out)
  go_wp2_with fail
  refine HCALL.out.mono ?_;rintro e w6 ⟨rfl,hso⟩;have HSO:=hid (hso.after HM5.out);clear hso k5;go_wp2;go_ret;exact .inl ⟨HC.out,rfl,by rw[HCD.out,HCL.out,HX.out];exact HSO.out⟩
 case kRun hw=>
  have HX:=hid (zue d ns hw)
  have hn2:1<=nn:=by
   have h1:=zdm (sh:=⟨#[110,42]⟩) (zeh 110 42 (.inl rfl) (.inr rfl)) _ _ _ _ HNF.out;have h2:=zdj HTR.out;have h3:(⟨#[110,108]⟩:ByteArray).size=2:=rfl;rw[List.length_nil,HDL.out] at h1;have:=HNL.out;omega
  rw[HZ0] at hw;have e0:=notW (l':=[101,110,116,101,114]) hw (by decide);have e1:=notW (l':=[102,114,101,101]) hw (by decide);have e2:=notW (l':=[108,111,103]) hw (by decide);have e3:=notW (l':=[110,101,116]) hw (by decide);have e4:=notW (l':=[113,117,101,117,101]) hw (by decide);have HCALL:=hid (zpM HI.out hn2)
  go_wp2_with fail
  refine HCALL.out.mono ?_;rintro e w6 ⟨rfl,hso⟩;have HSO:=hid (hso.after HM5.out);clear hso k5;go_wp2;go_ret;exact .inl ⟨HC.out,rfl,by rw[HCD.out,HCL.out,HX.out];exact HSO.out⟩
 case kSearch hw=>
  have HX:=hid (zrV d ns hw)
  have hn2:1<=nn:=by
   have h1:=zdm (sh:=⟨#[110,42]⟩) (zeh 110 42 (.inl rfl) (.inr rfl)) _ _ _ _ HNF.out;have h2:=zdj HTR.out;have h3:(⟨#[110,108]⟩:ByteArray).size=2:=rfl;rw[List.length_nil,HDL.out] at h1;have:=HNL.out;omega
  rw[HZ0] at hw;have e0:=notW (l':=[101,110,116,101,114]) hw (by decide);have e1:=notW (l':=[102,114,101,101]) hw (by decide);have e2:=notW (l':=[108,111,103]) hw (by decide);have e3:=notW (l':=[110,101,116]) hw (by decide);have e4:=notW (l':=[113,117,101,117,101]) hw (by decide);have e5:=notW (l':=[114,117,110]) hw (by decide);have e6:=notW (l':=[114,117,110,115]) hw (by decide);have HCALL:=hid (zmx HI.out hn2)
  go_wp2_with fail
  refine HCALL.out.mono ?_;rintro e w6 ⟨rfl,hso⟩;have HSO:=hid (hso.after HM5.out);clear hso k5;go_wp2;go_ret;exact .inl ⟨HC.out,rfl,by rw[HCD.out,HCL.out,HX.out];exact HSO.out⟩
 case kStuck hw=>
  have HX:=hid (zsY d ns hw)
  have hn2:1<=nn:=by
   have h1:=zdm (sh:=⟨#[110,42]⟩) (zeh 110 42 (.inl rfl) (.inr rfl)) _ _ _ _ HNF.out;have h2:=zdj HTR.out;have h3:(⟨#[110,108]⟩:ByteArray).size=2:=rfl;rw[List.length_nil,HDL.out] at h1;have:=HNL.out;omega
  rw[HZ0] at hw;have e0:=notW (l':=[101,110,116,101,114]) hw (by decide);have e1:=notW (l':=[102,114,101,101]) hw (by decide);have e2:=notW (l':=[108,111,103]) hw (by decide);have e3:=notW (l':=[110,101,116]) hw (by decide);have e4:=notW (l':=[113,117,101,117,101]) hw (by decide);have e5:=notW (l':=[114,117,110]) hw (by decide);have e6:=notW (l':=[114,117,110,115]) hw (by decide);have e7:=notW (l':=[115,101,97,114,99,104]) hw (by decide);have HCALL:=hid (znl HI.out hn2)
  go_wp2_with fail
  refine HCALL.out.mono ?_;rintro e w6 ⟨rfl,hso⟩;have HSO:=hid (hso.after HM5.out);clear hso k5;go_wp2;go_ret;exact .inl ⟨HC.out,rfl,by rw[HCD.out,HCL.out,HX.out];exact HSO.out⟩
 case kWay hw=>
  have HX:=hid (zuf d ns hw)
  have hn2:2<=nn:=by
   have h1:=zdm (sh:=⟨#[110,110]⟩) (zeh 110 110 (.inl rfl) (.inl rfl)) _ _ _ _ HNF.out;have h2:=zdj HTR.out;have h3:(⟨#[110,110]⟩:ByteArray).size=2:=rfl;rw[List.length_nil,HDL.out] at h1;have:=HNL.out;omega
  rw[HZ0] at hw;have e0:=notW (l':=[101,110,116,101,114]) hw (by decide);have e1:=notW (l':=[102,114,101,101]) hw (by decide);have e2:=notW (l':=[108,111,103]) hw (by decide);have e3:=notW (l':=[110,101,116]) hw (by decide);have e4:=notW (l':=[113,117,101,117,101]) hw (by decide);have e5:=notW (l':=[114,117,110]) hw (by decide);have e6:=notW (l':=[114,117,110,115]) hw (by decide);have e7:=notW (l':=[115,101,97,114,99,104]) hw (by decide);have e8:=notW (l':=[115,116,117,99,107]) hw (by decide);have e9:=notW (l':=[116,105,109,101,115]) hw (by decide);have HCALL:=hid (zpN HI.out hn2)
  go_wp2_with fail
  refine HCALL.out.mono ?_;rintro e w6 ⟨rfl,hso⟩;have HSO:=hid (hso.after HM5.out);clear hso k5;go_wp2;go_ret;exact .inl ⟨HC.out,rfl,by rw[HCD.out,HCL.out,HX.out];exact HSO.out⟩
 case kFree hw=>
  have HX:=hid (ztF d ns hw)
  have hn2:3<=nn:=by
   have h1:=zdm (sh:=⟨#[110,110,110]⟩) (zpE 110 110 110 (.inl rfl) (.inl rfl) (.inl rfl)) _ _ _ _ HNF.out;have h2:=zdj HTR.out;have h3:(⟨#[110,110,110]⟩:ByteArray).size=3:=rfl;rw[List.length_nil,HDL.out] at h1;have:=HNL.out;omega
  rw[HZ0] at hw;have e0:=notW (l':=[101,110,116,101,114]) hw (by decide);have HCALL:=hid (zo5 HI.out hn2)
  go_wp2_with fail
  refine HCALL.out.mono ?_;rintro e w6 ⟨rfl,hso⟩;have HSO:=hid (hso.after HM5.out);clear hso k5;go_wp2;go_ret;exact .inl ⟨HC.out,rfl,by rw[HCD.out,HCL.out,HX.out];exact HSO.out⟩
 case kEnter hw=>
  have HX:=hid (zsW d ns hw)
  have hn2:2<=nn:=by
   have h1:ws.length-1=3:=by
    have h:=HTR.out;unfold zaS at h;rw[if_neg (by decide),beq_iff_eq] at h;exact h
   obtain⟨a,b,c,e⟩:=znp (l:=ws.drop 1) (by rw[zcv];exact h1);have h9:=HNF.out;rw[e] at h9;have h8:=zlJ h9;have:=HNL.out;omega
  rw[HZ0] at hw;have HCALL:=hid (znj HI.out hn2 ws (zag ws 2) rfl rfl)
  go_wp2_with fail
  refine HCALL.out.mono ?_;rintro e w6 ⟨rfl,hso⟩;have HSO:=hid (hso.after HM5.out);clear hso k5;go_wp2;go_ret;exact .inl ⟨HC.out,rfl,by rw[HCD.out,HCL.out,HX.out];exact HSO.out⟩
 case kLog hw=>
  have HX:=hid (zuc d ns hw);rw[HZ0] at hw;have e0:=notW (l':=[101,110,116,101,114]) hw (by decide);have e1:=notW (l':=[102,114,101,101]) hw (by decide);have HCALL:=hid (zpJ HI.out)
  go_wp2_with fail
  refine HCALL.out.mono ?_;rintro e w6 ⟨rfl,hso⟩;have HSO:=hid (hso.after HM5.out);clear hso k5;go_wp2;go_ret;exact .inl ⟨HC.out,rfl,by rw[HCD.out,HCL.out,HX.out];exact HSO.out⟩
 case kRuns hw=>
  have HX:=hid (ztG d ns hw);rw[HZ0] at hw;have e0:=notW (l':=[101,110,116,101,114]) hw (by decide);have e1:=notW (l':=[102,114,101,101]) hw (by decide);have e2:=notW (l':=[108,111,103]) hw (by decide);have e3:=notW (l':=[110,101,116]) hw (by decide);have e4:=notW (l':=[113,117,101,117,101]) hw (by decide);have e5:=notW (l':=[114,117,110]) hw (by decide);have HCALL:=hid (zo6 HI.out)
  go_wp2_with fail
  refine HCALL.out.mono ?_;rintro e w6 ⟨rfl,hso⟩;have HSO:=hid (hso.after HM5.out);clear hso k5;go_wp2;go_ret;exact .inl ⟨HC.out,rfl,by rw[HCD.out,HCL.out,HX.out];exact HSO.out⟩
end Go.Proofs.YtjalgpioklcbfaaGreatDoor
