/- The earliest start, as the reference finds it. -/
import Derived.Test.YtjalgpioklcbfaaGreatDoorMgDesksAO
set_option maxHeartbeats 6000000
set_option maxRecDepth 100000
set_option linter.unusedVariables false
set_option linter.unusedSimpArgs false
namespace Go.Proofs.YtjalgpioklcbfaaGreatDoor
open Go.RowKit Go.Lib Go.Proofs.Tryz
theorem zrU{ts:List Int}{rs:List Rn}{way:List Int}(h:zap ts rs=true)(hw:zaN ts way=true){a:Int}(hf:fits ts rs way a=true):earl ts rs way a=a:=
 (zeE h hw a).uniq ⟨Int.le_refl _,hf,fun y h1 h2=>by omega⟩
theorem zpv{p:Int->Bool}{a:Int}{ts:List Int}{o:Sp}{way:List Int}{q:Nat}{t:Int}(h:way[q]?=some t)(f b:Int):zcP p a ts o (way.drop q) f b=zcP p a ts o (way.drop (q+1)) (f+at0 ts t) (if (t==o.tube&&(decide (a<=o.leave-f)&&((decide (b<0)||decide (o.leave-f<b))&&p (o.leave-f))))=true then o.leave-f else b):=by
 rw[zeD h,zcP]
theorem zpw{p:Int->Bool}{a:Int}{ts way:List Int}{l:List Sp}{q:Nat}{o:Sp}(h:l[q]?=some o)(b:Int):zdu p a ts way (l.drop q) b=zdu p a ts way (l.drop (q+1)) (zcP p a ts o way 0 b):=by
 rw[zeD h,zdu]
theorem zpu{p:Int->Bool}{a:Int}{ts way:List Int}{l:List Rn}{q:Nat}{r:Rn}(h:l[q]?=some r)(b:Int):zdQ p a ts way (l.drop q) b=zdQ p a ts way (l.drop (q+1)) (zdu p a ts way (zay ts r.way r.st) b):=by
 rw[zeD h,zdQ]
theorem zkb (Q:Option Addr) (m d:Nat) (ts:List Int) (RA:Option Addr) (rn rc:Nat) (rs:List Rn) (A:Option Addr) (n c B:Nat) (way:List Int) (a0:Int) (w:World) (ht:zad w B 1 Q m (ints ts)) (hr:zaC w B RA rn rs) (h:zad w B 1 A n (ints way)) (hB:B <= w.heap.size) (hok:zap ts rs = true) (hw:zaN ts way = true) (h0:0 <= a0) (h1:a0 <= 100000) :
  Calls prog 239 #[.slice Q m d,.slice RA rn rc,.slice A n c,.int .i64 a0] w fun e w'=>e= .returned (.int .i64 (earl ts rs way a0))/\Below w.heap.size w w':=by
 have hrn:rn<=12:=by have:=zbB hok;have:=hr.len;omega
 have hn12:n<=12:=by have:=(zaJ hw).1;have:=zai h;omega
 have HL:=hid hr.len;have HLN:=hid (zai h);have HTL:=hid (zai ht);have HRT:=hid ht;have HRR:=hid hr;have HR:=hid h;have HOK:=hid hok;have HWAY:=hid hw;have HWT:=hid (zaJ hw).2.2;obtain⟨u,hu⟩:∃y,w.alloc (.cells #[.slice A n c,.int .i64 a0] 123)=y:=⟨_,rfl⟩
 have yu:Blk u w.heap.size 123 #[.slice A n c,.int .i64 a0]:=by rw[<-hu];exact Blk.new _ _ _
 have bu:Below w.heap.size w u:=by rw[<-hu];exact bal _
 have HU:=hid hu;have HBU:=hid bu;have HF0:=hid (ziH Q m d ts RA rn rc rs A n c w.heap.size 0 way a0 B u (ht.on hB bu) (hr.on hB bu) (Nat.le_trans hB bu.size) hok (h.on hB bu) (yu.cellAt 0 (by simp)) (yu.cellAt 1 (by simp)) hw h0 (by omega));clear ht hr h hok hw hu yu bu;go_enter func239,ntmps239
 go_wp2_with fail
 rw[HU.out];refine HF0.out.mono ?_;rintro e w1 ⟨rfl,b1⟩;have HB1:=hid (zac HBU.out b1 lr);clear b1;rcases hf:fits ts rs way a0 with _|_;rotate_left
 ·have HO:=hid (zrU HOK.out HWAY.out hf);clear hf;go_wp2;go_ret;exact⟨za3 HO.out.symm,HB1.out⟩
 have HBE:=hid (zqy HOK.out HWAY.out h0 hf);clear hf
 go_wp2_with fail
 go_loopw [9,10] (fun be i wr=>∃(k:Nat) (b:Int),k<=rn/\i= .int .i64 (k:Int)/\be= .int .i64 b/\Bst (fits ts rs way) a0 b/\zdQ (fits ts rs way) a0 ts way (rs.drop k) b=earl ts rs way a0/\Below w.heap.size w wr) (fun _ i _=>rn-(RowKit.intOf i).toNat)
 case atStart=>exact⟨0,-1,Nat.zero_le _,rfl,rfl,.inl rfl,HBE.out,HB1.out⟩
 case round=>
  obtain⟨k,b1,hk,rfl,rfl,hbst,hbi,hbel⟩:=hrel;have HBS1:=hid hbst;have HBI:=hid hbi;have HBr:=hid hbel;clear hbst hbi hbel;have hk0:(0:Int)<=k:=by omega
  by_cases hlt:k<rn
  ·have hkn:(k:Int)<rn:=by omega
   obtain⟨r,rb,ro,RAw,rm,rcc,hre,rfl,hrb,rc0,rc1,hrd⟩:=zcn (HRR.out.on hB HBr.out) hlt;obtain⟨q1,q2,q3⟩:=zbG HOK.out hre;have HSP:=hid (ze5 Q m d ts RAw rm rcc B rb (ro+k*2) r.way r.st _ (HRT.out.on hB HBr.out) hrd.1 (Nat.le_trans hB HBr.out.size) rc0 rc1 (zaV HOK.out) q1 q2 (by omega));have HBI2:=hid (zpu (p:=fits ts rs way) (a:=a0) (ts:=ts) (way:=way) hre b1);have HSB:=hid (fun s hs=>zfY (zaV HOK.out) r.way r.st (zaJ q1).2.2 s hs);have HWL:=hid (zaJ q1).1;have HST:=hid (And.intro q2 q3);have hsl:=(zb7 ts r.way r.st).trans (zai hrd.1);obtain⟨S,hS⟩:∃z,zay ts r.way r.st=z:=⟨_,rfl⟩
   rw[hS] at HSP HBI2 HSB hsl;have HSL:=hid hsl;clear hre rc0 rc1 hrd q1 q2 q3 hsl hS
   go_wp2_with fail
   refine HSP.out.mono ?_;rintro e w3 ⟨P1,dp,gs,rfl,s3,_,b3⟩;have HQ:=hid s3;have HB3:=hid (zac HBr.out b3 lr);clear s3 b3;have hrm:rm<=12:=by have:=HQ.out.len;have:=HSL.out;have:=HWL.out;omega
   go_wp2_with fail
   go_loopw [9,12] (fun be i wr=>∃(j:Nat) (b:Int),j<=rm/\i= .int .i64 (j:Int)/\be= .int .i64 b/\Bst (fits ts rs way) a0 b/\zdu (fits ts rs way) a0 ts way (S.drop j) b=zdu (fits ts rs way) a0 ts way S b1/\Below w3.heap.size w3 wr) (fun _ i _=>rm-(RowKit.intOf i).toNat)
   case atStart=>exact⟨0,b1,Nat.zero_le _,rfl,rfl,HBS1.out,rfl,Below.refl _ _⟩
   case round=>
    obtain⟨j,b2,hj,rfl,rfl,hbst,hbk,hbel⟩:=hrel;have HBS2:=hid hbst;have HBK:=hid hbk;have HBj:=hid hbel;clear hbst hbk hbel;have hj0:(0:Int)<=j:=by omega
    by_cases hjt:j<rm
    ·have hjn:(j:Int)<rm:=by omega
     obtain⟨o,ho⟩:=ze1 HSL.out hjt;obtain⟨ga,ra,rfl,_,_,_,_⟩:=zil HQ.out hjt ho;have HCELL:=hid (fun(V:World) (bb:Below w3.heap.size w3 V)=>zil (HQ.out.on bb) hjt ho);have HBK2:=hid (zpw (p:=fits ts rs way) (a:=a0) (ts:=ts) (way:=way) ho b2);have hob:=HSB.out o (List.mem_of_getElem? ho);have hst2:=HST.out;have hwl:=HWL.out;have hol:0<=o.leave/\o.leave<=112000:=by omega
     obtain⟨ot,oe,ol⟩:=o;simp only at hol HCELL;clear ho hob hst2 hwl
     go_wp2_with fail
     go_loopw [9,13,14] (fun be ff i wr=>∃(q:Nat) (f b:Int),q<=n/\i= .int .i64 (q:Int)/\be= .int .i64 b/\ff= .int .i64 f/\(0<=f/\f<=1000*(q:Int))/\Bst (fits ts rs way) a0 b/\zcP (fits ts rs way) a0 ts ⟨ot,oe,ol⟩ (way.drop q) f b=zcP (fits ts rs way) a0 ts ⟨ot,oe,ol⟩ way 0 b2/\Below w3.heap.size w3 wr) (fun _ _ i _=>n-(RowKit.intOf i).toNat)
     case atStart=>exact⟨0,0,b2,Nat.zero_le _,rfl,rfl,rfl,by omega,HBS2.out,rfl,HBj.out⟩
     case round=>
      rename World=>wq
      obtain⟨q,f,b9,hq,rfl,rfl,rfl,hfb,hbst,hbj,hbel⟩:=hrel;have HBST:=hid hbst;have HBJ:=hid hbj;have HBq3:=hid hbel;have HBq:=hid (zac HB3.out hbel lr);clear hbst hbj hbel;have hq0:(0:Int)<=q:=by omega
      by_cases hqt:q<n
      ·have hqn:(q:Int)<n:=by omega
       obtain⟨t,b,off,he,rfl,hb,cwx⟩:=zax (HR.out.on hB HBq.out) hqt;have htb:=HWT.out t (List.mem_of_getElem? he);have HSJ:=hid (zpv (p:=fits ts rs way) (a:=a0) (ts:=ts) (o:=⟨ot,oe,ol⟩) he f);obtain⟨tn,htn⟩:=Int.eq_ofNat_of_zero_le htb.1;subst htn;obtain⟨tv,bb2,off2,he2,rfl,hb2,tt0⟩:=zax (HRT.out.on hB HBq.out) (k:=tn) (by have:=HTL.out;omega);obtain rfl:at0 ts (tn:Int)=tv:=by rw[zen (by have:=HTL.out;omega)] at he2;injection he2
       have hbd:=zjA (zaV HOK.out) (tn:Int) htb.1 htb.2;obtain⟨tv,htv⟩:∃z,at0 ts (tn:Int)=z:=⟨_,rfl⟩
       rw[htv] at hbd tt0;simp only[htv] at HSJ;obtain⟨go,rg,hgo,ch,r0,r1,r2⟩:=HCELL.out wq HBq3.out;injection hgo with hgo;injection hgo with hgo;subst hgo;have htm:(tn:Int)<m:=by have:=HTL.out;have:=htb.2;omega
       have hw1:IntKind.i64.wrap (ol-f)=ol-f:=by
        unfold IntKind.wrap;simp[IntKind.bits,IntKind.signed];omega
       have hw2:IntKind.i64.wrap (f+tv)=f+tv:=by
        unfold IntKind.wrap;simp[IntKind.bits,IntKind.signed];omega
       have HSTEP:=hid (fun(b':Int) (e:(if ((tn:Int)==ot&&(decide (a0<=ol-f)&&((decide (b9<0)||decide (ol-f<b9))&&fits ts rs way (ol-f))))=true then ol-f else b9)=b')=>(show zcP (fits ts rs way) a0 ts ⟨ot,oe,ol⟩ (way.drop (q+1)) (f+tv) b'=zcP (fits ts rs way) a0 ts ⟨ot,oe,ol⟩ way 0 b2 by rw[<-HBJ.out,HSJ.out b9,e]));clear he he2 htv r1;by_cases m1:(tn:Int)=ot;rotate_left
       ·have d1:((tn:Int)==ot)=false:=by simpa using m1
        have HJ:=hid (HSTEP.out b9 (by rw[d1,Bool.false_and];rfl));clear m1
        go_wp2_with fail
        go_quiet (fail)
        go_wp2
        go_roundw
        case rel=>exact⟨q+1,f+tv,b9,by omega,by go_num,rfl,rfl,by omega,HBST.out,HJ.out,zan HBq3.out _⟩
        case measure=>simp[RowKit.intOf];omega
       have d1:((tn:Int)==ot)=true:=by simpa using m1
       by_cases m2:a0<=ol-f;rotate_left
       ·have d2:decide (a0<=ol-f)=false:=decide_eq_false m2;have HJ:=hid (HSTEP.out b9 (by rw[d2,Bool.false_and,Bool.and_false];rfl));clear m1 m2
        go_wp2_with fail
        go_quiet (fail)
        go_wp2
        go_roundw
        case rel=>exact⟨q+1,f+tv,b9,by omega,by go_num,rfl,rfl,by omega,HBST.out,HJ.out,zan HBq3.out _⟩
        case measure=>simp[RowKit.intOf];omega
       have d2:decide (a0<=ol-f)=true:=decide_eq_true m2;obtain⟨fx,hfx⟩:∃z,fits ts rs way (ol-f)=z:=⟨_,rfl⟩
       have HFX:=hid hfx;simp only[hfx,d1,d2,Bool.true_and] at HSTEP;clear hfx;have HCW:=hid (fun V:World=>(show(V.alloc (.cells #[.slice (some ⟨b,off,none⟩) n c,.int .i64 (ol-f)] 123)).cell? ⟨V.heap.size,0,none⟩=some (.slice (some ⟨b,off,none⟩) n c) from(Blk.new _ _ _).cellAt 0 (by simp)));have HCX:=hid (fun V:World=>(show(V.alloc (.cells #[.slice (some ⟨b,off,none⟩) n c,.int .i64 (ol-f)] 123)).cell? ⟨V.heap.size,0+1,none⟩=some (.int .i64 (ol-f)) from(Blk.new _ _ _).cellAt 1 (by simp)))
       have HFIT:=hid (fun(V:World) (g:Nat) (bb:Below w.heap.size w V) (z0:V.cell? ⟨g,0,none⟩=some (.slice (some ⟨b,off,none⟩) n c)) (z1:V.cell? ⟨g,0+1,none⟩=some (.int .i64 (ol-f)))=>ziH _ m d ts _ rn rc rs _ n c g 0 way (ol-f) B V (HRT.out.on hB bb) (HRR.out.on hB bb) (Nat.le_trans hB bb.size) HOK.out (HR.out.on hB bb) z0 z1 HWAY.out (by omega) (by omega));by_cases m3:b9<0
       ·have d3:decide (b9<0)=true:=decide_eq_true m3;simp only[d3,Bool.true_or,Bool.true_and] at HSTEP;clear m1
        go_wp2_with fail
        refine ez (fun V=>Below wq.heap.size wq V) ?_ fun hHeld=>?_
        ·exact(Below.refl _ _).drew
        refine dq 0 rfl (h:=dq 1 rfl (h:=dq 2 rfl (h:=dq 3 rfl (hy:=by intro w hSw;(try dsimp only at hSw);(have e0:=zaa hSw cwx);go_simp;try with_reducible rfl) (h:=dq 4 rfl (h:=dq 5 rfl (h:=dq 6 rfl (h:=dq 7 rfl (hy:=by intro w hSw;(try dsimp only at hSw);(have e1:=zaa hSw ch);go_simp;try with_reducible rfl) (h:=?_))))))));refine dq 8 rfl (h:=dq 9 rfl (hy:=by intro w hSw;(try dsimp only at hSw);(have e2:=zaa hSw r0);go_simp;try with_reducible rfl) (h:=dq 10 rfl (h:=dq 11 rfl (h:=dq 12 rfl (h:=dq 13 rfl (h:=dq 14 rfl (h:=dq 15 rfl (h:=?_))))))));refine dq 16 rfl (h:=dq 17 rfl (h:=dq 18 rfl (h:=dq 19 rfl (h:=dr 20 rfl (h:=dr 21 rfl (h:=dr 22 rfl (h:=dq 23 rfl (h:=?_))))))))
        refine dq 24 rfl (h:=dq 25 rfl (h:=dq 26 rfl (h:=dq 27 rfl (h:=dq 28 rfl (h:=dq 29 rfl (h:=dq 30 rfl (h:=?_)))))));refine rd 31 rfl fun K hK=>?_;go_simp;refine ke hK ?_ ?_
        ·exact zac hHeld (bal _) lr
        clear hK K hHeld;intro hHeld;refine rd 32 rfl fun K hK=>?_;go_simp;refine(HFIT.out _ _ (zac HBq.out hHeld lr) (HCW.out _) (HCX.out _)).mono ?_;rintro e v5 ⟨rfl,b5⟩;rw[HFX.out]
        go_wp2_with fail
        refine ke hK ?_ ?_
        ·exact zac hHeld b5 lr
        clear hK K hHeld;intro hHeld;refine dq 33 rfl (h:=?_);refine dn ?_;have HBz:=hid (zac HBq3.out hHeld lr);have hq0z:=zaa hHeld cwx;have t0z:=zaa hHeld tt0;clear hHeld cwx ch r0 r2 tt0
        cases fx
        ·have HJ:=hid (HSTEP.out b9 (by simp));go_wp2
         go_roundw
         case rel=>exact⟨q+1,f+tv,b9,by omega,by go_num,rfl,rfl,by omega,HBST.out,HJ.out,HBz.out⟩
         case measure=>simp[RowKit.intOf];omega
        ·have HJ:=hid (HSTEP.out (ol-f) (by simp));have HBS:=hid (show Bst (fits ts rs way) a0 (ol-f) from .inr ⟨HFX.out,by omega⟩);go_wp2
         go_roundw
         case rel=>exact⟨q+1,f+tv,ol-f,by omega,by go_num,rfl,rfl,by omega,HBS.out,HJ.out,HBz.out⟩
         case measure=>simp[RowKit.intOf];omega
       ·have d3:decide (b9<0)=false:=decide_eq_false m3;by_cases m4:ol-f<b9;rotate_left
        ·have d4:decide (ol-f<b9)=false:=decide_eq_false m4;have HJ:=hid (HSTEP.out b9 (by rw[d3,d4];simp));clear m1 m3 m4
         go_wp2_with fail
         go_quiet (fail)
         go_wp2
         go_roundw
         case rel=>exact⟨q+1,f+tv,b9,by omega,by go_num,rfl,rfl,by omega,HBST.out,HJ.out,zan HBq3.out _⟩
         case measure=>simp[RowKit.intOf];omega
        have d4:decide (ol-f<b9)=true:=decide_eq_true m4;simp only[d3,d4,Bool.or_true,Bool.true_and] at HSTEP;clear m1
        go_wp2_with fail
        refine ez (fun V=>Below wq.heap.size wq V) ?_ fun hHeld=>?_
        ·exact(Below.refl _ _).drew
        refine dq 0 rfl (h:=dq 1 rfl (h:=dq 2 rfl (h:=dq 3 rfl (hy:=by intro w hSw;(try dsimp only at hSw);(have e0:=zaa hSw cwx);go_simp;try with_reducible rfl) (h:=dq 4 rfl (h:=dq 5 rfl (h:=dq 6 rfl (h:=dq 7 rfl (hy:=by intro w hSw;(try dsimp only at hSw);(have e1:=zaa hSw ch);go_simp;try with_reducible rfl) (h:=?_))))))));refine dq 8 rfl (h:=dq 9 rfl (hy:=by intro w hSw;(try dsimp only at hSw);(have e2:=zaa hSw r0);go_simp;try with_reducible rfl) (h:=dq 10 rfl (h:=dq 11 rfl (h:=dq 12 rfl (h:=dq 13 rfl (h:=dq 14 rfl (h:=dq 15 rfl (h:=?_))))))));refine dq 16 rfl (h:=dq 17 rfl (h:=dq 18 rfl (h:=dq 19 rfl (h:=dq 20 rfl (h:=dq 21 rfl (h:=dq 22 rfl (h:=dq 23 rfl (h:=?_))))))))
        refine dq 24 rfl (h:=dq 25 rfl (h:=dq 26 rfl (h:=dq 27 rfl (h:=dq 28 rfl (h:=dq 29 rfl (h:=dq 30 rfl (h:=?_)))))));refine rd 31 rfl fun K hK=>?_;go_simp;refine ke hK ?_ ?_
        ·exact zac hHeld (bal _) lr
        clear hK K hHeld;intro hHeld;refine rd 32 rfl fun K hK=>?_;go_simp;refine(HFIT.out _ _ (zac HBq.out hHeld lr) (HCW.out _) (HCX.out _)).mono ?_;rintro e v5 ⟨rfl,b5⟩;rw[HFX.out]
        go_wp2_with fail
        refine ke hK ?_ ?_
        ·exact zac hHeld b5 lr
        clear hK K hHeld;intro hHeld;refine dq 33 rfl (h:=?_);refine dn ?_;have HBz:=hid (zac HBq3.out hHeld lr);have hq0z:=zaa hHeld cwx;have t0z:=zaa hHeld tt0;clear hHeld cwx ch r0 r2 tt0
        cases fx
        ·have HJ:=hid (HSTEP.out b9 (by simp));go_wp2
         go_roundw
         case rel=>exact⟨q+1,f+tv,b9,by omega,by go_num,rfl,rfl,by omega,HBST.out,HJ.out,HBz.out⟩
         case measure=>simp[RowKit.intOf];omega
        ·have HJ:=hid (HSTEP.out (ol-f) (by simp));have HBS:=hid (show Bst (fits ts rs way) a0 (ol-f) from .inr ⟨HFX.out,by omega⟩);go_wp2
         go_roundw
         case rel=>exact⟨q+1,f+tv,ol-f,by omega,by go_num,rfl,rfl,by omega,HBS.out,HJ.out,HBz.out⟩
         case measure=>simp[RowKit.intOf];omega
      ·obtain rfl:q=n:=by omega
       have HJ:=hid (show b9=zcP (fits ts rs way) a0 ts ⟨ot,oe,ol⟩ way 0 b2 by rw[<-HBJ.out,<-HLN.out,List.drop_length];rfl);go_wp2
       go_roundw
       case rel=>exact⟨j+1,b9,by omega,by go_num,rfl,HBST.out,by rw[<-HBK.out,HBK2.out,<-HJ.out],HBq3.out⟩
       case measure=>simp[RowKit.intOf];omega
    ·obtain rfl:j=rm:=by omega
     have HJ:=hid (show b2=zdu (fits ts rs way) a0 ts way S b1 by rw[<-HBK.out,<-HSL.out,List.drop_length];rfl);go_wp2
     go_roundw
     case rel=>exact⟨k+1,b2,by omega,by go_num,rfl,HBS2.out,by rw[<-HBI.out,HBI2.out,<-HJ.out],zac HB3.out HBj.out lr⟩
     case measure=>simp[RowKit.intOf];omega
  ·obtain rfl:k=rn:=by omega
   have HO:=hid (show b1=earl ts rs way a0 by rw[<-HBI.out,<-HL.out,List.drop_length];rfl);go_wp2;go_ret;exact⟨za3 HO.out,HBr.out⟩
end Go.Proofs.YtjalgpioklcbfaaGreatDoor
