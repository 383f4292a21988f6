/- DeskCommand and RunDesk, as the reference does them. -/
import Derived.Test.YtjalgpioklcbfaaGreatDoorKRfM
set_option maxHeartbeats 4000000
set_option maxRecDepth 100000
set_option linter.unusedVariables false
set_option linter.unusedSimpArgs false
namespace Go.Proofs.YtjalgpioklcbfaaGreatDoor
open Go.RowKit Go.Lib Go.Proofs.Tryz
theorem Aw.start{w:World}{lo g size n c:Nat}{t:TypeId}{X:Option Addr}{xs:List Value}{o:Obj}(h:Sl w lo w.heap.size t size X n c xs)(hg:g=w.heap.size):Aw (w.alloc o) (Nn lo g none) size X n xs:=
 ⟨(h.on (bal _)).low.reads lr,fun hn b hb hN=>by
   have h1:=h.inB_lt hb;rcases hN with (hN|hN)|hN
   ·omega
   ·exact zb4 hN
   ·omega⟩
theorem StD.start{w:World}{lo g:Nat}{h:DkH}{d:Dk}(hr:LowD w lo h d)(ok:okDk d=true)(hg:g=w.heap.size):StD (w.alloc (.cells #[.int .i64 d.net.sta,.slice h.A1 h.n1 h.c1,.slice h.A2 h.n2 h.c2,.slice h.A3 h.n3 h.c3,.string d.log,.slice none 0 0,.slice none 0 0,.slice none 0 0] 74)) lo g h d none 0 0 [] (.slice none 0 0) (.slice none 0 0):=by
 refine⟨⟨by rw[hg];exact Blk.new _ _ _,rfl,Sl.nil _ _ _ _ _,fun ad e=>by cases e⟩,Aw.start hr.tubes hg,Aw.start hr.times hg,?_,ok⟩;obtain⟨rh,o⟩:=hr.runs;exact⟨rh,Aw.start o.row hg,o.len,fun k x r e1 e2=>⟨(o.at_ k x r e1 e2).1,(o.at_ k x r e1 e2).2.1,Aw.start (o.at_ k x r e1 e2).2.2 hg⟩⟩
theorem Aw.far5{w:World}{lo g R size n:Nat}{A X:Option Addr}{xs:List Value}{v0 v1 v2 v3 v4:Value}(h:Aw w (Nn lo g A) size X n xs)(hR:R<lo):zad (((((w.setCell ⟨R,0,none⟩ v0).setCell ⟨R,1,none⟩ v1).setCell ⟨R,2,none⟩ v2).setCell ⟨R,3,none⟩ v3).setCell ⟨R,4,none⟩ v4) w.heap.size size X n xs:=
 ⟨h.1.1,fun hn=>by
  obtain⟨ad,e,hs,hb,hc⟩:=h.1.2 hn;have hne:ad.block≠R:=fun e9=>h.2 hn _ ⟨ad,e,rfl⟩ (.inr (by omega));exact⟨ad,e,hs,hb,fun j u hu=>zdG (hc j u hu) hne⟩⟩
theorem zpx{u:World}{p:Addr}{x:Value}(h:u.cell? p=some x):u.drew.cell? p=some x:=h
theorem zdS{w:World}{g b o:Nat}{v0 v1 v2 v3 v4 x:Value}(h:w.cell? ⟨b,o,none⟩=some x)(hne:b≠g):(((((w.setCell ⟨g,0,none⟩ v0).setCell ⟨g,1,none⟩ v1).setCell ⟨g,2,none⟩ v2).setCell ⟨g,3,none⟩ v3).setCell ⟨g,4,none⟩ v4).drew.cell? ⟨b,o,none⟩=some x:=
 zpx (zdG h hne)
theorem DkR.drew9{w:World}{B:Nat}{h:DkH}{d:Dk}(r:DkR w B h d):DkR w.drew B h d:=⟨r.tubes.keep fun _ _=>rfl,r.times.keep fun _ _=>rfl,by
 obtain⟨hs,h1,h2,h3⟩:=r.runs;exact⟨hs,h1.keep fun _ _=>rfl,h2,fun k x q e1 e2=>⟨(h3 k x q e1 e2).1,(h3 k x q e1 e2).2.1,(h3 k x q e1 e2).2.2.keep fun _ _=>rfl⟩⟩⟩
theorem zmE{d:Dk}{line:ByteArray}(ok:okDk d=true)(h:(cmdF d line).code≠0):cmdF d line=⟨dk00,[],7⟩:=by
 unfold cmdF at h⊢;simp only at h⊢;rw[if_neg (by rw[ok];decide)] at h⊢
 split
 ·rfl
 ·rename_i h1;rw[if_neg h1] at h
  split
  ·rfl
  ·rename_i h2;rw[if_neg h2] at h
   split at h
   ·exact absurd rfl h
   ·split at h
    ·exact absurd rfl h
    ·rename_i h3;exact absurd (by simpa using h3) h
theorem zhy{d:Dk}{line:ByteArray}(h:okDk d=false):cmdF d line=⟨dk00,[],1⟩:=by
 unfold cmdF;simp only;rw[if_pos h]
def hd00:DkH:=⟨none,0,0,none,0,0,none,0,0⟩
theorem zsD(w:World)(B:Nat):DkR w B hd00 dk00:=⟨zad.none_,zad.none_,⟨[],zad.none_,rfl,fun k x r e=>by simp at e⟩⟩
theorem zhu (h:DkH) (d:Dk) (line:ByteArray) (B:Nat) (w:World) (hr:DkR w B h d) (hs:DkS h d) (hB:B <= w.heap.size) (hl:line.size <= 1048576) :
  Calls prog 15 #[.agg #[.int .i64 d.net.sta,.slice h.A1 h.n1 h.c1,.slice h.A2 h.n2 h.c2,.slice h.A3 h.n3 h.c3,.string d.log],.string line] w fun e w'=>∃(h':DkH) (LA:Option Addr) (ln lc:Nat),e= .returned (.tuple #[dkv h' (cmdF d line).dk,.slice LA ln lc,.int .i64 (cmdF d line).code])/\DkR w' w'.heap.size h' (cmdF d line).dk/\zad w' w'.heap.size 1 LA ln (strs (cmdF d line).lines)/\Below w.heap.size w w':=by
 obtain⟨W,hW,hz,k0,k1,hb⟩:=zcW w #[.int .i64 d.net.sta,.slice h.A1 h.n1 h.c1,.slice h.A2 h.n2 h.c2,.slice h.A3 h.n3 h.c3,.string d.log] #[.int .i64 0,.slice none 0 0,.slice none 0 0,.slice none 0 0,.string ⟨#[]⟩] 32 32;have HW:=hid hW;have HB:=hid hb;have HZ:=hid hz;have HY:=hid k0;have HYR:=hid k1;have HR:=hid (hr.on hB hb);have HBW:=hid (Nat.le_trans hB hb.size);have HS:=hid hs;clear hW hz k0 k1 hb hr hs;go_enter func15,ntmps15
 go_wp2_with fail
 rw[<-HW.out];refine(zqV h d B w.heap.size W HR.out HS.out HBW.out HY.out).mono ?_;rintro e w1 ⟨rfl,b1⟩;have HB1:=hid (zac HB.out b1 lr);have HY1:=hid (HY.out.on b1);have HYR1:=hid (HYR.out.on b1);have HR1:=hid (HR.out.on HBW.out b1);have HZ1:=hid b1.size;clear b1;rcases ho:okDk d with _|_
 ·have HC:=hid (zhy (line:=line) ho);obtain⟨d0,d1,d2,d3,d4⟩:=zaq HYR1.out;obtain⟨f0,f1,f2,f3,f4⟩:=zbF HYR1.out;go_wp2;obtain⟨q1,q2,q3⟩:=zb0 HYR1.out (.int .i64 0) (.slice none 0 0) (.slice none 0 0) (.slice none 0 0) (.string ⟨#[]⟩);have g0:=q1.cellAt 0 (by simp);have g1:=q1.cellAt 1 (by simp);have g2:=q1.cellAt 2 (by simp);have g3:=q1.cellAt 3 (by simp);have g4:=q1.cellAt 4 (by simp);have hbF:=zbN HB1.out q3 (Nat.le_succ _) lr
  exact bodyPost_ret (v:=.tuple #[.agg #[.int .i64 0,.slice none 0 0,.slice none 0 0,.slice none 0 0,.string ⟨#[]⟩],.slice none 0 0,.int .i64 1]) (by simp[results,results15,go_sem,g0,g1,g2,g3,g4]) rfl ⟨hd00,none,0,0,by rw[HC.out];rfl,by rw[HC.out];exact zsD _ _,by rw[HC.out];exact zad.none_,hbF⟩
 have HOK:=hid ho;clear ho
 go_wp2_with fail
 refine(zo2 h d B w.heap.size w1 HR1.out HS.out (Nat.le_trans HBW.out HZ1.out) HOK.out HY1.out).mono ?_;rintro e w2 ⟨h2,rfl,r2,b2⟩;have HB2:=hid (zac HB1.out b2 lr);have HYR2:=hid (HYR1.out.on b2);have HZ2:=hid b2.size;have HST:=hid (StD.start (r2.wide (show W.heap.size<=w1.heap.size from HZ1.out)) HOK.out rfl);clear b2 r2;simp only[dkv]
 go_upto_region 4 with fail
 obtain⟨u,hu⟩:∃y,w2.alloc (.cells #[.int .i64 d.net.sta,.slice h2.A1 h2.n1 h2.c1,.slice h2.A2 h2.n2 h2.c2,.slice h2.A3 h2.n3 h2.c3,.string d.log,.slice none 0 0,.slice none 0 0,.slice none 0 0] 74)=y:=⟨_,rfl⟩
 have bu:Below w2.heap.size w2 u:=by rw[<-hu];exact bal _
 have zu:w2.heap.size<=u.heap.size:=bu.size;have HSU:=hid (show StD u W.heap.size w2.heap.size h2 d none 0 0 [] (.slice none 0 0) (.slice none 0 0) by rw[<-hu];exact HST.out);rw[hu];have HBU:=hid (zac HB2.out bu lr);have hWu:W.heap.size<=u.heap.size:=by have h1:=HZ1.out;have h2:=HZ2.out;omega
 have HYRU:=hid (HYR2.out.on bu);clear hu bu
 go_wp2_with fail
 refine(zl6 HSU.out hWu (by decide) hl).mono ?_;rintro e w3 hcase;rcases hcase with ⟨hc,rfl,so⟩|⟨hc,rfl,so⟩;rotate_left
 ·obtain⟨h3,A3,n3,c3,V6,V7,st3,mv3⟩:=so;have HB3:=hid (HBU.out.trans (mv3.bel (B:=w.heap.size) (by have:=HB2.out.size;omega) (fun b hb=>absurd hb zb4) HBU.out.size))
  have HYR3:=hid (show Blk w3 (w.heap.size+1) _ _ from(mv3.off.block (w.heap.size+1) HYRU.out.lt (by
   have h1:=HZ.out;have h2:=HZ1.out;have h3:=HZ2.out;rintro (e|e)
   ·omega
   ·exact zb4 e)).trans HYRU.out)
  have HC:=hid (zmE HOK.out hc);clear hc st3 mv3;obtain⟨d0,d1,d2,d3,d4⟩:=zaq HYR3.out;obtain⟨f0,f1,f2,f3,f4⟩:=zbF HYR3.out;go_wp2;obtain⟨q1,q2,q3⟩:=zb0 HYR3.out (.int .i64 0) (.slice none 0 0) (.slice none 0 0) (.slice none 0 0) (.string ⟨#[]⟩);have g0:=q1.cellAt 0 (by simp);have g1:=q1.cellAt 1 (by simp);have g2:=q1.cellAt 2 (by simp);have g3:=q1.cellAt 3 (by simp);have g4:=q1.cellAt 4 (by simp);have hbF:=zbN HB3.out q3 (Nat.le_succ _) lr
  exact bodyPost_ret (v:=.tuple #[.agg #[.int .i64 0,.slice none 0 0,.slice none 0 0,.slice none 0 0,.string ⟨#[]⟩],.slice none 0 0,.int .i64 7]) (by simp[results,results15,go_sem,g0,g1,g2,g3,g4]) rfl ⟨hd00,none,0,0,by rw[HC.out];rfl,by rw[HC.out];exact zsD _ _,by rw[HC.out];exact zad.none_,hbF⟩
 obtain⟨h3,A3,n3,c3,V6,V7,st3,mv3⟩:=so;have HB3:=hid (HBU.out.trans (mv3.bel (B:=w.heap.size) (by have:=HB2.out.size;omega) (fun b hb=>absurd hb zb4) HBU.out.size))
 have HYR3:=hid (show Blk w3 (w.heap.size+1) 32 #[.int .i64 0,.slice none 0 0,.slice none 0 0,.slice none 0 0,.string ⟨#[]⟩] from(mv3.off.block (w.heap.size+1) HYRU.out.lt (by
  have h1:=HZ.out;have h2:=HZ1.out;have h3:=HZ2.out;rintro (e|e)
  ·omega
  ·exact zb4 e)).trans HYRU.out)
 obtain⟨p0,p1,p2,p3,p4,p5,_,_⟩:=st3.cells;have hgr:w2.heap.size≠w.heap.size+1:=by have h1:=HZ.out;have h2:=HZ1.out;have h3:=HZ2.out;omega
 have HDK:=hid st3.dk;have HRW:=hid (st3.says.sl.reads lr);have HSL:=hid st3.says.sl;have HST3:=hid st3;obtain⟨d0,d1,d2,d3,d4⟩:=zaq HYR3.out;obtain⟨f0,f1,f2,f3,f4⟩:=zbF HYR3.out;have HC:=hid hc;obtain⟨cm,hcm⟩:∃z,cmdF d line=z:=⟨_,rfl⟩
 rw[hcm] at HC p0 p4 HDK HRW HSL HST3;have HCM:=hid hcm;clear st3 mv3 hc hcm
 go_upto_region 6 with fail
 refine ez (fun V=>V.cell? ⟨w2.heap.size,0,none⟩=some (.int .i64 cm.dk.net.sta)/\V.cell? ⟨w2.heap.size,1,none⟩=some (.slice h3.A1 h3.n1 h3.c1)/\V.cell? ⟨w2.heap.size,2,none⟩=some (.slice h3.A2 h3.n2 h3.c2)/\V.cell? ⟨w2.heap.size,3,none⟩=some (.slice h3.A3 h3.n3 h3.c3)/\V.cell? ⟨w2.heap.size,4,none⟩=some (.string cm.dk.log)/\V.cell? ⟨w2.heap.size,5,none⟩=some (.slice A3 n3 c3)) ?_ fun hHeld=>?_
 ·exact⟨p0,p1,p2,p3,p4,p5⟩
 refine dq 0 rfl (h:=dq 1 rfl (h:=dq 2 rfl (h:=dq 3 rfl (h:=dq 4 rfl (h:=dq 5 rfl (h:=dq 6 rfl (h:=dq 7 rfl (h:=?_))))))));refine rd 8 rfl fun K hK=>?_;go_simp;refine ke hK ?_ ?_
 ·exact⟨zdS p0 hgr,zdS p1 hgr,zdS p2 hgr,zdS p3 hgr,zdS p4 hgr,zdS p5 hgr⟩
 clear hK K hHeld;intro hHeld;refine dq 9 rfl (h:=dq 10 rfl (h:=?_));refine dn ?_
 go_wp2_with fail
 obtain⟨q1,q2,q3⟩:=zb0 HYR3.out (.int .i64 cm.dk.net.sta) (.slice h3.A1 h3.n1 h3.c1) (.slice h3.A2 h3.n2 h3.c2) (.slice h3.A3 h3.n3 h3.c3) (.string cm.dk.log);have g0:=q1.cellAt 0 (by simp);have g1:=q1.cellAt 1 (by simp);have g2:=q1.cellAt 2 (by simp);have g3:=q1.cellAt 3 (by simp);have g4:=q1.cellAt 4 (by simp);have hbF:=zbN HB3.out q3 (Nat.le_succ _) lr;have hRW:w.heap.size+1<W.heap.size:=by have:=HZ.out;omega
 have t1:=HST3.out.tubes.far5 (v0:=.int .i64 cm.dk.net.sta) (v1:=.slice h3.A1 h3.n1 h3.c1) (v2:=.slice h3.A2 h3.n2 h3.c2) (v3:=.slice h3.A3 h3.n3 h3.c3) (v4:=.string cm.dk.log) hRW;have t2:=HST3.out.times.far5 (v0:=.int .i64 cm.dk.net.sta) (v1:=.slice h3.A1 h3.n1 h3.c1) (v2:=.slice h3.A2 h3.n2 h3.c2) (v3:=.slice h3.A3 h3.n3 h3.c3) (v4:=.string cm.dk.log) hRW
 have t3:zaC (((((w3.setCell ⟨w.heap.size+1,0,none⟩ (.int .i64 cm.dk.net.sta)).setCell ⟨w.heap.size+1,1,none⟩ (.slice h3.A1 h3.n1 h3.c1)).setCell ⟨w.heap.size+1,2,none⟩ (.slice h3.A2 h3.n2 h3.c2)).setCell ⟨w.heap.size+1,3,none⟩ (.slice h3.A3 h3.n3 h3.c3)).setCell ⟨w.heap.size+1,4,none⟩ (.string cm.dk.log)) w3.heap.size h3.A3 h3.n3 cm.dk.runs:=by
  obtain⟨rh,o1,o2,o3⟩:=HST3.out.runs;exact⟨rh,o1.far5 hRW,o2,fun k x r e1 e2=>⟨(o3 k x r e1 e2).1,(o3 k x r e1 e2).2.1,(o3 k x r e1 e2).2.2.far5 hRW⟩⟩
 have t4:=(HSL.out.off (S:=fun b=>b=w.heap.size+1) ⟨q3.os,q3.tape,q3.output,q3.size,fun k hk hn=>q3.block k hk (by omega)⟩ (fun b hb e=>by have:=(HSL.out.inB_lt hb).1;omega)).low.reads lr;have hDF:=(show DkR (((((w3.setCell ⟨w.heap.size+1,0,none⟩ (.int .i64 cm.dk.net.sta)).setCell ⟨w.heap.size+1,1,none⟩ (.slice h3.A1 h3.n1 h3.c1)).setCell ⟨w.heap.size+1,2,none⟩ (.slice h3.A2 h3.n2 h3.c2)).setCell ⟨w.heap.size+1,3,none⟩ (.slice h3.A3 h3.n3 h3.c3)).setCell ⟨w.heap.size+1,4,none⟩ (.string cm.dk.log)) w3.heap.size h3 cm.dk from⟨t1,t2,t3⟩)
 clear d0 d1 d2 d3 d4;obtain⟨F,hF⟩:∃y,((((w3.setCell ⟨w.heap.size+1,0,none⟩ (.int .i64 cm.dk.net.sta)).setCell ⟨w.heap.size+1,1,none⟩ (.slice h3.A1 h3.n1 h3.c1)).setCell ⟨w.heap.size+1,2,none⟩ (.slice h3.A2 h3.n2 h3.c2)).setCell ⟨w.heap.size+1,3,none⟩ (.slice h3.A3 h3.n3 h3.c3)).setCell ⟨w.heap.size+1,4,none⟩ (.string cm.dk.log)=y:=⟨_,rfl⟩
 rw[hF] at q1 q2 g0 g1 g2 g3 g4 hbF t4 hDF⊢;clear hF q3 t1 t2 t3;have k0:F.drew.cell? ⟨w.heap.size+1,0,none⟩=_:=g0;have k1:F.drew.cell? ⟨w.heap.size+1,1,none⟩=_:=g1;have k2:F.drew.cell? ⟨w.heap.size+1,2,none⟩=_:=g2;have k3:F.drew.cell? ⟨w.heap.size+1,3,none⟩=_:=g3;have k4:F.drew.cell? ⟨w.heap.size+1,4,none⟩=_:=g4;have hDD:DkR F.drew F.drew.heap.size h3 cm.dk:=(hDF.more (show w3.heap.size<=F.drew.heap.size from Nat.le_of_eq q2.symm)).drew9;have hTD:zad F.drew F.drew.heap.size 1 A3 n3 (strs cm.lines):=t4.keep fun _ _=>rfl
 exact bodyPost_ret (v:=.tuple #[.agg #[.int .i64 cm.dk.net.sta,.slice h3.A1 h3.n1 h3.c1,.slice h3.A2 h3.n2 h3.c2,.slice h3.A3 h3.n3 h3.c3,.string cm.dk.log],.slice A3 n3 c3,.int .i64 0]) (by simp[results,results15,go_sem,k0,k1,k2,k3,k4]) rfl ⟨h3,A3,n3,c3,by rw[HCM.out,HC.out];rfl,by rw[HCM.out];exact hDD,by rw[HCM.out];exact hTD,hbF.drew⟩
end Go.Proofs.YtjalgpioklcbfaaGreatDoor
