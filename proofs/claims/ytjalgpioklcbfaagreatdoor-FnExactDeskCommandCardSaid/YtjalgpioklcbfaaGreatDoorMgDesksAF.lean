/- Steps of the proof. -/
import Derived.Test.YtjalgpioklcbfaaGreatDoorMgDesksAE
import Derived.Deep.DeepCutAuto
import Derived.Orders
set_option maxHeartbeats 4000000
set_option linter.unusedVariables false
set_option linter.unusedSimpArgs false
set_option maxRecDepth 100000
namespace Go.Proofs.YtjalgpioklcbfaaGreatDoor
section
open Go.RowKit Go.Proofs.Tryz
theorem zqk (h:DkH) (d:Dk) (q:Int) (B:Nat) (w:World) (hr:DkR w B h d) (hok:h.ok) (hB:B <= w.heap.size) (hq0:0 <= q) (hq:q <= 1048576) (hlog:d.log.size <= 9223372036854775807) :
  Calls prog 14 #[.agg #[.int .i64 d.net.sta,.slice h.A1 h.n1 h.c1,.slice h.A2 h.n2 h.c2,.slice h.A3 h.n3 h.c3,.string d.log],.int .i64 q] w fun e w'=>∃r:Int,e= .returned (.int .i64 r)/\Below w.heap.size w w'/\(r<0\/(0<=r/\r<=q/\DkS h d)):=by
 obtain⟨W,hW,k0,hb⟩:∃W,W=w.alloc (.cells #[.int .i64 d.net.sta,.slice h.A1 h.n1 h.c1,.slice h.A2 h.n2 h.c2,.slice h.A3 h.n3 h.c3,.string d.log] 46)/\Blk W w.heap.size 46 #[.int .i64 d.net.sta,.slice h.A1 h.n1 h.c1,.slice h.A2 h.n2 h.c2,.slice h.A3 h.n3 h.c3,.string d.log]/\Below w.heap.size w W:=⟨_,rfl,Blk.new _ _ _,bal _⟩
 have HW:=hid hW;have HK:=hid k0;have HB:=hid hb;have HR:=hid hr;have HOK:=hid hok;clear hW k0 hb hr hok;go_enter func14,ntmps14
 go_wp2_with fail
 rw[<-HW.out];refine(zr6 h.A1 h.n1 h.c1 d.net.sta q W hq0 hq HOK.out.n1).mono ?_;rintro e w1 ⟨r1,rfl,b1,h1⟩;have HB1:=hid (zac HB.out b1 lr);have HK1:=hid (HK.out.on b1);clear b1;rcases h1 with h1|⟨h10,h11,h12⟩
 ·go_wp2;go_ret;exact⟨_,rfl,HB1.out,.inl (by omega)⟩
 ·have c1:=HK1.out.cellAt 2 (by simp);have c2:=HK1.out.cellAt 3 (by simp);simp only[ly] at c1 c2
  go_wp2_with fail
  refine(zip h.A2 h.n2 h.c2 r1 w1 h10 (by omega) HOK.out.n2).mono ?_;rintro e w2 ⟨rfl,r2,rfl,h2⟩;rcases h2 with h2|⟨h20,h21,h22⟩
  ·go_wp2;go_ret;exact⟨_,rfl,HB1.out,.inl (by omega)⟩
  ·go_wp2_with fail
   refine(zql h.A3 h.n3 h.c3 d.runs r2 B w1 (HR.out.runs.on hB HB1.out) h20 (by omega) HOK.out.n3 (Nat.le_trans hB HB1.out.size)).mono ?_;rintro e w3 ⟨r3,rfl,b3,h3⟩;have HB3:=hid (zac HB1.out b3 lr);have HK3:=hid (HK1.out.on b3);clear b3 c1 c2;rcases h3 with h3|⟨h30,h31,h32,h33⟩
   ·go_wp2;go_ret;exact⟨_,rfl,HB3.out,.inl (by omega)⟩
   ·have HSM:=hid h33;have c4:=HK3.out.cellAt 4 (by simp);simp only[ly] at c4;clear h33;by_cases hlt:(d.log.size:Int)<=r3
    ·go_wp2;go_ret;exact⟨_,rfl,HB3.out,.inr ⟨by omega,by omega,⟨by omega,by omega,by omega,HSM.out,by omega⟩⟩⟩
    ·go_wp2;go_ret;exact⟨_,rfl,HB3.out,.inl (by omega)⟩
theorem zk8 (h:DkH) (d:Dk) (B:Nat) (w:World) (hr:DkR w B h d) (hs:DkS h d) (hB:B <= w.heap.size) :
  Calls prog 16 #[.agg #[.int .i64 d.net.sta,.slice h.A1 h.n1 h.c1,.slice h.A2 h.n2 h.c2,.slice h.A3 h.n3 h.c3,.string d.log]] w fun e w'=>∃h':DkH,e= .returned (.agg #[.int .i64 d.net.sta,.slice h'.A1 h'.n1 h'.c1,.slice h'.A2 h'.n2 h'.c2,.slice h'.A3 h'.n3 h'.c3,.string d.log])/\DkR w' w'.heap.size h' d/\DkS h' d/\Below w.heap.size w w':=by
 obtain⟨W,hW,hsz,k0,k1,k2,hb⟩:=zdf w #[.int .i64 d.net.sta,.slice h.A1 h.n1 h.c1,.slice h.A2 h.n2 h.c2,.slice h.A3 h.n3 h.c3,.string d.log] #[.int .i64 0,.slice none 0 0,.slice none 0 0,.slice none 0 0,.string ⟨#[]⟩] #[.int .i64 0,.slice none 0 0,.slice none 0 0,.slice none 0 0,.string ⟨#[]⟩] 46 32 32;have HW:=hid hW;have HS:=hid hsz;have HK0:=hid k0;have HK1:=hid k1;have HK2:=hid k2;have HB:=hid hb;have HR:=hid hr;have HD:=hid hs;clear hW hsz k0 k1 k2 hb hr hs;go_enter func16,ntmps16
 go_wp2_with fail
 rw[<-HW.out];refine(zmb h.A1 h.n1 h.c1 B d.net W (HR.out.tubes.on hB HB.out) (Nat.le_trans hB HB.out.size) HD.out.n1).mono ?_;rintro e w1 ⟨g1,rfl,s1,b1⟩;have a0:=(HK2.out.on b1).cellAt 0 (by simp);have f0:=(HK2.out.on b1).frozen 0;have a1:=(HK2.out.on b1).cellAt 1 (by simp);have f1:=(HK2.out.on b1).frozen 1;have a2:=(HK2.out.on b1).cellAt 2 (by simp);have f2:=(HK2.out.on b1).frozen 2;have a3:=(HK2.out.on b1).cellAt 3 (by simp);have f3:=(HK2.out.on b1).frozen 3;have a4:=(HK2.out.on b1).cellAt 4 (by simp);have f4:=(HK2.out.on b1).frozen 4;have o2:=(HK0.out.on b1).cellAt 2 (by simp);have o3:=(HK0.out.on b1).cellAt 3 (by simp);have o4:=(HK0.out.on b1).cellAt 4 (by simp)
 simp only[ly] at a0 a1 a2 a3 a4 o2 o3 o4;obtain⟨V1,hV1⟩:∃V1,V1=(w1.setCell ⟨w.heap.size+1+1,0,none⟩ (.int .i64 d.net.sta)).setCell ⟨w.heap.size+1+1,1,none⟩ (.slice (some ⟨g1,0,none⟩) h.n1 h.n1):=⟨_,rfl⟩
 have HO1:=hid (show Only w.heap.size W.heap.size w1 V1 by rw[hV1];have:=HS.out;exact((Only.refl _ _ _).setCell (by simp;omega) (by simp;omega) _).setCell (by simp;omega) (by simp;omega) _);have HL0:=hid (show Blk V1 w.heap.size _ _ by rw[hV1];exact((HK0.out.on b1).far (p:=⟨w.heap.size+1+1,0,none⟩) (by simp;omega) _).far (p:=⟨w.heap.size+1+1,1,none⟩) (by simp;omega) _);have HL1:=hid (show Blk V1 (w.heap.size+1) _ _ by rw[hV1];exact((HK1.out.on b1).far (p:=⟨w.heap.size+1+1,0,none⟩) (by simp) _).far (p:=⟨w.heap.size+1+1,1,none⟩) (by simp) _)
 have HL2:=hid (show Blk V1 (w.heap.size+1+1) 32 #[.int .i64 d.net.sta,.slice (some ⟨g1,0,none⟩) h.n1 h.n1,.slice none 0 0,.slice none 0 0,.string ⟨#[]⟩] by rw[hV1];exact((HK2.out.on b1).set_ 0 _).set_ 1 _);have HB1:=hid (zbN (zac HB.out b1 lr) HO1.out lr lr);have S1:=hid (s1.apart HO1.out (.inr lr));have HV1:=hid hV1;have HZ1:=hid b1.size;clear s1 b1 hV1
 go_wp2_with fail
 rw[<-HV1.out];clear a0 a1 a2 a3 a4 o2 o3 o4 f0 f1 f2 f3 f4;refine(zgb h.A2 h.n2 h.c2 B d.times V1 (HR.out.times.on hB HB1.out) (Nat.le_trans hB HB1.out.size) HD.out.n2).mono ?_;rintro e w2 ⟨g2,rfl,s2,b2⟩;have a0:=(HL2.out.on b2).cellAt 0 (by simp);have f0:=(HL2.out.on b2).frozen 0;have a1:=(HL2.out.on b2).cellAt 1 (by simp);have f1:=(HL2.out.on b2).frozen 1;have a2:=(HL2.out.on b2).cellAt 2 (by simp);have f2:=(HL2.out.on b2).frozen 2;have a3:=(HL2.out.on b2).cellAt 3 (by simp);have f3:=(HL2.out.on b2).frozen 3;have a4:=(HL2.out.on b2).cellAt 4 (by simp);have f4:=(HL2.out.on b2).frozen 4;have o2:=(HL0.out.on b2).cellAt 2 (by simp);have o3:=(HL0.out.on b2).cellAt 3 (by simp)
 have o4:=(HL0.out.on b2).cellAt 4 (by simp);simp only[ly] at a0 a1 a2 a3 a4 o2 o3 o4;obtain⟨V2,hV2⟩:∃V2,V2=w2.setCell ⟨w.heap.size+1+1,2,none⟩ (.slice (some ⟨g2,0,none⟩) h.n2 h.n2):=⟨_,rfl⟩
 have HO2:=hid (show Only w.heap.size W.heap.size w2 V2 by rw[hV2];have:=HS.out;exact(Only.refl _ _ _).setCell (by simp;omega) (by simp;omega) _);have HM0:=hid (show Blk V2 w.heap.size _ _ by rw[hV2];exact(HL0.out.on b2).far (p:=⟨w.heap.size+1+1,2,none⟩) (by simp;omega) _);have HM1:=hid (show Blk V2 (w.heap.size+1) _ _ by rw[hV2];exact(HL1.out.on b2).far (p:=⟨w.heap.size+1+1,2,none⟩) (by simp) _);have HM2:=hid (show Blk V2 (w.heap.size+1+1) 32 #[.int .i64 d.net.sta,.slice (some ⟨g1,0,none⟩) h.n1 h.n1,.slice (some ⟨g2,0,none⟩) h.n2 h.n2,.slice none 0 0,.string ⟨#[]⟩] by rw[hV2];exact(HL2.out.on b2).set_ 2 _);have HB2:=hid (zbN (zac HB1.out b2 lr) HO2.out lr lr)
 have S2:=hid (s2.apart HO2.out (.inr (by have:=HO1.out.size;have:=HZ1.out;omega)));have T2:=hid ((S1.out.on b2).apart HO2.out (.inr lr));have HV2:=hid hV2;have HZ2:=hid b2.size;clear s2 b2 hV2
 go_wp2_with fail
 rw[<-HV2.out];clear a0 a1 a2 a3 a4 o2 o3 o4 f0 f1 f2 f3 f4;refine(zqo h.A3 h.n3 h.c3 B d.runs V2 (HR.out.runs.on hB HB2.out) (Nat.le_trans hB HB2.out.size) HD.out.n3 HD.out.runs).mono ?_;rintro e w3 ⟨g3,rfl,s3,b3⟩;have a0:=(HM2.out.on b3).cellAt 0 (by simp);have f0:=(HM2.out.on b3).frozen 0;have a1:=(HM2.out.on b3).cellAt 1 (by simp);have f1:=(HM2.out.on b3).frozen 1;have a2:=(HM2.out.on b3).cellAt 2 (by simp);have f2:=(HM2.out.on b3).frozen 2;have a3:=(HM2.out.on b3).cellAt 3 (by simp);have f3:=(HM2.out.on b3).frozen 3;have a4:=(HM2.out.on b3).cellAt 4 (by simp);have f4:=(HM2.out.on b3).frozen 4;have o2:=(HM0.out.on b3).cellAt 2 (by simp);have o3:=(HM0.out.on b3).cellAt 3 (by simp)
 have o4:=(HM0.out.on b3).cellAt 4 (by simp);have e0:=(HM1.out.on b3).cellAt 0 (by simp);have i0:=(HM1.out.on b3).frozen 0;have e1:=(HM1.out.on b3).cellAt 1 (by simp);have i1:=(HM1.out.on b3).frozen 1;have e2:=(HM1.out.on b3).cellAt 2 (by simp);have i2:=(HM1.out.on b3).frozen 2;have e3:=(HM1.out.on b3).cellAt 3 (by simp);have i3:=(HM1.out.on b3).frozen 3;have e4:=(HM1.out.on b3).cellAt 4 (by simp);have i4:=(HM1.out.on b3).frozen 4;simp only[ly] at a0 a1 a2 a3 a4 o2 o3 o4 e0 e1 e2 e3 e4;have S3:=hid s3;have HB3:=hid b3;have T3:=hid (T2.out.on b3);have U3:=hid (S2.out.on b3);clear s3 b3;go_wp2
 obtain⟨WF,hWF⟩:∃WF,WF=(((((((w3.setCell ⟨w.heap.size+1+1,3,none⟩ (.slice (some ⟨g3,0,none⟩) h.n3 h.n3)).setCell ⟨w.heap.size+1+1,4,none⟩ (.string d.log)).setCell ⟨w.heap.size+1,0,none⟩ (.int .i64 d.net.sta)).setCell ⟨w.heap.size+1,1,none⟩ (.slice (some ⟨g1,0,none⟩) h.n1 h.n1)).setCell ⟨w.heap.size+1,2,none⟩ (.slice (some ⟨g2,0,none⟩) h.n2 h.n2)).setCell ⟨w.heap.size+1,3,none⟩ (.slice (some ⟨g3,0,none⟩) h.n3 h.n3)).setCell ⟨w.heap.size+1,4,none⟩ (.string d.log)):=⟨_,rfl⟩
 have KF:Blk WF (w.heap.size+1) 32 #[.int .i64 d.net.sta,.slice (some ⟨g1,0,none⟩) h.n1 h.n1,.slice (some ⟨g2,0,none⟩) h.n2 h.n2,.slice (some ⟨g3,0,none⟩) h.n3 h.n3,.string d.log]:=by
  rw[hWF];exact((((((((HM1.out.on HB3.out).far (p:=⟨w.heap.size+1+1,3,none⟩) (by simp) _).far (p:=⟨w.heap.size+1+1,4,none⟩) (by simp) _).set_ 0 _).set_ 1 _).set_ 2 _).set_ 3 _).set_ 4 _)
 have hO:Only w.heap.size W.heap.size w3 WF:=by
  rw[hWF];have:=HS.out;exact((((((((Only.refl _ _ _).setCell (by simp;omega) (by simp;omega) _).setCell (by simp;omega) (by simp;omega) _).setCell (by simp) (by simp;omega) _).setCell (by simp) (by simp;omega) _).setCell (by simp) (by simp;omega) _).setCell (by simp) (by simp;omega) _).setCell (by simp) (by simp;omega) _)
 rw[<-hWF];clear hWF a0 a1 a2 a3 a4 o2 o3 o4 e0 e1 e2 e3 e4 f0 f1 f2 f3 f4 i0 i1 i2 i3 i4;obtain⟨r0,r1,r2,r3,r4⟩:=zaq KF;refine bodyPost_ret (v:=.agg #[.int .i64 d.net.sta,.slice (some ⟨g1,0,none⟩) h.n1 h.n1,.slice (some ⟨g2,0,none⟩) h.n2 h.n2,.slice (some ⟨g3,0,none⟩) h.n3 h.n3,.string d.log]) (by simp[results,results16,go_sem,r0,r1,r2,r3,r4]) rfl ?_;have z1:=HZ1.out;have z6:=HZ2.out;have z2:=HO1.out.size;have z3:=HB3.out.size;have z4:=hO.size;have z5:=HO2.out.size;refine⟨⟨some ⟨g1,0,none⟩,h.n1,h.n1,some ⟨g2,0,none⟩,h.n2,h.n2,some ⟨g3,0,none⟩,h.n3,h.n3⟩,rfl,⟨?_,?_,?_⟩,⟨HD.out.n1,HD.out.n2,HD.out.n3,HD.out.runs,HD.out.log⟩,zbN (zac HB2.out HB3.out lr) hO lr lr⟩
 ·exact(T3.out.apart hO (.inr lr)).reads (by omega)
 ·exact(U3.out.apart hO (.inr (by omega))).reads (by omega)
 ·exact(S3.out.apart hO (.inr (by omega))).reads hO.size
theorem zuk{w:World}{B n n':Nat}{A A':Option Addr}{rs:List Rn}(h:zaC w B A n rs)(h':zaC w B A' n' rs):n=n':=h.len.symm.trans h'.len
theorem zeT (h h':DkH) (d:Dk) (B:Nat) (w:World) (hr:DkR w B h d) (hr':DkR w B h' d) (hs:DkS h d) (hB:B <= w.heap.size) :
  Calls prog 17 #[.agg #[.int .i64 d.net.sta,.slice h.A1 h.n1 h.c1,.slice h.A2 h.n2 h.c2,.slice h.A3 h.n3 h.c3,.string d.log],.agg #[.int .i64 d.net.sta,.slice h'.A1 h'.n1 h'.c1,.slice h'.A2 h'.n2 h'.c2,.slice h'.A3 h'.n3 h'.c3,.string d.log]] w fun e w'=>e= .returned (.bool true)/\Below w.heap.size w w':=by
 obtain⟨A1,n1,c1,A2,n2,c2,A3,n3,c3⟩:=h;obtain⟨A1',n1',c1',A2',n2',c2',A3',n3',c3'⟩:=h';obtain⟨ht,hi,hu⟩:=hr;obtain⟨ht',hi',hu'⟩:=hr';obtain⟨s1,s2,s3,s4,s5⟩:=hs;simp only at ht hi hu ht' hi' hu' s1 s2 s3;obtain rfl:n1=n1':=(zbW ht).symm.trans (zbW ht');obtain rfl:n2=n2':=(zai hi).symm.trans (zai hi');obtain rfl:n3=n3':=zuk hu hu';obtain⟨W,hW,hz,k0,k1,hb⟩:=zcW w #[.int .i64 d.net.sta,.slice A1 n1 c1,.slice A2 n2 c2,.slice A3 n3 c3,.string d.log] #[.int .i64 d.net.sta,.slice A1' n1 c1',.slice A2' n2 c2',.slice A3' n3 c3',.string d.log] 32 32;have HW:=hid hW;have HK0:=hid k0;have HK1:=hid k1;have HB:=hid hb;have HT:=hid (And.intro ht ht');have HI:=hid (And.intro hi hi')
 have HU:=hid (And.intro hu hu');have HSM:=hid s4;clear hW k0 k1 hb ht ht' hi hi' hu hu' s4 hz;go_enter func17,ntmps17
 go_wp2_with fail
 rw[<-HW.out];refine(zp1 A1 A1' n1 c1 c1' B d.net W (HT.out.1.on hB HB.out) (HT.out.2.on hB HB.out) (Nat.le_trans hB HB.out.size) s1).mono ?_;rintro e w1 ⟨rfl,b1⟩;have HB1:=hid (zac HB.out b1 lr);have HL0:=hid (HK0.out.on b1);have HL1:=hid (HK1.out.on b1);have a2:=(HK0.out.on b1).cellAt 2 (by simp);have b2:=(HK1.out.on b1).cellAt 2 (by simp);have a3:=(HK0.out.on b1).cellAt 3 (by simp);have b3:=(HK1.out.on b1).cellAt 3 (by simp);simp only[ly] at a2 b2 a3 b3;clear b1
 go_wp2_with fail
 refine(zhr A2 n2 c2 d.times A2' n2 c2' d.times B w1 (HI.out.1.on hB HB1.out) (HI.out.2.on hB HB1.out) s2 s2).mono ?_;rintro e w2 ⟨rfl,q2,hq2⟩;rw[zku zkt];have b22:Below w1.heap.size w1 w2:=by rw[hq2];exact zan (Below.refl _ _) _
 have HB2:=hid (zac HB1.out b22 lr);have HM0:=hid (HL0.out.on b22);have HM1:=hid (HL1.out.on b22);have a3:=(HL0.out.on b22).cellAt 3 (by simp);have b3:=(HL1.out.on b22).cellAt 3 (by simp);simp only[ly] at a3 b3;clear b22 hq2 a2 b2
 go_wp2_with fail
 refine(zoi A3 A3' n3 c3 c3' B d.runs w2 (HU.out.1.on hB HB2.out) (HU.out.2.on hB HB2.out) s3 (Nat.le_trans hB HB2.out.size) HSM.out).mono ?_;rintro e w3 ⟨rfl,b33⟩;have HB3:=hid (zac HB2.out b33 lr);have a4:=(HM0.out.on b33).cellAt 4 (by simp);have b4:=(HM1.out.on b33).cellAt 4 (by simp);simp only[ly] at a4 b4;clear b33 a3 b3;go_wp2;go_ret;exact⟨rfl,HB3.out⟩
def okTb(s:Int)(t:Tb):Bool:=inR t.from_ 0 (s-1)&&(inR t.to_ 0 (s-1)&&(t.from_ !=t.to_&&inR t.len 1 2000))
theorem zhq (s k:Int) (A:Option Addr) (n c:Nat) (w:World) (h0:2 <= s) (h1:s <= 10) :
  Calls prog 193 #[.agg #[.int .i64 s,.slice A n c],.int .i64 k] w fun e w'=>e= .returned (.bool (inR k 0 (s-1)))/\Below w.heap.size w w':=by
 go_enter func193,ntmps193
 go_wp2_with fail
 refine(zaG _ _ _ _).mono ?_;rintro e w1 ⟨rfl,rfl⟩;go_wp2;go_ret;exact⟨rfl,bal _⟩
theorem zpB (s:Int) (t:Tb) (A:Option Addr) (n c:Nat) (w:World) (h0:2 <= s) (h1:s <= 10) :
  Calls prog 132 #[.agg #[.int .i64 s,.slice A n c],.agg #[.int .i64 t.from_,.int .i64 t.to_,.int .i64 t.len]] w fun e w'=>e= .returned (.bool (okTb s t))/\Below w.heap.size w w':=by
 obtain⟨W,hW,hz,k0,k1,hb⟩:=zcW w #[.int .i64 s,.slice A n c] #[.int .i64 t.from_,.int .i64 t.to_,.int .i64 t.len] 28 101;have HW:=hid hW;have HB:=hid hb;have HK0:=hid k0;have HK1:=hid k1;clear hW hb k0 k1 hz;go_enter func132,ntmps132
 go_wp2_with fail
 rw[<-HW.out];refine(zhq s t.from_ A n c W h0 h1).mono ?_;rintro e w1 ⟨rfl,b1⟩;have HB1:=hid (zac HB.out b1 lr);have L0:=hid (HK0.out.on b1);have L1:=hid (HK1.out.on b1);clear b1;have a0:=L0.out.cellAt 0 (by simp);have a1:=L0.out.cellAt 1 (by simp);have c0:=L1.out.cellAt 0 (by simp);have c1:=L1.out.cellAt 1 (by simp);have c2:=L1.out.cellAt 2 (by simp);simp only[ly] at a0 a1 c0 c1 c2;rcases e1:inR t.from_ 0 (s-1) with _|_
 ·have HO:=hid (show okTb s t=false by simp[okTb,e1]);go_wp2;go_ret;exact⟨zae HO.out.symm,HB1.out⟩
 go_wp2_with fail
 refine(zhq s t.to_ A n c w1 h0 h1).mono ?_;rintro e w2 ⟨rfl,b2⟩;have HB2:=hid (zac HB1.out b2 lr);have M1:=hid (L1.out.on b2);clear b2 a0 a1 c0 c1 c2;have c0:=M1.out.cellAt 0 (by simp);have c1:=M1.out.cellAt 1 (by simp);have c2:=M1.out.cellAt 2 (by simp);simp only[ly] at c0 c1 c2;rcases e2:inR t.to_ 0 (s-1) with _|_
 ·have HO:=hid (show okTb s t=false by simp[okTb,e2]);go_wp2;go_ret;exact⟨zae HO.out.symm,HB2.out⟩
 rcases e3:(t.from_ !=t.to_) with _|_
 ·have HO:=hid (show okTb s t=false by simp[okTb,e3]);go_wp2;go_ret;exact⟨zae HO.out.symm,HB2.out⟩
 have HO:=hid (show okTb s t=inR t.len 1 2000 by simp[okTb,e1,e2,e3])
 go_wp2_with fail
 refine(zaG _ _ _ _).mono ?_;rintro e w3 ⟨rfl,rfl⟩;rw[<-HO.out];go_wp2;go_ret;exact⟨rfl,HB2.out⟩
theorem zm5 (s:Int) (t:Tb) (A:Option Addr) (n c g:Nat) (w:World) (h0:2 <= s) (h1:s <= 10) (c0:w.cell? ⟨g,0,none⟩ = some (.int .i64 s)) (c1:w.cell? ⟨g,1,none⟩ = some (.slice A n c)) :
  Calls prog 131 #[.agg #[.int .i64 t.from_,.int .i64 t.to_,.int .i64 t.len],.pointer (some ⟨g,0,none⟩)] w fun e w'=>e= .returned (.bool (!okTb s t))/\Below w.heap.size w w':=by
 obtain⟨W,hW,k0,hb⟩:∃W,W=w.alloc (.cells #[.int .i64 t.from_,.int .i64 t.to_,.int .i64 t.len] 101)/\Blk W w.heap.size 101 #[.int .i64 t.from_,.int .i64 t.to_,.int .i64 t.len]/\Below w.heap.size w W:=⟨_,rfl,Blk.new _ _ _,bal _⟩
 have HW:=hid hW;have HB:=hid hb;replace c0:=zaa hb c0;replace c1:=zaa hb c1;have d0:=k0.cellAt 0 (by simp);have d1:=k0.cellAt 1 (by simp);have d2:=k0.cellAt 2 (by simp);simp only[ly] at d0 d1 d2;clear hW hb k0;go_enter func131,ntmps131
 go_upto_region 1 with fail
 rw[<-HW.out]
 go_wp2_with fail
 refine(zpB s t A n c W h0 h1).mono ?_;rintro e w1 ⟨rfl,b1⟩;go_wp2;go_ret;exact⟨rfl,zac HB.out b1 lr⟩
theorem ziG (s:Int) (t:Tb) (w:World) (h0:2 <= s) (h1:s <= 10) :
  Calls prog 165 #[.agg #[.int .i64 t.from_,.int .i64 t.to_,.int .i64 t.len],.int .i64 s] w fun e w'=>e= .returned (.bool (okTb s t))/\Below w.heap.size w w':=by
 rcases e1:inR t.from_ 0 (s-1) with _|_
 ·have HO:=hid (show okTb s t=false by simp[okTb,e1]);go_enter func165,ntmps165
  go_wp2_with (go_at_call 164;refine(za2 _ _ _ _).mono ?_;rintro e w' ⟨rfl,rfl⟩)
  go_ret;exact⟨zae HO.out.symm,bal _⟩
 rcases e2:inR t.to_ 0 (s-1) with _|_
 ·have HO:=hid (show okTb s t=false by simp[okTb,e2]);go_enter func165,ntmps165
  go_wp2_with (go_at_call 164;refine(za2 _ _ _ _).mono ?_;rintro e w' ⟨rfl,rfl⟩)
  go_ret;exact⟨zae HO.out.symm,bal _⟩
 rcases e3:(t.from_ !=t.to_) with _|_
 ·have HO:=hid (show okTb s t=false by simp[okTb,e3]);go_enter func165,ntmps165
  go_wp2_with (go_at_call 164;refine(za2 _ _ _ _).mono ?_;rintro e w' ⟨rfl,rfl⟩)
  go_ret;exact⟨zae HO.out.symm,bal _⟩
 have HO:=hid (show okTb s t=inR t.len 1 2000 by simp[okTb,e1,e2,e3]);go_enter func165,ntmps165
 go_wp2_with (go_at_call 164;refine(za2 _ _ _ _).mono ?_;rintro e w' ⟨rfl,rfl⟩)
 go_ret;exact⟨zae HO.out.symm,bal _⟩
theorem zjS (A:Option Addr) (n c B:Nat) (l:List Tb) (s:Int) (P:Option Addr) (m d g:Nat) (w:World) (h:zad w B 3 A n (tbs l)) (hB:B <= w.heap.size) (hn:n <= 1048576) (h0:2 <= s) (h1:s <= 10) (k0:w.cell? ⟨g,0,none⟩ = some (.int .i64 s)) (k1:w.cell? ⟨g,1,none⟩ = some (.slice P m d)) :
  Calls prog 192 #[.slice A n c,.func (.func 131) #[] #[.pointer (some ⟨g,0,none⟩)]] w
   fun e w'=>e= .returned (.int .i64 (idxI (fun x=>!okTb s x) l))/\Below w.heap.size w w':=by
 have hl:=hid (zbW h);go_enter func192,ntmps192;go_wp2
 go_loopw [8] (fun i wr=>∃k:Nat,k<=n/\i= .int .i64 k/\za0 (okTb s) l k/\Below w.heap.size w wr) (fun i _=>n-(RowKit.intOf i).toNat)
 case atStart=>exact⟨0,Nat.zero_le _,rfl,za0.zero _ _,Below.refl _ _⟩
 case round=>
  obtain⟨k,hk,rfl,hall,hbel⟩:=hrel;have HA:=hid hall;have HB:=hid hbel;have z0:=zaa hbel k0;have z1:=zaa hbel k1;clear hall;by_cases hlt:k<n
  ·obtain⟨x,b,off,he,rfl,hb,c0,c1,c2⟩:=zdD (h.on hB hbel) hlt;have HE:=hid he;clear he hbel h
   go_wp2_with fail
   refine(zm5 s x P m d g _ h0 h1 z0 z1).mono ?_;rintro e w1 ⟨rfl,b1⟩;have HF:=hid (zac HB.out b1 lr);clear b1 c0 c1 c2 z0 z1;rcases ho:okTb s x with _|_
   ·have HO:=hid (show idxI (fun x=>!okTb s x) l=k from zcT HE.out (by simp[ho]) (HA.out.imp fun x hx=>by simp[hx]));go_wp2;go_ret;exact⟨za3 HO.out.symm,HF.out⟩
   ·have HO:=hid ho;go_wp2
    go_roundw
    case rel=>exact⟨k+1,by omega,by go_num,HA.out.step HE.out HO.out,HF.out⟩
    case measure=>simp[RowKit.intOf];omega
  ·obtain rfl:k=n:=by omega
   have HO:=hid (show idxI (fun x=>!okTb s x) l=-1 from zdo (HA.out.imp fun x hx=>by simp[hx]) hl.out);go_wp2;go_ret;exact⟨za3 HO.out.symm,HB.out⟩
theorem zh4 (A:Option Addr) (n c B:Nat) (l:List Tb) (s:Int) (P:Option Addr) (m d g:Nat) (w:World) (h:zad w B 3 A n (tbs l)) (hB:B <= w.heap.size) (hn:n <= 1048576) (h0:2 <= s) (h1:s <= 10) (k0:w.cell? ⟨g,0,none⟩ = some (.int .i64 s)) (k1:w.cell? ⟨g,1,none⟩ = some (.slice P m d)) :
  Calls prog 130 #[.slice A n c,.func (.func 131) #[] #[.pointer (some ⟨g,0,none⟩)]] w
   fun e w'=>e= .returned (.bool (!l.all (okTb s)))/\Below w.heap.size w w':=by
 have HO:=hid (show decide (0<=idxI (fun x=>!okTb s x) l)= !l.all (okTb s) from by rw[zc5];simp[List.any_eq_not_all_not]);go_enter func130,ntmps130
 go_wp2_with fail
 refine(zjS A n c B l s P m d g w h hB hn h0 h1 k0 k1).mono ?_;rintro e w1 ⟨rfl,b1⟩;go_wp2;go_ret;exact⟨zae HO.out,b1⟩
def okNt(x:Nt):Bool:=inR x.sta 2 10&&(decide (x.tubes.length<=24)&&x.tubes.all (okTb x.sta))
theorem zdy (A:Option Addr) (n c B:Nat) (x:Nt) (w:World) (h:zad w B 3 A n (tbs x.tubes)) (hB:B <= w.heap.size) (hn:n <= 1048576) :
  Calls prog 70 #[.agg #[.int .i64 x.sta,.slice A n c]] w fun e w'=>e= .returned (.bool (okNt x))/\Below w.heap.size w w':=by
 have hl:=zbW h;obtain⟨W,hW,k0,hb⟩:∃W,W=w.alloc (.cells #[.int .i64 x.sta,.slice A n c] 28)/\Blk W w.heap.size 28 #[.int .i64 x.sta,.slice A n c]/\Below w.heap.size w W:=⟨_,rfl,Blk.new _ _ _,bal _⟩
 have HW:=hid hW;have HB:=hid hb;have HR:=hid (h.on hB hb);have c0:=k0.cellAt 0 (by simp);have c1:=k0.cellAt 1 (by simp);simp only[ly] at c0 c1;have HL:=hid hl;clear hW hb k0 h hl;go_enter func70,ntmps70
 go_upto_region 1 with fail
 rw[<-HW.out]
 go_wp2_with fail
 refine(zaG _ _ _ _).mono ?_;rintro e w1 ⟨rfl,rfl⟩;rcases e1:inR x.sta 2 10 with _|_
 ·have HO:=hid (show okNt x=false by simp[okNt,e1]);go_wp2;go_ret;exact⟨zae HO.out.symm,HB.out⟩
 obtain⟨h0,h1⟩:=zam.1 e1;by_cases h24:n<=24
 ·have HO:=hid (show okNt x=x.tubes.all (okTb x.sta) by simp[okNt,e1,HL.out,h24])
  go_wp2_with fail
  refine(zh4 A n c B x.tubes x.sta A n c w.heap.size W HR.out (Nat.le_trans hB HB.out.size) hn h0 h1 c0 c1).mono ?_;rintro e w2 ⟨rfl,b2⟩;go_wp2;go_ret;exact⟨zae (by rw[HO.out];try simp),zac HB.out b2 lr⟩
 ·have HO:=hid (show okNt x=false by simp[okNt,e1,HL.out,h24]);go_wp2;go_ret;exact⟨zae HO.out.symm,HB.out⟩
end
section
open Go.RowKit Go.Lib
end
section
open Go.RowKit Go.Lib Go.Proofs.Tryz
def zau(x:En):ByteArray:=zab (itoa x.day)++⟨#[32]⟩++x.what++⟨#[32]⟩++zab (itoa x.val)
theorem zg4(x:En):(zau x).size=(itoa x.day).length+1+x.what.size+1+(itoa x.val).length:=by
 simp only[zau,ByteArray.size_append,zaj]
 rfl
def zcy(s:Int)(l:List UInt8):Int:=l.foldl (fun s c=>(37*s+(c.toNat:Int))%65519) s
theorem zgp:∀(l:List UInt8) (s:Int),0<=s/\s<=65518->0<=zcy s l/\zcy s l<=65518
 | [],s,h=>h
 |c::r,s,h=>zgp r _ (show 0<=(37*s+(c.toNat:Int))%65519/\(37*s+(c.toNat:Int))%65519<=65518 by omega)
theorem ziR(s:Int)(l:List UInt8)(c:UInt8):zcy s (l++ [c])=(37*zcy s l+(c.toNat:Int))%65519:=by simp[zcy]
def zbf(b:Int)(s:ByteArray):Int:=zcy ((b+29)%65519) s.data.toList
theorem zdt(b:Int)(s:ByteArray):0<=zbf b s/\zbf b s<=65518:=zgp _ _ (by omega)
theorem zkB(s:ByteArray)(k:Nat)(h:k<s.size):s.data.toList.take (k+1)=s.data.toList.take k++ [s[k]]:=by
 rw[List.take_succ_eq_append_getElem (by simpa using h)];rfl
theorem zeF (x:En) (w:World) (hx:x.good) (hsm:x.small) (ht:TabP w) :
  Calls prog 95 #[.agg #[.int .i64 x.day,.string x.what,.int .i64 x.val]] w fun e w'=>e= .returned (.string (zau x))/\Below w.heap.size w w':=by
 have HT:=hid ht;have hwz:=hsm;unfold En.small at hwz;clear ht;have hs1:(zab (itoa x.day)).size<=20:=by rw[zaj];exact zaz hx.1.1 hx.1.2
 have hs2:(zab (itoa x.val)).size<=20:=by rw[zaj];exact zaz hx.2.2.1 hx.2.2.2
 have n1:¬(9223372036854775807<(zab (itoa x.day)).size+1):=by omega
 have n2:¬(9223372036854775807<(zab (itoa x.day)).size+1+x.what.size):=by omega
 have n3:¬(9223372036854775807<(zab (itoa x.day)).size+1+x.what.size+1):=by omega
 have n4:¬(9223372036854775807<(zab (itoa x.day)).size+1+x.what.size+1+(zab (itoa x.val)).size):=by omega
 go_enter func95,ntmps95
 go_wp2_with fail
 obtain⟨wq,hwq⟩:∃y,w.alloc (.cells #[.int .i64 x.day,.string x.what,.int .i64 x.val] 145)=y:=⟨_,rfl⟩
 have bq:Below w.heap.size w wq:=by rw[<-hwq];exact bal _
 have yq:Blk wq w.heap.size 145 #[.int .i64 x.day,.string x.what,.int .i64 x.val]:=by rw[<-hwq];exact Blk.new _ _ _
 rw[hwq];clear hwq;have HB:=hid bq;have HT1:=hid (zaw HT.out bq);have q0:wq.cell? ⟨w.heap.size,0,none⟩=some (.int .i64 x.day):=yq.cellAt 0 (by simp);have q1:wq.cell? ⟨w.heap.size,1,none⟩=some (.string x.what):=yq.cellAt 1 (by simp);have q2:wq.cell? ⟨w.heap.size,2,none⟩=some (.int .i64 x.val):=yq.cellAt 2 (by simp);clear bq yq
 go_wp2_with fail
 go_region_held3 (fun W=>Below wq.heap.size wq W∧W.cell? ⟨w.heap.size,0,none⟩=some (.int .i64 x.day)∧W.cell? ⟨w.heap.size,1,none⟩=some (.string x.what)∧W.cell? ⟨w.heap.size,2,none⟩=some (.int .i64 x.val)) (first|exact⟨(Below.refl _ _).drew,q0,q1,q2⟩|(go_split_ands;exact⟨zac (by assumption) hb1 lr,zaa hb1 (by assumption),zaa hb1 (by assumption),zaa hb1 (by assumption)⟩)|fail "keep") (first|(go_at_call 38;go_split_ands;refine(zaL _ _ (by first|exact hx.1.1|exact hx.2.2.1) (by first|exact hx.1.2|exact hx.2.2.2) (zaw HT1.out (by assumption))).mono ?_;rintro e w2 ⟨rfl,hb1⟩)|fail "arm")
 rename_i hS;have HF:=hid (zac HB.out hS.1 lr);go_wp2;go_ret;exact⟨rfl,HF.out⟩
theorem zfL (x:En) (b:Nat) (w:World) (hx:x.good) (hsm:x.small) (q0:w.cell? ⟨b,0,none⟩ = some (.int .i64 x.day)) (q1:w.cell? ⟨b,1,none⟩ = some (.string x.what)) (q2:w.cell? ⟨b,2,none⟩ = some (.int .i64 x.val)) :
  Calls prog 176 #[.pointer (some ⟨b,0,none⟩)] w fun e w'=>e= .returned (.string (zau x))/\Below w.heap.size w w':=by
 have hwz:=hsm;unfold En.small at hwz;have hs1:(zab (itoa x.day)).size<=20:=by rw[zaj];exact zaz hx.1.1 hx.1.2
 have hs2:(zab (itoa x.val)).size<=20:=by rw[zaj];exact zaz hx.2.2.1 hx.2.2.2
 have n1:¬(9223372036854775807<(zab (itoa x.day)).size+1):=by omega
 have n2:¬(9223372036854775807<(zab (itoa x.day)).size+1+x.what.size):=by omega
 have n3:¬(9223372036854775807<(zab (itoa x.day)).size+1+x.what.size+1):=by omega
 have n4:¬(9223372036854775807<(zab (itoa x.day)).size+1+x.what.size+1+(zab (itoa x.val)).size):=by omega
 go_enter func176,ntmps176
 go_wp2_with fail
 go_region_held3 (fun W=>Below w.heap.size w W∧W.cell? ⟨b,0,none⟩=some (.int .i64 x.day)∧W.cell? ⟨b,1,none⟩=some (.string x.what)∧W.cell? ⟨b,2,none⟩=some (.int .i64 x.val)) (first|exact⟨(Below.refl _ _).drew,q0,q1,q2⟩|(go_split_ands;exact⟨zac (by assumption) hb1 lr,zaa hb1 (by assumption),zaa hb1 (by assumption),zaa hb1 (by assumption)⟩)|fail "keep") (first|(go_at_call 173;refine(zbj _ _ (by first|exact hx.1.1|exact hx.2.2.1) (by first|exact hx.1.2|exact hx.2.2.2)).mono ?_;rintro e w2 ⟨rfl,hb1⟩)|fail "arm")
 rename_i hS;have HF:=hid hS.1;go_wp2;go_ret;exact⟨rfl,HF.out⟩
theorem zhQ (b:Int) (s:ByteArray) (w:World) (hb0:0 <= b) (hb1:b <= 65518) (hs:s.size <= 9223372036854775807) :
  Calls prog 233 #[.int .i64 b,.string s] w fun e w'=>e= .returned (.int .i64 (zbf b s))/\w=w':=by
 go_enter func233,ntmps233;go_wp2
 go_loop [5,6] (fun t i=>∃k:Nat,k<=s.size/\i= .int .i64 k/\t= .int .i64 (zcy ((b+29)%65519) (s.data.toList.take k))) (fun t i=>s.size-(RowKit.intOf i).toNat)
 case atStart=>exact⟨0,Nat.zero_le _,rfl,rfl⟩
 case round=>
  obtain⟨k,hk,rfl,rfl⟩:=hrel;have hbd:=zgp (s.data.toList.take k) ((b+29)%65519) (by omega);by_cases hlt:k<s.size
  ·have hst:=hid (show zcy ((b+29)%65519) (s.data.toList.take (k+1))=(37*zcy ((b+29)%65519) (s.data.toList.take k)+(s[k].toNat:Int))%65519 by rw[zkB s k hlt,ziR]);obtain⟨v,hv⟩:∃v,zcy ((b+29)%65519) (s.data.toList.take k)=v:=⟨_,rfl⟩
   rw[hv] at hbd hst⊢;clear hv;have hc:(s[k].toNat:Int)<=255:=by have:=s[k].toNat_lt;omega
   obtain⟨h0,h1⟩:=hbd;go_wp2
   go_round
   case rel=>exact⟨k+1,by omega,by go_num,by rw[hst.out]⟩
   case measure=>simp[RowKit.intOf];omega
  ·obtain rfl:k=s.size:=by omega
   have HO:=hid (show zcy ((b+29)%65519) (s.data.toList.take s.size)=zbf b s by rw[List.take_of_length_le (by rw[Array.length_toList];exact Nat.le_refl _)];rfl);go_wp2;go_ret;exact⟨za3 HO.out,rfl⟩
theorem zdA (b:Int) (x:En) (w:World) (hx:x.good) (hsm:x.small) (hb0:0 <= b) (hb1:b <= 65518) (ht:TabP w) :
  Calls prog 162 #[.int .i64 b,.agg #[.int .i64 x.day,.string x.what,.int .i64 x.val]] w fun e w'=>e= .returned (.int .i64 (zbf b (zau x)))/\Below w.heap.size w w':=by
 have HT:=hid ht
 have hsz:(zau x).size<=1048700:=by
  have h1:=zaz hx.1.1 hx.1.2;have h2:=zaz hx.2.2.1 hx.2.2.2;unfold En.small at hsm;rw[zg4];omega
 clear ht;go_enter func162,ntmps162
 go_wp2_with fail
 obtain⟨wq,hwq⟩:∃y,w.alloc (.cells #[.int .i64 x.day,.string x.what,.int .i64 x.val] 145)=y:=⟨_,rfl⟩
 have bq:Below w.heap.size w wq:=by rw[<-hwq];exact bal _
 have yq:Blk wq w.heap.size 145 #[.int .i64 x.day,.string x.what,.int .i64 x.val]:=by rw[<-hwq];exact Blk.new _ _ _
 rw[hwq];clear hwq;have HB:=hid bq;have HT1:=hid (zaw HT.out bq);have q0:wq.cell? ⟨w.heap.size,0,none⟩=some (.int .i64 x.day):=yq.cellAt 0 (by simp);have q1:wq.cell? ⟨w.heap.size,1,none⟩=some (.string x.what):=yq.cellAt 1 (by simp);have q2:wq.cell? ⟨w.heap.size,2,none⟩=some (.int .i64 x.val):=yq.cellAt 2 (by simp);clear bq yq
 go_wp2_with fail
 refine(zeF x _ hx hsm HT1.out).mono ?_;rintro e w1 ⟨rfl,b1⟩;have HF:=hid (zac HB.out b1 lr);clear b1 q0 q1 q2;obtain⟨s,hs⟩:∃s,zau x=s:=⟨_,rfl⟩
 rw[hs] at hsz⊢;have HW:=hid hs;clear hs;go_wp2
 go_loop [5,7,15] (fun t _ i=>∃k:Nat,k<=s.size/\i= .int .i64 k/\t= .int .i64 (zcy ((b+29)%65519) (s.data.toList.take k))) (fun _ _ i=>s.size-(RowKit.intOf i).toNat)
 case atStart=>exact⟨0,Nat.zero_le _,rfl,rfl⟩
 case round=>
  obtain⟨k,hk,rfl,rfl⟩:=hrel;have hbd:=zgp (s.data.toList.take k) ((b+29)%65519) (by omega);by_cases hlt:k<s.size
  ·have hst:=hid (show zcy ((b+29)%65519) (s.data.toList.take (k+1))=(37*zcy ((b+29)%65519) (s.data.toList.take k)+(s[k].toNat:Int))%65519 by rw[zkB s k hlt,ziR]);obtain⟨v,hv⟩:∃v,zcy ((b+29)%65519) (s.data.toList.take k)=v:=⟨_,rfl⟩
   rw[hv] at hbd hst⊢;clear hv;have hc:(s[k].toNat:Int)<=255:=by have:=s[k].toNat_lt;omega
   obtain⟨h0,h1⟩:=hbd;go_wp2
   go_round
   case rel=>exact⟨k+1,by omega,by go_num,by rw[hst.out]⟩
   case measure=>simp[RowKit.intOf];omega
  ·obtain rfl:k=s.size:=by omega
   have HO:=hid (show zcy ((b+29)%65519) (s.data.toList.take s.size)=zbf b s by rw[List.take_of_length_le (by rw[Array.length_toList];exact Nat.le_refl _)];rfl);go_wp2;go_ret;exact⟨by rw[HW.out];exact za3 HO.out,HF.out⟩
end
section
open Go.RowKit Go.Proofs.Tryz
theorem zfh (A:Option Addr) (n c B g:Nat) (x:Nt) (w:World) (h:zad w B 3 A n (tbs x.tubes)) (hB:B <= w.heap.size) (hn:n <= 1048576) (k0:w.cell? ⟨g,0,none⟩ = some (.int .i64 x.sta)) (k1:w.cell? ⟨g,1,none⟩ = some (.slice A n c)) :
  Calls prog 97 #[.pointer (some ⟨g,0,none⟩)] w fun e w'=>e= .returned (.bool (okNt x))/\Below w.heap.size w w':=by
 have HL:=hid (zbW h);rcases e1:inR x.sta 2 10 with _|_
 ·have HO:=hid (show okNt x=false by simp[okNt,e1]);go_enter func97,ntmps97
  go_wp2_with fail
  refine(za2 _ _ _ _).mono ?_;rintro e w1 ⟨rfl,rfl⟩;rw[e1];go_wp2;go_ret;exact⟨zae HO.out.symm,Below.refl _ _⟩
 obtain⟨h0,h1⟩:=zam.1 e1;by_cases h24:n<=24
 ·have HO:=hid (show okNt x=x.tubes.all (okTb x.sta) by simp[okNt,e1,HL.out,h24]);go_enter func97,ntmps97
  go_wp2_with fail
  refine(za2 _ _ _ _).mono ?_;rintro e w1 ⟨rfl,rfl⟩;rw[e1];go_wp2
  go_loopw [3] (fun i wr=>∃k:Nat,k<=n/\i= .int .i64 k/\za0 (okTb x.sta) x.tubes k/\Below w.heap.size w wr) (fun i _=>n-(RowKit.intOf i).toNat)
  case atStart=>exact⟨0,Nat.zero_le _,rfl,za0.zero _ _,Below.refl _ _⟩
  case round=>
   obtain⟨k,hk,rfl,hall,hbel⟩:=hrel;have HA:=hid hall;have HB:=hid hbel;have z0:=zaa hbel k0;have z1:=zaa hbel k1;clear hall;by_cases hlt:k<n
   ·obtain⟨t,b,off,he,rfl,hb,c0,c1,c2⟩:=zdD (h.on hB hbel) hlt;have HE:=hid he;have hi0:(0:Int)<=k:=by omega
    have hi1:(k:Int)<n:=by omega
    clear he hbel h k0 k1;rcases ho:okTb x.sta t with _|_
    ·have HF:=hid (show okNt x=false from HO.out.trans (zcd HE.out ho))
     go_wp2_with fail
     go_region_held3 (fun W=>Below wr.heap.size wr W/\W.cell? ⟨b,off+k*3,none⟩=some (.int .i64 t.from_)/\W.cell? ⟨b,off+k*3+1,none⟩=some (.int .i64 t.to_)/\W.cell? ⟨b,off+k*3+2,none⟩=some (.int .i64 t.len)/\W.cell? ⟨g,0,none⟩=some (.int .i64 x.sta)/\W.cell? ⟨g,1,none⟩=some (.slice (some ⟨b,off,none⟩) n c)) (first|exact⟨(Below.refl _ _).drew,c0,c1,c2,z0,z1⟩|(go_split_ands;exact⟨zac (by assumption) hb1 lr,zaa hb1 (by assumption),zaa hb1 (by assumption),zaa hb1 (by assumption),zaa hb1 (by assumption),zaa hb1 (by assumption)⟩)) (first|(go_at_call 165;refine(ziG x.sta t _ h0 h1).mono ?_;rw[ho];rintro e w1 ⟨rfl,hb1⟩))
     rename_i hS;have HS:=hid (zac HB.out hS.1 lr);clear hS hb1 c0 c1 c2 z0 z1;go_wp2;go_ret;exact⟨zae HF.out.symm,HS.out⟩
    ·have HT:=hid ho
     go_wp2_with fail
     go_region_held3 (fun W=>Below wr.heap.size wr W/\W.cell? ⟨b,off+k*3,none⟩=some (.int .i64 t.from_)/\W.cell? ⟨b,off+k*3+1,none⟩=some (.int .i64 t.to_)/\W.cell? ⟨b,off+k*3+2,none⟩=some (.int .i64 t.len)/\W.cell? ⟨g,0,none⟩=some (.int .i64 x.sta)/\W.cell? ⟨g,1,none⟩=some (.slice (some ⟨b,off,none⟩) n c)) (first|exact⟨(Below.refl _ _).drew,c0,c1,c2,z0,z1⟩|(go_split_ands;exact⟨zac (by assumption) hb1 lr,zaa hb1 (by assumption),zaa hb1 (by assumption),zaa hb1 (by assumption),zaa hb1 (by assumption),zaa hb1 (by assumption)⟩)) (first|(go_at_call 165;refine(ziG x.sta t _ h0 h1).mono ?_;rw[ho];rintro e w1 ⟨rfl,hb1⟩))
     rename_i hS;have HS:=hid (zac HB.out hS.1 lr);clear hS hb1 c0 c1 c2 z0 z1;go_wp2
     go_roundw
     case rel=>exact⟨k+1,by omega,by go_num,HA.out.step HE.out HT.out,HS.out⟩
     case measure=>simp[RowKit.intOf];omega
   ·obtain rfl:k=n:=by omega
    have HF:=hid (show okNt x=true from HO.out.trans (HA.out.done HL.out));go_wp2;go_ret;exact⟨zae HF.out.symm,HB.out⟩
 ·have HO:=hid (show okNt x=false by simp[okNt,e1,HL.out,h24]);go_enter func97,ntmps97
  go_wp2_with fail
  refine(za2 _ _ _ _).mono ?_;rintro e w1 ⟨rfl,rfl⟩;rw[e1];go_wp2;go_ret;exact⟨zae HO.out.symm,Below.refl _ _⟩
end
section
open Go.RowKit Go.Lib Go.Proofs.Tryz
theorem znc(l:List Int):∀u∈ints l,u.oneCell'=true:=by
 intro u hu;simp only[ints,List.mem_map] at hu;obtain⟨x,_,rfl⟩:=hu
 rfl
def rowV(v:Int)(n k:Nat):List Value:=ints (List.replicate k v++List.replicate (n-k) 0)
theorem znA{v:Int}{n k:Nat}(h:k<=n):(rowV v n k).length=n:=by simp[rowV,za4];omega
theorem zsz{v:Int}{n k j:Nat}(h:j<k)(hk:k<=n):(rowV v n k)[j]?=some (.int .i64 v):=zeK (by rw[List.getElem?_append_left (by simpa using h)];exact List.getElem?_replicate_of_lt h)
theorem zro(v:Int)(n:Nat):rowV v n n=ints (List.replicate n v):=by simp[rowV]
theorem zlP{v:Int}{n k:Nat}(h:k<=n){m:Nat}(hm:k+m<=n):splice (rowV v n k) k (ints (List.replicate m v))=rowV v n (k+m):=by
 have hc:∀(a b:List Int),ints (a++b)=ints a++ints b:=fun a b=>by simp[ints]
 have e1:(rowV v n k).take k=ints (List.replicate k v):=by
  rw[rowV,hc,List.take_append_of_le_length (by simp[za4]),List.take_of_length_le (by simp[za4])]
 have e2:(rowV v n k).drop (k+(ints (List.replicate m v)).length)=ints (List.replicate (n-(k+m)) 0):=by
  rw[rowV,hc,za4,List.length_replicate,List.drop_append,List.drop_of_length_le (by simp[za4]),List.nil_append,za4,List.length_replicate];rw[show k+m-k=m by omega];unfold ints;rw[<-List.map_drop,List.drop_replicate]
  congr 2
  omega
 unfold splice;rw[e1,e2,rowV,<-hc,<-hc,<-List.append_assoc,List.replicate_append_replicate]
theorem zoA (n b c:Nat) (v:Int) (w:World) (hn1:1 <= n) (hn:n <= 1000) (hc:w.cell? ⟨b,0,none⟩ = some (.int .i64 v)) :
  Calls prog 203 #[.slice (some ⟨b,0,none⟩) 1 c,.int .i64 n] w fun e w'=>e= .returned (.slice (some ⟨w.heap.size,0,none⟩) n n)/\Blk w' w.heap.size 2 (ints (List.replicate n v)).toArray/\Below w.heap.size w w':=by
 have hmul:=fun W=>Tryz.bits_Mul 1 n (by decide) (by omega) W;have hq1:((1*n/18446744073709551616:Nat):Int)=0:=by omega
 have hq2:((1*n%18446744073709551616:Nat):Int)=n:=by omega
 rw[hq1,hq2] at hmul;have HM:=hid hmul;have hmk:=hid (zfN n (by omega));clear hmul hq1 hq2;have hni:(n:Int)<=1000:=by omega
 have hn0:(1:Int)<=n:=by omega
 have hg0:decide ((n:Int)<0)=false:=decide_eq_false (by omega);go_enter func203,ntmps203
 go_wp2_with fail
 refine(HM.out w).mono ?_;rintro e wq ⟨rfl,hww⟩;rw[hww];clear hww;have hmk:=hmk.out w;have hy:=Blk.new w 2 (madeCells #[.int .i64 0] n);obtain⟨w1,hw1⟩:∃y,w.alloc (.cells (madeCells #[.int .i64 0] n) 2)=y:=⟨_,rfl⟩
 rw[hw1] at hmk hy;have b1:Below w.heap.size w w1:=by rw[<-hw1];exact bal _
 have hc1:=zaa b1 hc
 have HY1:=hid (show Blk w1 w.heap.size 2 (rowV v n 0).toArray by
  have e:madeCells #[.int .i64 0] n=(rowV v n 0).toArray:=by
   rw[zel];simp[rowV,zer]
  rw[<-e];exact hy)
 have HB1:=hid b1;clear hy hw1 b1 hc;have hrow0:rowV v n 0=ints (List.replicate n 0):=by simp[rowV]
 go_wp2_with fail
 have hrun:=zig (P:=prog) w1 29 29 3 2 1 w.heap.size 0 n n ⟨b,0,none⟩ 1 c (rowV v n 0).toArray 2 (ints (List.replicate 1 v)) underlying29 (by kernel_rfl) HY1.out (by rw[za4,List.length_replicate,Nat.mul_one];simp[Nat.min_def];omega) (fun j u hu=>by
  have hj:=(List.getElem?_eq_some_iff.1 hu).1;rw[za4,List.length_replicate] at hj;obtain rfl:j=0:=by omega
  simp[ints] at hu;subst hu;rw[zdE];exact hc1) (by rw[za4,List.length_replicate];simp[znA (Nat.zero_le n)];try omega) (znc _)
 rw[show Nat.min 1 n=1 by simp[Nat.min_def];omega] at hrun;rw[hrun];clear hrun;obtain⟨w2,hw2⟩:∃y,w1.setRow w.heap.size ((rowV v n 0).toArray.toList.take 0++ints (List.replicate 1 v)++(rowV v n 0).toArray.toList.drop (0+(ints (List.replicate 1 v)).length)).toArray=y:=⟨_,rfl⟩
 have HL2:=hid (show Laid w.heap.size 2 (rowV v n 1) w1 w2 by
  rw[<-hw2];have:=ziL HY1.out (splice (rowV v n 0) 0 (ints (List.replicate 1 v)));have e:=zlP (v:=v) (n:=n) (k:=0) (Nat.zero_le _) (m:=1) (by omega);rw[e] at this;rw[show rowV v n 1=rowV v n (0+1) from rfl,<-e] at this⊢;simpa[splice] using this)
 rw[hw2];clear hw2 hc1 hmk hrow0;have hng:decide ((9223372036854775807:Int)<n)=false:=decide_eq_false (by omega);go_wp2
 go_loopw [8] (fun q wr=>∃k:Nat,1<=k/\k<=n/\q= .int .i64 k/\Blk wr w.heap.size 2 (rowV v n k).toArray/\Below w.heap.size w wr) (fun q _=>n-(RowKit.intOf q).toNat)
 case atStart=>exact⟨1,Nat.le_refl _,hn1,rfl,HL2.out.blk,zbN HB1.out (HL2.out.only lr (Nat.lt_succ_self _)) lr lr⟩
 case round=>
  obtain⟨k,hk1,hkn,rfl,hy,hb⟩:=hrel;have HY:=hid hy;have HB:=hid hb;clear hy hb;by_cases hlt:k<n
  ·have hk0:(0:Int)<=k:=by omega
   have hkn':(k:Int)<n:=by omega
   have hkn2:(k:Int)<=n:=by omega
   have hne:¬(n=k):=by omega
   obtain⟨q,hq⟩:∃q,Nat.min k (n-k)=q:=⟨_,rfl⟩
   have HQ:=hid hq;have hq1:q<=k:=by rw[<-hq];exact Nat.min_le_left _ _
   have hq2:q<=n-k:=by rw[<-hq];exact Nat.min_le_right _ _
   have hq3:1<=q:=by rw[<-hq];exact Nat.le_min.2 ⟨hk1,by omega⟩
   have hkw:IntKind.i64.wrap ((k:Int)+(q:Int))=(k:Int)+(q:Int):=by
    unfold IntKind.wrap;simp[IntKind.bits,IntKind.signed];omega
   clear hq
   go_wp2_with fail
   refine wp_region_held_drew (S:=(fun _=>True)) (by kernel_rfl) ?_ (fun hHeld=>?_)
   ·trivial
   refine wpAnyH_take (i:=0) (v:=?_) rfl (by kernel_rfl) (by kernel_rfl) (by kernel_rfl) (fun _ _ _ h=>h) (Or.inl ⟨by kernel_rfl,?_⟩) (by assumption) ?_;rotate_left 1
   ·intro w hSw;(try dsimp only at hSw);go_simp;try with_reducible rfl
   try simp only[Act.put,ly]
   refine wpAnyH_take (i:=1) (v:=?_) rfl (by kernel_rfl) (by kernel_rfl) (by kernel_rfl) (fun _ _ _ h=>h) (Or.inl ⟨by kernel_rfl,?_⟩) (by assumption) ?_;rotate_left 1
   ·intro w hSw;(try dsimp only at hSw);go_simp;try with_reducible rfl
   try simp only[Act.put,ly]
   refine wpAnyH_take (i:=2) (v:=?_) rfl (by kernel_rfl) (by kernel_rfl) (by kernel_rfl) (fun _ _ _ h=>h) (Or.inl ⟨by kernel_rfl,?_⟩) (by assumption) ?_;rotate_left 1
   ·intro w hSw;(try dsimp only at hSw);go_simp;try with_reducible rfl
   try simp only[Act.put,ly]
   refine wpAnyH_take (i:=3) (v:=?_) rfl (by kernel_rfl) (by kernel_rfl) (by kernel_rfl) (fun _ _ _ h=>h) (Or.inl ⟨by kernel_rfl,?_⟩) (by assumption) ?_;rotate_left 1
   ·intro w hSw;(try dsimp only at hSw);go_simp;try with_reducible rfl
   try simp only[Act.put,ly]
   refine wpAnyH_take (i:=4) (v:=?_) rfl (by kernel_rfl) (by kernel_rfl) (by kernel_rfl) (fun _ _ _ h=>h) (Or.inl ⟨by kernel_rfl,?_⟩) (by assumption) ?_;rotate_left 1
   ·intro w hSw;(try dsimp only at hSw);go_simp;try with_reducible rfl
   try simp only[Act.put,ly]
   refine wpAnyH_take (i:=5) (v:=?_) rfl (by kernel_rfl) (by kernel_rfl) (by kernel_rfl) (fun _ _ _ h=>h) (Or.inl ⟨by kernel_rfl,?_⟩) (by assumption) ?_;rotate_left 1
   ·intro w hSw;(try dsimp only at hSw);go_simp;try with_reducible rfl
   try simp only[Act.put,ly]
   refine wpAnyH_take (i:=6) (v:=?_) rfl (by kernel_rfl) (by kernel_rfl) (by kernel_rfl) (fun _ _ _ h=>h) (Or.inl ⟨by kernel_rfl,?_⟩) (by assumption) ?_;rotate_left 1
   ·intro w hSw;(try dsimp only at hSw);go_simp;try with_reducible rfl
   try simp only[Act.put,ly]
   refine wpAnyH_ready (rs:=[7]) (by kernel_rfl) (by simp) ?_;refine AllReadyH.cons rfl (fun K hK=>?_) AllReadyH.nil;refine znT rfl _ _ 29 29 rfl 2 1 underlying29 (by kernel_rfl) w.heap.size k (n-k) (n-k) ⟨w.heap.size,0,none⟩ k n rfl rfl k rfl (rowV v n k) 2 HY.out.drew (ints (List.replicate q v)) (by rw[za4,List.length_replicate,Nat.mul_one];exact HQ.out.symm) (fun j u hu=>?_) (by rw[za4,List.length_replicate,znA hkn];omega) (znc _) ?_
   ·have hj:=(List.getElem?_eq_some_iff.1 hu).1;rw[za4,List.length_replicate] at hj;rw[zdE,Nat.zero_add];refine(HY.out.cell j).trans ?_;rw[List.getElem?_toArray,zsz (by omega) hkn];rw[zeK (List.getElem?_replicate_of_lt hj)] at hu;exact hu
   intro w3 hl2;rw[HQ.out];refine hK.out _ _ ?_ (fun hNew=>?_)
   ·trivial
   clear hK K hHeld;have hHeld:=hNew;clear hNew
   try simp only[Act.put,ly]
   refine wpAnyH_take (i:=8) (v:=?_) rfl (by kernel_rfl) (by kernel_rfl) (by kernel_rfl) (fun _ _ _ h=>h) (Or.inl ⟨by kernel_rfl,?_⟩) (by assumption) ?_;rotate_left 1
   ·intro w hSw;(try dsimp only at hSw);go_simp;try with_reducible rfl
   try simp only[Act.put,ly]
   refine wpAnyH_take (i:=9) (v:=?_) rfl (by kernel_rfl) (by kernel_rfl) (by kernel_rfl) (fun _ _ _ h=>h) (Or.inl ⟨by kernel_rfl,?_⟩) (by assumption) ?_;rotate_left 1
   ·intro w hSw;(try dsimp only at hSw);go_simp;try with_reducible rfl
   try simp only[Act.put,ly]
   refine dn ?_;have HL:=hid hl2;clear hl2 hHeld
   try rw[hkw]
   go_wp2
   go_roundw
   case rel=>
    refine⟨k+q,by omega,by omega,by go_num,?_,?_⟩
    ·have:=HL.out.blk;rwa[zlP (by omega) (by omega)] at this
    ·exact zbN HB.out (HL.out.drew.only lr (Nat.lt_succ_self _)) lr lr
   case measure=>simp[RowKit.intOf];omega
  ·obtain rfl:k=n:=by omega
   have HO:=hid (zro v k);go_wp2;go_ret;exact⟨rfl,by rw[<-HO.out];exact HY.out,HB.out⟩
end
section
open Go.RowKit Go.Proofs.Tryz
def zaK(l:List Int):Bool:=inR l.length 1 24&&l.all fun x=>inR x 1 1000
def zaN(times way:List Int):Bool:=inR way.length 1 12&&way.all fun x=>inR x 0 ((times.length:Int)-1)
def zby(times:List Int)(r:Rn):Bool:=zaN times r.way&&inR r.st 0 100000
def zap(times:List Int)(rs:List Rn):Bool:=zaK times&&(decide (rs.length<=12)&&rs.all (zby times))
theorem zdl(x:Int)(w:World):Calls prog 167 #[.int .i64 x] w fun e w'=>e= .returned (.bool (inR x 0 100000))/\w=w':=by
 go_enter func167,ntmps167
 go_wp2_with (go_at_call 164;refine(za2 _ _ _ _).mono ?_;rintro e w' ⟨rfl,rfl⟩)
 go_ret;exact⟨rfl,rfl⟩
theorem zhL (A:Option Addr) (n c B:Nat) (l:List Int) (w:World) (h:zad w B 1 A n (ints l)) (hn:n <= 1048576) :
  Calls prog 168 #[.slice A n c] w fun e w'=>e= .returned (.bool (zaK l))/\w=w':=by
 have HL:=hid (zai h);go_enter func168,ntmps168;go_wp2
 go_loop [3] (fun i=>∃k:Nat,k<=n/\i= .int .i64 k/\za0 (fun x=>inR x 1 1000) l k) (fun i=>n-(RowKit.intOf i).toNat)
 case atStart=>exact⟨0,Nat.zero_le _,rfl,za0.zero _ _⟩
 case round=>
  obtain⟨k,hk,rfl,hall⟩:=hrel;have HA:=hid hall;clear hall;by_cases hlt:k<n
  ·obtain⟨x,b,off,he,rfl,hb,c0⟩:=zax h hlt;have HE:=hid he;clear he h
   go_wp2_with fail
   refine(za2 _ _ _ _).mono ?_;rintro e w1 ⟨rfl,rfl⟩;rcases ho:inR x 1 (1000) with _|_
   ·have HF:=hid (show(zaK l)=false by simp only[zaK,zaN,zcd (p:=fun x=>inR x 1 1000) HE.out ho,Bool.and_false]);go_wp2;go_ret;exact⟨zae HF.out.symm,rfl⟩
   ·have HT:=hid ho;go_wp2
    go_round
    case rel=>exact⟨k+1,by omega,by go_num,HA.out.step (p:=fun x=>inR x 1 1000) HE.out HT.out⟩
    case measure=>simp[RowKit.intOf];omega
  ·obtain rfl:k=n:=by omega
   have HF:=hid (show(zaK l)=inR k 1 24 by simp only[zaK,zaN,HL.out,HA.out.done HL.out,Bool.and_true])
   go_wp2_with fail
   refine(za2 _ _ _ _).mono ?_;rintro e w1 ⟨rfl,rfl⟩;rw[<-HF.out];go_wp2;go_ret;exact⟨rfl,rfl⟩
theorem zkd (P:Option Addr) (m d:Nat) (ts:List Int) (hm:m <= 1048576) (hts:ts.length = m) (A:Option Addr) (n c B:Nat) (l:List Int) (w:World) (h:zad w B 1 A n (ints l)) (hn:n <= 1048576) :
  Calls prog 166 #[.slice P m d,.slice A n c] w fun e w'=>e= .returned (.bool (zaN ts l))/\w=w':=by
 subst hts;have HL:=hid (zai h);go_enter func166,ntmps166;go_wp2
 go_loop [5] (fun i=>∃k:Nat,k<=n/\i= .int .i64 k/\za0 (fun x=>inR x 0 ((ts.length:Int)-1)) l k) (fun i=>n-(RowKit.intOf i).toNat)
 case atStart=>exact⟨0,Nat.zero_le _,rfl,za0.zero _ _⟩
 case round=>
  obtain⟨k,hk,rfl,hall⟩:=hrel;have HA:=hid hall;clear hall;by_cases hlt:k<n
  ·obtain⟨x,b,off,he,rfl,hb,c0⟩:=zax h hlt;have HE:=hid he;clear he h
   go_wp2_with fail
   refine(za2 _ _ _ _).mono ?_;rintro e w1 ⟨rfl,rfl⟩;rcases ho:inR x 0 ((ts.length:Int)-1) with _|_
   ·have HF:=hid (show(zaN ts l)=false by simp only[zaK,zaN,zcd (p:=fun x=>inR x 0 ((ts.length:Int)-1)) HE.out ho,Bool.and_false]);go_wp2;go_ret;exact⟨zae HF.out.symm,rfl⟩
   ·have HT:=hid ho;go_wp2
    go_round
    case rel=>exact⟨k+1,by omega,by go_num,HA.out.step (p:=fun x=>inR x 0 ((ts.length:Int)-1)) HE.out HT.out⟩
    case measure=>simp[RowKit.intOf];omega
  ·obtain rfl:k=n:=by omega
   have HF:=hid (show(zaN ts l)=inR k 1 12 by simp only[zaK,zaN,HL.out,HA.out.done HL.out,Bool.and_true])
   go_wp2_with fail
   refine(za2 _ _ _ _).mono ?_;rintro e w1 ⟨rfl,rfl⟩;rw[<-HF.out];go_wp2;go_ret;exact⟨rfl,rfl⟩
end
end Go.Proofs.YtjalgpioklcbfaaGreatDoor
