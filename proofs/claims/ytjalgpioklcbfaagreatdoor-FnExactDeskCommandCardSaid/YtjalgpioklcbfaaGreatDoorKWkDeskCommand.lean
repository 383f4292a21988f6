/- FnExactDeskCommand: for all arguments the program's DeskCommand returns what the reference's returns; what it returned stays, and the copy is its own. -/
import Derived.Test.YtjalgpioklcbfaaGreatDoorMgDesksAC
set_option maxHeartbeats 4000000
set_option maxRecDepth 100000
set_option linter.unusedVariables false
set_option linter.unusedSimpArgs false
namespace Go.Proofs.YtjalgpioklcbfaaGreatDoor.lawDeskCommand
open Go.RowKit Go.Proofs.YtjalgpioklcbfaaGreatDoor Go.Proofs.Tryz
theorem walk (h0:DkH) (d0:Dk) (s:ByteArray) (w:World) (hr0:DkR w w.heap.size h0 d0) (ok0:h0.ok) (lg0:d0.log.size <= 9223372036854775807) (hz:s.size <= 9223372036854775807) (m:Int) (hm:w.cell? ⟨1,0,none⟩ = some (.int .i64 m)) (ht:TabP w) (hv:SynP w) (hcn:CnP w) :
  Calls prog 5 #[.agg #[.int .i64 d0.net.sta,.slice h0.A1 h0.n1 h0.c1,.slice h0.A2 h0.n2 h0.c2,.slice h0.A3 h0.n3 h0.c3,.string d0.log],.string s] w fun e w'=>e= .returned (.bool true)/\Below w.heap.size w w':=by
 by_cases h1:1048576<s.size
 ·have h1i:(1048576:Int)<(s.size:Int):=by omega
  clear hr0 hm ht hv hcn;go_enter func5,ntmps5;go_wp2;go_ret;exact⟨rfl,bal _⟩
 have h1i:¬((1048576:Int)<(s.size:Int)):=by omega
 have hs:s.size<=1048576:=by omega
 have HLOW:=hid (zr8 ht);have HS9:=hid (fun(w:World) (lo hi:Nat) (h:DkH) (rh:List RnH) (o:OwnD w lo hi h (cmdF d0 s).dk rh)=>zua hs o);have HN9:=hid (ztZ (d:=d0) hs);have HSPEC:=hid (fun(h:DkH) (B:Nat) (w:World) (hr:DkR w B h d0) (hd:DkS h d0) (hB:B<=w.heap.size)=>zhu h d0 s B w hr hd hB hs);have HIMPL:=hid (fun(h:DkH) (m:Int) (B:Nat) (w:World) (hr:DkR w B h d0) (hd:DkS h d0) (hB:B<=w.heap.size) (p1:zd6 h.A1) (p2:zd6 h.A2) (hm:w.cell? ⟨1,0,none⟩=some (.int .i64 m)) (ht:TabP w) (hv:SynP w) (hc:CnP w) (hlow:4<w.heap.size)=>zgd (line:=s) hr hd hB p1 p2 hs hm ht hv hc hlow);obtain⟨cm,hcm⟩:∃z,cmdF d0 s=z:=⟨_,rfl⟩
 rw[hcm] at HS9 HN9 HSPEC HIMPL;clear hcm;obtain⟨W,hW,k0,hb⟩:∃W,W=w.alloc (.cells #[.int .i64 d0.net.sta,.slice h0.A1 h0.n1 h0.c1,.slice h0.A2 h0.n2 h0.c2,.slice h0.A3 h0.n3 h0.c3,.string d0.log] 46)/\Blk W w.heap.size 46 #[.int .i64 d0.net.sta,.slice h0.A1 h0.n1 h0.c1,.slice h0.A2 h0.n2 h0.c2,.slice h0.A3 h0.n3 h0.c3,.string d0.log]/\Below w.heap.size w W:=⟨_,rfl,Blk.new _ _ _,bal _⟩
 have HW:=hid hW;have y0:=k0;have H0:=hid hb;have R0:=hid hr0;have HM:=hid hm;have HT:=hid ht;have HV:=hid hv;have HC:=hid hcn;clear hW k0 hb hr0 hm ht hv hcn;go_enter func5,ntmps5
 go_wp2_with fail
 rw[<-HW.out];refine(zqk h0 d0 _ w.heap.size _ (R0.out.on lr H0.out) ok0 H0.out.size (by omega) (by omega) lg0).mono ?_;rintro e w1 ⟨r1,rfl,b1,hr1⟩;replace y0:=y0.on b1;have H1:=hid (zac H0.out b1 lr);clear b1;rcases hr1 with hr1|⟨p1,q1,S1⟩
 ·go_wp2;go_ret;exact⟨rfl,H1.out⟩
 have G1:=hid S1;clear S1;obtain⟨m0,m1,m2,m3,m4⟩:=zaq y0
 go_wp2_with fail
 refine(zk8 h0 d0 w.heap.size _ (R0.out.on lr H1.out) G1.out H1.out.size).mono ?_;rintro e w2 ⟨g2,rfl,r2,s2,b2⟩;have C2:=hid r2;have T2:=hid s2;have H2:=hid (zac H1.out b2 lr);have Y2:=hid (y0.on b2);clear m0 m1 m2 m3 m4;clear b2 r2 s2 y0
 go_wp2_with fail
 refine(HSPEC.out g2 w2.heap.size w2 C2.out T2.out lr).mono ?_;rintro e w3 ⟨h3,SA,sn,sc,rfl,r3,l3,b3⟩;have R3:=hid r3;have L3:=hid l3;have H3:=hid (zac H2.out b3 lr);have Y3:=hid (Y2.out.on b3);have ZB:=hid (show w.heap.size<w3.heap.size from(Y2.out.on b3).lt);clear b3 r3 l3;simp only[dkv]
 go_upto_region 8 with fail
 obtain⟨v3,hv3⟩:∃y,w3.alloc (.cells #[.int .i64 cm.dk.net.sta,.slice h3.A1 h3.n1 h3.c1,.slice h3.A2 h3.n2 h3.c2,.slice h3.A3 h3.n3 h3.c3,.string cm.dk.log] 32)=y:=⟨_,rfl⟩
 have k3:Below w3.heap.size w3 v3:=by rw[<-hv3];exact bal _
 have q3:Blk v3 w3.heap.size 32 #[.int .i64 cm.dk.net.sta,.slice h3.A1 h3.n1 h3.c1,.slice h3.A2 h3.n2 h3.c2,.slice h3.A3 h3.n3 h3.c3,.string cm.dk.log]:=by rw[<-hv3];exact Blk.new _ _ _
 rw[hv3];clear hv3;have H4:=hid (zac H3.out k3 lr);have R4:=hid (R3.out.below9 k3);have L4:=hid (L3.out.below k3);have Y4:=hid (Y3.out.on k3);have Q4:=hid q3;have Z4:=hid (show w3.heap.size<v3.heap.size from q3.lt);clear k3 q3;obtain⟨m0,m1,m2,m3,m4⟩:=zaq Y4.out
 go_wp2_with fail
 refine(zk9 h0 d0 w.heap.size _ (R0.out.on lr H4.out) G1.out H4.out.size).mono ?_;rintro e u4 ⟨g4,rh4,rfl,o4,s4,b4⟩;have B4:=hid b4;have O4:=hid o4;have S4:=hid s4;clear m0 m1 m2 m3 m4;clear b4 o4 s4
 go_upto_region 9 with fail
 obtain⟨v4,hv4⟩:∃y,u4.alloc (.cells #[.int .i64 d0.net.sta,.slice g4.A1 g4.n1 g4.c1,.slice g4.A2 g4.n2 g4.c2,.slice g4.A3 g4.n3 g4.c3,.string d0.log] 32)=y:=⟨_,rfl⟩
 have k4:Below u4.heap.size u4 v4:=by rw[<-hv4];exact bal _
 have q4:Blk v4 u4.heap.size 32 #[.int .i64 d0.net.sta,.slice g4.A1 g4.n1 g4.c1,.slice g4.A2 g4.n2 g4.c2,.slice g4.A3 g4.n3 g4.c3,.string d0.log]:=by rw[<-hv4];exact Blk.new _ _ _
 rw[hv4];clear hv4;have B34:=hid (zac B4.out k4 lr);have H5:=hid (zac H4.out B34.out lr);have R5:=hid (R4.out.below9 (B34.out.mono (Nat.le_of_lt Z4.out)));have L5:=hid (L4.out.below (B34.out.mono (Nat.le_of_lt Z4.out)));have Y5:=hid (Y4.out.on B34.out);have Q5:=hid (Q4.out.on B34.out);have O5:=hid (O4.out.on k4);have X5:=hid q4;have Z5:=hid (show u4.heap.size<v4.heap.size from q4.lt);have Z5a:=hid B4.out.size;clear k4 q4;obtain⟨n0,n1,n2,n3,n4⟩:=zaq X5.out
 go_wp2_with fail
 refine(HIMPL.out g4 m u4.heap.size v4 (O5.out.reads lr) S4.out (Nat.le_of_lt Z5.out) O5.out.tubes.plainA O5.out.times.plainA (zaa H5.out HM.out) (zaw HT.out H5.out) (zbk HV.out H5.out) (HC.out.on H5.out) (Nat.lt_of_lt_of_le HLOW.out H5.out.size)).mono ?_;rintro e w5 ⟨h6,rh6,LA,ln,lc,rfl,co⟩;have CO:=hid co;clear n0 n1 n2 n3 n4;clear co;simp only[dkv]
 go_upto_region 10 with fail
 obtain⟨v5,hv5⟩:∃y,w5.alloc (.cells #[.int .i64 cm.dk.net.sta,.slice h6.A1 h6.n1 h6.c1,.slice h6.A2 h6.n2 h6.c2,.slice h6.A3 h6.n3 h6.c3,.string cm.dk.log] 32)=y:=⟨_,rfl⟩
 have k5:Below w5.heap.size w5 v5:=by rw[<-hv5];exact bal _
 have q5:Blk v5 w5.heap.size 32 #[.int .i64 cm.dk.net.sta,.slice h6.A1 h6.n1 h6.c1,.slice h6.A2 h6.n2 h6.c2,.slice h6.A3 h6.n3 h6.c3,.string cm.dk.log]:=by rw[<-hv5];exact Blk.new _ _ _
 rw[hv5];clear hv5;have B5:=hid (zac CO.out.bel k5 lr);have H7:=hid (zac H5.out B5.out lr);have ZV:=hid (show v4.heap.size<=w5.heap.size from CO.out.bel.size);have ZP:=hid (show w5.heap.size<v5.heap.size from q5.lt);have Z34:=hid (show v3.heap.size<=v4.heap.size from B34.out.size)
 have K7:=hid (show CS v5 w.heap.size w3.heap.size v4.heap.size w5.heap.size h0 d0 h3 SA sn cm.dk cm.lines h6 rh6 cm.dk LA ln lc cm.lines from
  ⟨Y5.out.on B5.out,R5.out.on (by have:=Z4.out;have:=Z34.out;omega) B5.out,L5.out.on (by have:=Z4.out;have:=Z34.out;omega) B5.out,Q5.out.on B5.out,CO.out.own.on k5,CO.out.row.on k5,CO.out.lne,q5,ZB.out,by have:=Z4.out;have:=Z34.out;omega,ZV.out⟩)
 have O7:=hid (O5.out.on B5.out);have X7:=hid (X5.out.on B5.out);have DS:=hid (HS9.out _ _ _ _ _ K7.out.own)
 have hln:ln<=1048576:=by
  have h1:=K7.out.row.len;have h2:=HN9.out;rw[za6] at h1;omega
 obtain rfl:sn=ln:=K7.out.eqn;clear k5 q5;obtain⟨c0,c1,c2,c3,c4⟩:=zaq K7.out.p;obtain⟨a0,a1,a2,a3,a4⟩:=zaq K7.out.q
 go_wp2_with fail
 refine(zeT h6 h3 cm.dk v5.heap.size v5 ((K7.out.own.low).reads lr) (K7.out.dk.more (Nat.le_of_lt K7.out.q.lt)) DS.out lr).mono ?_;rintro e w6 ⟨rfl,bw6⟩;have K7a:=hid (K7.out.on bw6);have H7a:=hid (zac H7.out bw6 lr);have O7a:=hid (O7.out.on bw6);have X7a:=hid (X7.out.on bw6);clear bw6;clear c0 c1 c2 c3 c4 a0 a1 a2 a3 a4
 go_wp2_with fail
 refine(zeG LA SA sn lc sc w6.heap.size cm.lines w6 ((K7a.out.row.low).reads lr) (K7a.out.rd.more (Nat.le_of_lt K7a.out.q.lt)) hln lr).mono ?_;rintro e w7 ⟨rfl,bw7⟩;have K8:=hid (K7a.out.on bw7);have H8:=hid (zac H7a.out bw7 lr);have O8:=hid (O7a.out.on bw7);have X8:=hid (X7a.out.on bw7);clear bw7;obtain⟨n0,n1,n2,n3,n4⟩:=zaq X8.out;obtain⟨m0,m1,m2,m3,m4⟩:=zaq K8.out.box
 go_upto_region 12 with fail
 refine ez (fun V=>Below w7.heap.size w7 V) ?_ fun hHeld=>?_
 ·exact(Below.refl _ _).drew
 refine dq 0 rfl (hy:=by intro w hSw;(try dsimp only at hSw);(try have y0:=zaa hSw n0);(try have y1:=zaa hSw n1);(try have y2:=zaa hSw n2);(try have y3:=zaa hSw n3);(try have y4:=zaa hSw n4);(try have z0:=zaa hSw m0);(try have z1:=zaa hSw m1);(try have z2:=zaa hSw m2);(try have z3:=zaa hSw m3);(try have z4:=zaa hSw m4);go_simp;try with_reducible rfl) (h:=dq 1 rfl (hy:=by intro w hSw;(try dsimp only at hSw);(try have y0:=zaa hSw n0);(try have y1:=zaa hSw n1);(try have y2:=zaa hSw n2);(try have y3:=zaa hSw n3);(try have y4:=zaa hSw n4);(try have z0:=zaa hSw m0);(try have z1:=zaa hSw m1);(try have z2:=zaa hSw m2);(try have z3:=zaa hSw m3);(try have z4:=zaa hSw m4);go_simp;try with_reducible rfl) (h:=?_))
 refine rd 2 rfl fun K hK=>?_;go_simp;refine(zk8 h0 d0 w.heap.size _ (R0.out.on lr (zac H8.out hHeld lr)) G1.out (zac H8.out hHeld lr).size).mono ?_;rintro e w8 ⟨g8,rfl,r8,s8,b8⟩;have B8:=hid (zac hHeld b8 lr);have R8:=hid r8;clear b8 r8 s8
 go_wp2_with fail
 refine ke hK ?_ ?_
 ·exact B8.out
 clear hK K hHeld;intro hHeld;refine rd 3 rfl fun K hK=>?_;go_simp;refine(zeT g4 g8 d0 w8.heap.size w8 (((O8.out.on B8.out).low).reads lr) R8.out S4.out lr).mono ?_;rintro e w9 ⟨rfl,b9⟩;have B9:=hid (zac B8.out b9 lr);clear b9
 go_wp2_with fail
 refine ke hK ?_ ?_
 ·exact B9.out
 clear hK K hHeld;intro hHeld;refine dq 4 rfl (h:=?_);refine dn ?_;have K9:=hid (K8.out.on B9.out);have H9:=hid (zac H8.out B9.out lr);have O9:=hid (O8.out.on B9.out);have X9:=hid (X8.out.on B9.out);clear n0 n1 n2 n3 n4 m0 m1 m2 m3 m4;obtain⟨n0,n1,n2,n3,n4⟩:=zaq X9.out
 go_wp2_with fail
 obtain⟨hk1,hk2⟩:=zqR O9.out.sizes.1 O9.out.sizes.2.1 O9.out.sizes.2.2 S4.out;refine(zpS g4 d0 rh4 _ _ 1 w9 O9.out S4.out (by decide) (by decide)).mono ?_;rintro e w10 ⟨rfl,r10,f10⟩;obtain⟨ka,hka⟩:∃q,k3D 1 d0=q:=⟨_,rfl⟩
 rw[hka] at hk1⊢;have K10:=hid (K9.out.off f10 fun b hb=>by have:=O9.out.inD_lt hb;have:=Z4.out;have:=Z5.out;omega);have H10:=hid (H9.out.trans (f10.below (B:=w.heap.size) (fun b hb=>by have:=(O9.out.inD_lt hb).1;have:=Z4.out;have:=ZB.out;omega) H9.out.size));have hka0:¬(ka<0):=by omega
 clear n0 n1 n2 n3 n4;clear r10 f10 hka hk2;obtain⟨c0,c1,c2,c3,c4⟩:=zaq K10.out.p;obtain⟨a0,a1,a2,a3,a4⟩:=zaq K10.out.q
 go_wp2_with fail
 refine(zeT h6 h3 cm.dk w10.heap.size w10 ((K10.out.own.low).reads lr) (K10.out.dk.more (Nat.le_of_lt K10.out.q.lt)) DS.out lr).mono ?_;rintro e w11 ⟨rfl,bw11⟩;have K10a:=hid (K10.out.on bw11);have H10a:=hid (zac H10.out bw11 lr);clear bw11;clear c0 c1 c2 c3 c4 a0 a1 a2 a3 a4
 go_wp2_with fail
 refine(zeG LA SA sn lc sc w11.heap.size cm.lines w11 ((K10a.out.row.low).reads lr) (K10a.out.rd.more (Nat.le_of_lt K10a.out.q.lt)) hln lr).mono ?_;rintro e w12 ⟨rfl,bw12⟩;have K12:=hid (K10a.out.on bw12);have H12:=hid (zac H10a.out bw12 lr);clear bw12;obtain⟨c0,c1,c2,c3,c4⟩:=zaq K12.out.p
 go_wp2_with fail
 obtain⟨hk3,hk4⟩:=zqR K12.out.own.sizes.1 K12.out.own.sizes.2.1 K12.out.own.sizes.2.2 DS.out;refine(znu h6 cm.dk rh6 _ _ 1 w12 K12.out.own DS.out (by decide) (by decide)).mono ?_;rintro e w13 ⟨rfl,rh7,o13,m13,f13⟩;have K13:=hid (K12.out.desk f13 o13 m13);have H13:=hid (H12.out.trans (f13.below (B:=w.heap.size) (fun b hb=>by have:=(K12.out.own.inD_lt hb).1;have:=K12.out.o1;have:=K12.out.o2;omega) H12.out.size));obtain⟨kb,hkb⟩:∃q,k3D 1 cm.dk=q:=⟨_,rfl⟩
 have KB:=hid hkb;rw[hkb] at hk3 hk4⊢;obtain⟨kn,hkn⟩:∃q:Nat,kb=q:=⟨kb.toNat,by omega⟩
 subst hkn;have hk9:kn<=99000000000000:=by omega
 have hkn0:¬((kn:Int)<0):=by omega
 clear c0 c1 c2 c3 c4;clear f13 o13 m13 hkb hk3 hk4;have hsz13:w5.heap.size<=w13.heap.size:=Nat.le_of_lt K13.out.p.lt;obtain⟨g,hg1,hg2,hg3⟩:=K13.out.row.alone9 hsz13;have G2:=hid hg2;have G3:=hid hg3;clear hg2 hg3
 go_wp2_with fail
 refine(zmz LA sn lc g (g+1) (strs cm.lines) w13 G2.out hln kn hk9).mono ?_;rintro e w14 ⟨rfl,s14,f14⟩;have K14:=hid (K13.out.lines f14 hg1 G3.out s14 hsz13);have H14:=hid (zbN H13.out f14 (by have:=K13.out.o1;have:=K13.out.o2;omega) lr);clear s14 f14;obtain⟨c0,c1,c2,c3,c4⟩:=zaq K14.out.p
 go_wp2_with fail
 refine(zjL h6 cm.dk w14.heap.size 1 w14 (K14.out.own.low.reads lr) lr DS.out (by decide) (by decide)).mono ?_;rintro e w15 ⟨rfl,b15⟩;rw[KB.out];have K15:=hid (K14.out.on b15);have H15:=hid (zac H14.out b15 lr);clear c0 c1 c2 c3 c4;clear b15
 go_wp2_with fail
 refine(zho LA sn lc w15.heap.size kn w15 (K15.out.row.low.reads lr) hln hk9 lr).mono ?_;rintro e w16 ⟨rfl,b16⟩;have K16:=hid (K15.out.on b16);have H16:=hid (zac H15.out b16 lr);clear b16;have hsum0:¬((kn:Int)+(sn:Int)<0):=by omega
 obtain⟨m0,m1,m2,m3,m4⟩:=zaq K16.out.box
 go_wp2_with fail
 refine(zk9 h0 d0 w.heap.size _ (R0.out.on lr H16.out) G1.out H16.out.size).mono ?_;rintro e w17 ⟨g7,rh8,rfl,o17,s17,b17⟩;have K17:=hid (K16.out.on b17);have H17:=hid (zac H16.out b17 lr);have O17:=hid o17;have S17:=hid s17;clear m0 m1 m2 m3 m4;clear b17 o17 s17
 go_wp2_with fail
 refine(HIMPL.out g7 m w17.heap.size w17 (O17.out.reads lr) S17.out lr O17.out.tubes.plainA O17.out.times.plainA (zaa H17.out HM.out) (zaw HT.out H17.out) (zbk HV.out H17.out) (HC.out.on H17.out) (Nat.lt_of_lt_of_le HLOW.out H17.out.size)).mono ?_;rintro e w18 ⟨h8,rh9,LB,lm,le,rfl,co⟩;have CQ:=hid co;have K18:=hid (K17.out.on co.bel);have H18:=hid (zac H17.out co.bel lr)
 have hlm:sn=lm:=by
  have h1:=co.row.len;have h2:=K18.out.rd.1;rw[za6] at h1 h2;omega
 obtain rfl:sn=lm:=hlm;clear co;simp only[dkv]
 go_upto_region 31 with fail
 obtain⟨v18,hv18⟩:∃y,w18.alloc (.cells #[.int .i64 cm.dk.net.sta,.slice h8.A1 h8.n1 h8.c1,.slice h8.A2 h8.n2 h8.c2,.slice h8.A3 h8.n3 h8.c3,.string cm.dk.log] 32)=y:=⟨_,rfl⟩
 have k18:Below w18.heap.size w18 v18:=by rw[<-hv18];exact bal _
 have q18:Blk v18 w18.heap.size 32 #[.int .i64 cm.dk.net.sta,.slice h8.A1 h8.n1 h8.c1,.slice h8.A2 h8.n2 h8.c2,.slice h8.A3 h8.n3 h8.c3,.string cm.dk.log]:=by rw[<-hv18];exact Blk.new _ _ _
 rw[hv18];clear hv18;have K19:=hid (K18.out.on k18);have H19:=hid (zac H18.out k18 lr);have P19:=hid q18;have D19:=hid (CQ.out.own.on k18);have E19:=hid (CQ.out.row.on k18);have DT:=hid (HS9.out _ _ _ _ _ D19.out);clear k18 q18;obtain⟨c0,c1,c2,c3,c4⟩:=zaq P19.out;obtain⟨a0,a1,a2,a3,a4⟩:=zaq K19.out.q
 go_wp2_with fail
 refine(zeT h8 h3 cm.dk v18.heap.size v18 ((D19.out.low).reads lr) (K19.out.dk.more (Nat.le_of_lt K19.out.q.lt)) DT.out lr).mono ?_;rintro e w20 ⟨rfl,bw20⟩;have K19a:=hid (K19.out.on bw20);have H19a:=hid (zac H19.out bw20 lr);have E19a:=hid (E19.out.on bw20);clear bw20;clear c0 c1 c2 c3 c4 a0 a1 a2 a3 a4
 go_wp2_with fail
 refine(zeG LB SA sn le sc w20.heap.size cm.lines w20 ((E19a.out.low).reads lr) (K19a.out.rd.more (Nat.le_of_lt K19a.out.q.lt)) hln lr).mono ?_;rintro e w21 ⟨rfl,bw21⟩;have K21:=hid (K19a.out.on bw21);have H21:=hid (zac H19a.out bw21 lr);clear bw21;obtain⟨c0,c1,c2,c3,c4⟩:=zaq K21.out.p
 go_wp2_with fail
 refine(zjL h6 cm.dk w21.heap.size 1 w21 (K21.out.own.low.reads lr) lr DS.out (by decide) (by decide)).mono ?_;rintro e w22 ⟨rfl,b22⟩;rw[KB.out];have K22:=hid (K21.out.on b22);have H22:=hid (zac H21.out b22 lr);clear c0 c1 c2 c3 c4;clear b22
 go_wp2_with fail
 refine(zho LA sn lc w22.heap.size kn w22 (K22.out.row.low.reads lr) hln hk9 lr).mono ?_;rintro e w23 ⟨rfl,b23⟩;have H23:=hid (zac H22.out b23 lr);clear b23;go_wp2;go_ret;exact⟨rfl,H23.out⟩
end Go.Proofs.YtjalgpioklcbfaaGreatDoor.lawDeskCommand
