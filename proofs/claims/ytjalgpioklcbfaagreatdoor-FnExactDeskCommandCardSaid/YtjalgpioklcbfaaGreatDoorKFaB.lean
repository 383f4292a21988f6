/- Whether a tube is free, as the program answers. -/
import Derived.Test.YtjalgpioklcbfaaGreatDoorMgDesksAN
set_option maxHeartbeats 4000000
set_option maxRecDepth 100000
set_option linter.unusedVariables false
set_option linter.unusedSimpArgs false
namespace Go.Proofs.YtjalgpioklcbfaaGreatDoor
open Go.RowKit Go.Lib Go.Proofs.Tryz
theorem zfH{α:Type}{p:α->Bool}{l:List α}{j:Nat}{x:α}(h:l[j]?=some x):(l.take (j+1)).filter p=(l.take j).filter p++(if p x then [x] else []):=by
 rw[List.take_add_one,h,Option.toList_some,List.filter_append]
 congr 1
 rcases e:p x with _|_<;>simp[e]
theorem zoD (Q:Option Addr) (m d:Nat) (ts:List Int) (RA:Option Addr) (rn rc:Nat) (rs:List Rn) (B:Nat) (tube:Int) (w:World) (ht:zad w B 1 Q m (ints ts)) (hr:zaC w B RA rn rs) (hB:B <= w.heap.size) (hok:zap ts rs = true) :
  Calls prog 152 #[.slice Q m d,.slice RA rn rc,.int .i64 tube] w fun e w'=>∃A' q d' l',e= .returned (.slice A' q d')/\zad w' w'.heap.size 3 A' q (sps l')/\q<=1048576/\(∀x,x∈l'↔x∈zef ts rs tube)/\Below w.heap.size w w':=by
 have HOK:=hid hok;have HRT:=hid ht;have HRR:=hid hr;have HRL:=hid hr.len;have hr12:rn<=12:=by rw[<-hr.len];exact zbB hok
 have HS0:=hid ((Acc.made w 196 3).sl (lo:=w.heap.size) lr lr);have HB0:=hid ((Below.refl w.heap.size w).alloc lr (.cells #[] 196));obtain⟨p,hp⟩:∃p:Sp->Bool,p=fun s=>s.tube==tube:=⟨_,rfl⟩
 have HP:=hid (show∀s:Sp,p s=(s.tube==tube) by intro s;rw[hp]);have HIN:=hid (show zef ts rs tube=(zaE ts rs).filter p by rw[hp];rfl);clear ht hr hok hp;go_enter func152,ntmps152
 go_wp2_with fail
 go_loopw [7,15] (fun o i wr=>∃(k:Nat) (A':Option Addr) (q d':Nat),k<=rn/\i= .int .i64 (k:Int)/\o= .slice A' q d'/\(∃g,A'=some ⟨g,0,none⟩/\w.heap.size<=g/\g<wr.heap.size)/\q<=12*k/\Sl wr w.heap.size wr.heap.size 196 3 A' q d' (sps ((zaE ts (rs.take k)).filter p))/\Below w.heap.size w wr) (fun _ i _=>rn-(RowKit.intOf i).toNat)
 case atStart=>exact⟨0,_,_,_,Nat.zero_le _,rfl,rfl,⟨_,rfl,Nat.le_refl _,by simp⟩,by omega,HS0.out,HB0.out⟩
 case round=>
  obtain⟨k,A',q,d',hk,rfl,rfl,hg,hq,hsl,hbel⟩:=hrel;have HA:=hid hsl;have HG:=hid hg;have HBr:=hid hbel;clear hsl hbel hg;have hk0:(0:Int)<=k:=by omega
  by_cases hlt:k<rn
  ·obtain⟨r,b,off,A2,m2,c2,he,rfl,hb,c0,c1,hrr,hm2⟩:=zcn (HRR.out.on hB HBr.out) hlt;obtain⟨hwo,hs0,hs1⟩:=zbG HOK.out he;have hwl:=zaJ hwo;have HWO:=hid hwo;have HSN:=hid (zhg (ts:=ts) he);have hkn:(k:Int)<rn:=by omega
   obtain⟨st,hst⟩:∃z,r.st=z:=⟨_,rfl⟩
   have HST:=hid hst;rw[hst] at c1 hs0 hs1;have HRW:=hid hrr;have hml:=zai hrr;have hwl1:=hwl.1;have hwl2:=hwl.2.1;clear he hst hwo hrr hwl
   go_upto_region 5 with fail
   obtain⟨u,hu⟩:∃y,wr.alloc (.cells #[.slice A2 m2 c2,.int .i64 st] 123)=y:=⟨_,rfl⟩
   have yu:Blk u wr.heap.size 123 #[.slice A2 m2 c2,.int .i64 st]:=by rw[<-hu];exact Blk.new _ _ _
   have bu:Below wr.heap.size wr u:=by rw[<-hu];exact bal _
   rw[hu];have p0:=yu.cellAt 0 (by simp);have p1:=yu.cellAt 1 (by simp);simp only[ly] at p0 p1;have HAu:=hid (HA.out.on bu);have HGu:=hid (show∃g,A'=some ⟨g,0,none⟩/\w.heap.size<=g/\g<u.heap.size by obtain⟨g,h1,h2,h3⟩:=HG.out;exact⟨g,h1,h2,Nat.lt_of_lt_of_le h3 bu.size⟩);have HBu:=hid (zac HBr.out bu lr);have HRu:=hid (HRW.out.on (Nat.le_trans hB HBr.out.size) bu);clear hu yu bu c0 c1
   go_wp2_with fail
   refine(zgz Q m d ts A2 m2 c2 B r.way st u (HRT.out.on hB HBu.out) HRu.out (Nat.le_trans hB HBu.out.size) (zaV HOK.out) HWO.out hs0 (by omega)).mono ?_;rintro e w5 ⟨A5,q5,d5,rfl,s5,b5⟩;have hq5:q5=r.way.length:=by have:=s5.len;rw[zch,zb7] at this;omega
   obtain⟨g5,rfl,hg5,hg6,_⟩:=s5.lt (by omega);have R5:=hid (s5.reads lr);have HA5:=hid ((HAu.out.on b5).low);have HB5:=hid (zac HBu.out b5 lr);have HG5:=hid (show∃g,A'=some ⟨g,0,none⟩/\w.heap.size<=g/\g<w5.heap.size/\g≠g5 by obtain⟨g,h1,h2,h3⟩:=HGu.out;exact⟨g,h1,h2,Nat.lt_of_lt_of_le h3 b5.size,by omega⟩);have HG7:=hid hg6;have hq12:q5<=12:=by omega
   have HS0':=hid (show(zay ts r.way st).length=q5 by rw[zb7];exact hq5.symm);obtain⟨sl,hsl⟩:∃z,zay ts r.way st=z:=⟨_,rfl⟩
   rw[hsl] at R5 HS0';obtain⟨pre,hpre⟩:∃z,(zaE ts (rs.take k)).filter p=z:=⟨_,rfl⟩
   rw[hpre] at HA5;have HNX:=hid (show(zaE ts (rs.take (k+1))).filter p=pre++sl.filter p by rw[HSN.out,List.filter_append,hpre,HST.out,hsl]);clear b5 s5 p0 p1 hq5 hml hg5 hg6 hsl hpre
   go_wp2_with fail
   go_loopw [7,23] (fun o i wx=>∃(j:Nat) (A2:Option Addr) (q2 d2:Nat),j<=q5/\i= .int .i64 (j:Int)/\o= .slice A2 q2 d2/\(∃g,A2=some ⟨g,0,none⟩/\w.heap.size<=g/\g<wx.heap.size/\g≠g5)/\q2<=12*k+j/\Sl wx w.heap.size wx.heap.size 196 3 A2 q2 d2 (sps (pre++(sl.take j).filter p))/\zad wx wx.heap.size 3 (some ⟨g5,0,none⟩) q5 (sps sl)/\g5<wx.heap.size/\Below w.heap.size w wx) (fun _ i _=>q5-(RowKit.intOf i).toNat)
   case atStart=>exact⟨0,_,_,_,Nat.zero_le _,rfl,rfl,HG5.out,by omega,by rw[List.take_zero,List.filter_nil,List.append_nil];exact HA5.out,R5.out,HG7.out,HB5.out⟩
   case round=>
    rename World=>wx
    obtain⟨j,A2,q2,d2,hj,rfl,rfl,hg,hq2,hsl,hrd,hg5,hbel⟩:=hrel;have HA2:=hid hsl;have HG2:=hid hg;have HR2:=hid hrd;have HBx:=hid hbel;have HG8:=hid hg5;clear hsl hg hrd hbel hg5;have hj0:(0:Int)<=j:=by omega
    by_cases hjt:j<q5
    ·obtain⟨s,b,off,he,hA,hb,c0,c1,c2⟩:=zm8 HR2.out hjt;injection hA with hA;injection hA with hA1 hA2;subst hA1;subst hA2;rw[Nat.zero_add] at c0 c1 c2;have HFS:=hid (zfH (p:=p) he);have hjq:(j:Int)<q5:=by omega
     clear he
     go_upto_region 8 with fail
     obtain⟨v,hv⟩:∃y,wx.alloc (.cells #[.int .i64 s.tube,.int .i64 s.enter,.int .i64 s.leave] 196)=y:=⟨_,rfl⟩
     have yv:Blk v wx.heap.size 196 #[.int .i64 s.tube,.int .i64 s.enter,.int .i64 s.leave]:=by rw[<-hv];exact Blk.new _ _ _
     have bv:Below wx.heap.size wx v:=by rw[<-hv];exact bal _
     rw[hv];have p0:=yv.cellAt 0 (by simp);have p1:=yv.cellAt 1 (by simp);have p2:=yv.cellAt 2 (by simp);simp only[ly] at p0 p1 p2;have HAv:=hid ((HA2.out.on bv).low);have HRv:=hid ((HR2.out.on lr bv).more bv.size);have HBv:=hid (zac HBx.out bv lr);have HGv:=hid (show∃g,A2=some ⟨g,0,none⟩/\w.heap.size<=g/\g<v.heap.size/\g≠g5 by obtain⟨g,h1,h2,h3,h4⟩:=HG2.out;exact⟨g,h1,h2,Nat.lt_of_lt_of_le h3 bv.size,h4⟩);have HG9:=hid (Nat.lt_of_lt_of_le HG8.out bv.size);clear hv yv bv c0 c1 c2;rcases hps:(s.tube==tube) with _|_
     ·have HF2:=hid (show(sl.take (j+1)).filter p=(sl.take j).filter p by rw[HFS.out,HP.out,hps];simp);go_wp2
      go_roundw
      case rel=>exact⟨j+1,A2,q2,d2,by omega,by go_num,rfl,HGv.out,by omega,by rw[HF2.out];exact HAv.out,HRv.out,HG9.out,HBv.out⟩
      case measure=>simp[RowKit.intOf];omega
     ·have HF2:=hid (show(sl.take (j+1)).filter p=(sl.take j).filter p++ [s] by rw[HFS.out,HP.out,hps];simp);have hz:w.heap.size<=v.heap.size:=HBv.out.size
      go_wp2_with (at_builtin;refine zat rfl _ _ 194 rfl 196 _ 3 24 underlying194 zjl rfl (by decide) (by decide) HAv.out hz rfl (zbv s) v.heap.size rfl rfl rfl (znK _) (by omega) ?_;intro A3 d3 w9 hs9 b9 z9 f9 k9;have HS9:=hid hs9;have HB9:=hid b9;have HF9:=hid f9;have HK9:=hid k9;have HZ9:=hid z9;clear hs9 b9 z9 f9 k9)
      go_roundw
      case rel=>
       have hne:∀ad,A2=some ad->ad.block≠g5:=by
        obtain⟨g,h1,h2,h3,h4⟩:=HGv.out;intro ad had;rw[h1] at had;injection had with had;rw[<-had];exact h4
       refine⟨j+1,A3,q2+1,d3,by omega,by go_num,rfl,?_,by omega,?_,?_,?_,HBv.out.trans HB9.out⟩
       ·obtain⟨g,h1,h2,h3,_⟩:=HS9.out.lt (by omega);exact⟨g,h1,h2,h3,HK9.out g5 HG9.out hne _ h1⟩
       ·rw[HF2.out,<-List.append_assoc,<-znP];exact HS9.out
       ·have h1:=HRv.out;refine⟨h1.1,fun hn=>?_⟩;obtain⟨ad,e1,e2,e3,e4⟩:=h1.2 hn;refine⟨ad,e1,e2,by have:=HZ9.out;omega,fun i x hx=>?_⟩;have hb:=HF9.out g5 HG9.out hne;injection e1 with e1;rw[<-e1] at e4⊢;rw[World.cell?_of_block hb];exact e4 i x hx
       ·have:=HG9.out;have:=HZ9.out;omega
      case measure=>simp[RowKit.intOf];omega
    ·obtain rfl:q5=j:=by omega
     have HF2:=hid (show(sl.take q5).filter p=sl.filter p by rw[<-HS0'.out,List.take_length]);go_wp2
     go_roundw
     case rel=>exact⟨k+1,A2,q2,d2,by omega,by go_num,rfl,by obtain⟨g,h1,h2,h3,_⟩:=HG2.out;exact⟨g,h1,h2,h3⟩,by omega,by rw[HNX.out,<-HF2.out];exact HA2.out,HBx.out⟩
     case measure=>simp[RowKit.intOf];omega
  ·obtain rfl:rn=k:=by omega
   have hta:zaE ts (rs.take rn)=zaE ts rs:=by rw[<-HRL.out,List.take_length]
   obtain⟨g,rfl,hg1,hg2⟩:=HG.out;have HG1:=hid hg1;have HG2:=hid hg2;have hq9:q<=1048576:=by omega
   have HI:=hid (show(zaE ts (rs.take rn)).filter p=zef ts rs tube by rw[hta,HIN.out]);clear hg1 hg2 hta
   go_wp2_with fail
   refine(zqc g q d' w.heap.size _ wr HA.out HBr.out.size HG1.out HG2.out hq9).mono ?_;rintro e w6 ⟨rfl,l',r6,m6,b6⟩;have HR6:=hid r6;have HM6:=hid m6;have HB6:=hid (HBr.out.trans b6);clear r6 m6 b6;go_wp2;go_ret;exact⟨_,_,_,l',rfl,HR6.out,hq9,fun x=>by rw[HM6.out x,HI.out],HB6.out⟩
theorem zqF (s:Sp) (g1 g2:Nat) (f t:Int) (w:World) (h1:w.cell? ⟨g1,0,none⟩ = some (.int .i64 f)) (h2:w.cell? ⟨g2,0,none⟩ = some (.int .i64 t)) :
  Calls prog 153 #[.agg #[.int .i64 s.tube,.int .i64 s.enter,.int .i64 s.leave],.pointer (some ⟨g1,0,none⟩),.pointer (some ⟨g2,0,none⟩)] w fun e w'=>e= .returned (.bool (decide (max s.enter f<min s.leave t)))/\Below w.heap.size w w':=by
 obtain⟨W,hW,y0,hb⟩:∃W,W=w.alloc (.cells #[.int .i64 s.tube,.int .i64 s.enter,.int .i64 s.leave] 196)/\Blk W w.heap.size 196 #[.int .i64 s.tube,.int .i64 s.enter,.int .i64 s.leave]/\Below w.heap.size w W:=⟨_,rfl,Blk.new _ _ _,bal _⟩
 have HW:=hid hW;have HB:=hid hb;replace h1:=zaa hb h1;replace h2:=zaa hb h2;have c1:=y0.cellAt 1 (by simp);have c2:=y0.cellAt 2 (by simp);simp only[ly] at c1 c2;clear hW hb y0;go_enter func153,ntmps153
 go_upto_region 1 with fail
 rw[<-HW.out];go_wp2;go_ret;exact⟨rfl,HB.out⟩
theorem zjR (A:Option Addr) (n c g1 g2:Nat) (f t:Int) (l:List Sp) (w:World) (h:zad w w.heap.size 3 A n (sps l)) (hn:n <= 1048576) (h1:w.cell? ⟨g1,0,none⟩ = some (.int .i64 f)) (h2:w.cell? ⟨g2,0,none⟩ = some (.int .i64 t)) :
  Calls prog 208 #[.slice A n c,.func (.func 153) #[] #[.pointer (some ⟨g1,0,none⟩),.pointer (some ⟨g2,0,none⟩)]] w fun e w'=>e= .returned (.int .i64 (idxI (fun x=>decide (max x.enter f<min x.leave t)) l))/\Below w.heap.size w w':=by
 have hl:=hid (zt3 h);have HC1:=hid h1;have HC2:=hid h2;clear h1 h2;go_enter func208,ntmps208;go_wp2
 go_loopw [8] (fun i wr=>∃k:Nat,k<=n/\i= .int .i64 k/\za0 (fun x=>!decide (max x.enter f<min x.leave t)) l k/\Below w.heap.size w wr) (fun i _=>n-(RowKit.intOf i).toNat)
 case atStart=>exact⟨0,Nat.zero_le _,rfl,za0.zero _ _,Below.refl _ _⟩
 case round=>
  obtain⟨k,hk,rfl,hall,hbel⟩:=hrel;have HA:=hid hall;have HB:=hid hbel;clear hall;by_cases hlt:k<n
  ·obtain⟨x,b,off,he,rfl,hb,c0,c1,c2⟩:=zm8 (h.on lr hbel) hlt;have HE:=hid he;clear he hbel h
   go_wp2_with fail
   refine(zqF x g1 g2 f t _ (zaa HB.out HC1.out) (zaa HB.out HC2.out)).mono ?_;rintro e w1 ⟨rfl,b1⟩;have HF:=hid (zac HB.out b1 lr);clear b1 c0 c1 c2;rcases ho:decide (max x.enter f<min x.leave t) with _|_
   ·have HO:=hid ho;go_wp2
    go_roundw
    case rel=>exact⟨k+1,by omega,by go_num,HA.out.step HE.out (by rw[HO.out];rfl),HF.out⟩
    case measure=>simp[RowKit.intOf];omega
   ·have HO:=hid (show idxI (fun x=>decide (max x.enter f<min x.leave t)) l=k from zcT HE.out ho (HA.out.imp fun x hx=>by simpa using hx));go_wp2;go_ret;exact⟨za3 HO.out.symm,HF.out⟩
  ·obtain rfl:k=n:=by omega
   have HO:=hid (show idxI (fun x=>decide (max x.enter f<min x.leave t)) l=-1 from zdo (HA.out.imp fun x hx=>by simpa using hx) hl.out);go_wp2;go_ret;exact⟨za3 HO.out.symm,HB.out⟩
theorem zh3 (A:Option Addr) (n c g1 g2:Nat) (f t:Int) (l:List Sp) (w:World) (h:zad w w.heap.size 3 A n (sps l)) (hn:n <= 1048576) (h1:w.cell? ⟨g1,0,none⟩ = some (.int .i64 f)) (h2:w.cell? ⟨g2,0,none⟩ = some (.int .i64 t)) :
  Calls prog 151 #[.slice A n c,.func (.func 153) #[] #[.pointer (some ⟨g1,0,none⟩),.pointer (some ⟨g2,0,none⟩)]] w fun e w'=>e= .returned (.bool (l.any fun x=>decide (max x.enter f<min x.leave t)))/\Below w.heap.size w w':=by
 have HO:=hid (show decide (0<=idxI (fun x:Sp=>decide (max x.enter f<min x.leave t)) l)=l.any (fun x=>decide (max x.enter f<min x.leave t)) from by rw[zc5]);have HC:=hid (zjR A n c g1 g2 f t l w h hn h1 h2);clear h h1 h2;go_enter func151,ntmps151
 go_wp2_with fail
 refine HC.out.mono ?_;rintro e w1 ⟨rfl,b1⟩;go_wp2;go_ret;exact⟨zae HO.out,b1⟩
def zbC(ts:List Int)(rs:List Rn)(tube:Int):Int:=if zap ts rs=false then 1 else if inR tube 0 ((ts.length:Int)-1)=false then 2 else 0
theorem znB (Q:Option Addr) (m d:Nat) (ts:List Int) (RA:Option Addr) (rn rc:Nat) (rs:List Rn) (B:Nat) (tube:Int) (w:World) (ht:zad w B 1 Q m (ints ts)) (hr:zaC w B RA rn rs) (hB:B <= w.heap.size) (hm:m <= 1048576) (hrn:rn <= 1048576) (hsm:zbM rs) :
  Calls prog 150 #[.slice Q m d,.slice RA rn rc,.int .i64 tube] w fun e w'=>e= .returned (.int .i64 (zbC ts rs tube))/\Below w.heap.size w w':=by
 have HRT:=hid ht;have HRR:=hid hr;have hts:=zai ht;have HTS:=hid hts;have HSM:=hid hsm
 have hwr:IntKind.i64.wrap ((m:Int)-1)=(m:Int)-1:=by
  unfold IntKind.wrap;simp[IntKind.bits,IntKind.signed];omega
 clear ht hr hsm hts;go_enter func150,ntmps150
 go_wp2_with fail
 refine(zec Q m d ts RA rn rc B rs w HRT.out HRR.out hB hm hrn HSM.out).mono ?_;rintro e w1 ⟨rfl,b1⟩;have HB1:=hid b1;clear b1;rcases e1:zap ts rs with _|_
 ·have HO:=hid (show zbC ts rs tube=1 by unfold zbC;rw[if_pos e1]);go_wp2;go_ret;exact⟨za3 HO.out.symm,HB1.out⟩
 have H1:=hid e1;clear e1
 go_wp2_with fail
 refine(zaG _ _ _ _).mono ?_;rintro e w3 ⟨rfl,rfl⟩;have HL:=hid (show((m:Int)-1)=(ts.length:Int)-1 by rw[HTS.out]);rcases e2:inR tube 0 ((m:Int)-1) with _|_
 ·have HO:=hid (show zbC ts rs tube=2 by unfold zbC;rw[if_neg (by rw[H1.out];decide),if_pos (by rw[<-HL.out];exact e2)]);go_wp2;go_ret;exact⟨za3 HO.out.symm,HB1.out⟩
 ·have HO:=hid (show zbC ts rs tube=0 by unfold zbC;rw[if_neg (by rw[H1.out];decide),if_neg (by rw[<-HL.out,e2];decide)]);go_wp2;go_ret;exact⟨za3 HO.out.symm,HB1.out⟩
theorem zoS{ts:List Int}{rs:List Rn}{tube f t:Int}(h:zbC ts rs tube≠0):zbA ts rs tube f t=(false,zbC ts rs tube):=by
 unfold zbC at h⊢;unfold zbA;by_cases h1:zap ts rs=false
 ·rw[if_pos h1,if_pos h1]
 ·rw[if_neg h1] at h⊢;rw[if_neg h1];by_cases h2:inR tube 0 ((ts.length:Int)-1)=false
  ·rw[if_pos h2,if_pos h2]
  ·rw[if_neg h2] at h;exact absurd rfl h
theorem zfV{ts:List Int}{rs:List Rn}{tube:Int}(h:zbC ts rs tube=0):zap ts rs=true/\inR tube 0 ((ts.length:Int)-1)=true:=by
 unfold zbC at h;by_cases h1:zap ts rs=false
 ·rw[if_pos h1] at h;cases h
 ·rw[if_neg h1] at h;by_cases h2:inR tube 0 ((ts.length:Int)-1)=false
  ·rw[if_pos h2] at h;cases h
  ·exact⟨by simpa using h1,by simpa using h2⟩
theorem zi0{ts:List Int}{rs:List Rn}{tube f t:Int}(h:zbC ts rs tube=0)(h2:(inR f 0 100000&&inR t f 200000)=false):zbA ts rs tube f t=(false,2):=by
 obtain⟨h3,h4⟩:=zfV h;unfold zbA;rw[if_neg (by rw[h3];decide),if_neg (by rw[h4];decide),if_pos h2]
theorem zoT{ts:List Int}{rs:List Rn}{tube f t:Int}(h:zbC ts rs tube=0)(h2:(inR f 0 100000&&inR t f 200000)=true):zbA ts rs tube f t=(!(zef ts rs tube).any (fun s=>decide (max s.enter f<min s.leave t)),0):=by
 obtain⟨h3,h4⟩:=zfV h;unfold zbA;rw[if_neg (by rw[h3];decide),if_neg (by rw[h4];decide),if_neg (by rw[h2];decide)]
theorem zmY (Q:Option Addr) (m d:Nat) (ts:List Int) (RA:Option Addr) (rn rc:Nat) (rs:List Rn) (B:Nat) (tube f t:Int) (w:World) (ht:zad w B 1 Q m (ints ts)) (hr:zaC w B RA rn rs) (hB:B <= w.heap.size) (hm:m <= 1048576) (hrn:rn <= 1048576) (hsm:zbM rs) :
  Calls prog 87 #[.slice Q m d,.slice RA rn rc,.int .i64 tube,.int .i64 f,.int .i64 t] w fun e w'=>e= .returned (.tuple #[.bool (zbA ts rs tube f t).1,.int .i64 (zbA ts rs tube f t).2])/\Below w.heap.size w w':=by
 have HRT:=hid ht;have HRR:=hid hr;have HSM:=hid hsm;obtain⟨W,hW,hz,k0,k1,hb⟩:=zcW w #[.int .i64 f] #[.int .i64 t] 2 2;have HW:=hid hW;have HB:=hid hb;have a0:=k0.cellAt 0 (by simp);have d0:=k1.cellAt 0 (by simp);simp only[ly] at a0 d0;clear hW hz k0 k1 hb ht hr hsm;go_enter func87,ntmps87
 go_upto_region 1 with fail
 rw[<-HW.out]
 go_wp2_with fail
 refine(znB Q m d ts RA rn rc rs B tube W (HRT.out.on hB HB.out) (HRR.out.on hB HB.out) (Nat.le_trans hB HB.out.size) hm hrn HSM.out).mono ?_;rintro e w1 ⟨rfl,b1⟩;have HB1:=hid (zac HB.out b1 lr);replace a0:=zaa b1 a0;replace d0:=zaa b1 d0;clear b1;by_cases hc:zbC ts rs tube=0;rotate_left
 ·have HO:=hid (zoS (f:=f) (t:=t) hc);obtain⟨C,hC⟩:∃z,zbC ts rs tube=z:=⟨_,rfl⟩
  rw[hC] at hc HO;rw[hC];have hcc:(C==0)=false:=by simpa using hc
  have hcd:(C !=0)=true:=by simpa using hc
  clear hC hc;go_wp2;go_ret2;exact⟨by rw[HO.out];rfl,HB1.out⟩
 have HC:=hid hc;rw[hc];clear hc
 go_wp2_with fail
 refine(zaG _ _ _ _).mono ?_;rintro e w3 ⟨rfl,rfl⟩;rcases e3:inR f 0 100000 with _|_
 ·have HO:=hid (zi0 (f:=f) (t:=t) HC.out (by rw[e3];rfl));go_wp2;go_ret2;exact⟨by rw[HO.out];rfl,HB1.out⟩
 have H3:=hid e3;clear e3
 go_wp2_with fail
 refine(zaG _ _ _ _).mono ?_;rintro e w4 ⟨rfl,rfl⟩;rcases e4:inR t f 200000 with _|_
 ·have HO:=hid (zi0 (f:=f) (t:=t) HC.out (by rw[H3.out,e4];rfl));go_wp2;go_ret2;exact⟨by rw[HO.out];rfl,HB1.out⟩
 have HO:=hid (zoT (f:=f) (t:=t) HC.out (by rw[H3.out,e4];rfl));clear e4
 go_wp2_with fail
 refine(zoD Q m d ts RA rn rc rs B tube w1 (HRT.out.on hB HB1.out) (HRR.out.on hB HB1.out) (Nat.le_trans hB HB1.out.size) (zfV HC.out).1).mono ?_;rintro e w5 ⟨A5,q5,d5,l5,rfl,r5,hq5,m5,b5⟩;have HB5:=hid (zac HB1.out b5 lr);have HR5:=hid r5;have HM5:=hid m5;replace a0:=zaa b5 a0;replace d0:=zaa b5 d0;have HA0:=hid a0;have HD0:=hid d0;clear b5 r5 m5
 go_wp2_with fail
 refine(zh3 A5 q5 d5 w.heap.size (w.heap.size+1) f t l5 w5 HR5.out hq5 HA0.out HD0.out).mono ?_;rintro e w6 ⟨rfl,b6⟩;have HB6:=hid (zac HB5.out b6 lr)
 have HAN:=hid (show(l5.any fun x=>decide (max x.enter f<min x.leave t))=(zef ts rs tube).any (fun s=>decide (max s.enter f<min s.leave t)) by
  rw[Bool.eq_iff_iff,List.any_eq_true,List.any_eq_true];exact⟨fun⟨x,h1,h2⟩=>⟨x,(HM5.out x).1 h1,h2⟩,fun⟨x,h1,h2⟩=>⟨x,(HM5.out x).2 h1,h2⟩⟩)
 clear b6 a0 d0;obtain⟨Z,hZ⟩:∃z,(l5.any fun x=>decide (max x.enter f<min x.leave t))=z:=⟨_,rfl⟩
 rw[hZ] at HAN⊢;clear hZ;go_wp2;go_ret2;exact⟨by rw[HO.out,<-HAN.out];rfl,HB6.out⟩
end Go.Proofs.YtjalgpioklcbfaaGreatDoor
