/- The marks of a desk: runs, net, desk. -/
import Derived.Test.YtjalgpioklcbfaaGreatDoorMgDesksAJ
set_option maxHeartbeats 4000000
set_option linter.unusedVariables false
set_option linter.unusedSimpArgs false
namespace Go.Proofs.YtjalgpioklcbfaaGreatDoor
open Go.RowKit Go.Proofs.Tryz
theorem Blk.off{w w':World}{g:Nat}{t:TypeId}{cs:Array Value}{S:Nat->Prop}(h:Blk w g t cs)(ho:Off S w w')(hs:¬S g):Blk w' g t cs:=(ho.block g h.lt hs).trans h
theorem zad.off{w w':World}{lo hi size n c:Nat}{t:TypeId}{A:Option Addr}{xs:List Value}{S:Nat->Prop}(h:Sl w lo hi t size A n c xs)(ho:Off S w w')(hs:∀b,inB A b->¬S b){B:Nat}(hB:hi<=B):zad w' B size A n xs:=(h.off ho hs).reads hB
theorem zeb{rs:List Rn}(h:zbM rs)(i:Nat):wlen rs i<=1048576:=by
 unfold wlen
 cases e:rs[i]? with
 |none=>simp
 |some r=>simpa using h i r e
theorem zlA{l:List RnH}{i:Nat}{x:RnH}{v:Int}(h:l[i]?=some x)(t:Nat):((l.set i ⟨x.A,x.m,x.c,v⟩)[t]?).map (·.A)=(l[t]?).map (·.A):=by
 by_cases e:i=t
 ·subst e;rw[List.getElem?_set_self (List.getElem?_eq_some_iff.1 h).1,h];rfl
 ·rw[List.getElem?_set_ne e]
theorem zfg{A:Option Addr}{rh rh':List RnH}(h:∀t:Nat,(rh'[t]?).map (·.A)=(rh[t]?).map (·.A)){b:Nat}(hb:inRn A rh' b):inRn A rh b:=by
 rcases hb with hb|⟨i,x,hx,hb⟩
 ·exact .inl hb
 ·have:=h i;rw[hx] at this
  cases e:rh[i]? with
  |none=>rw[e] at this;cases this
  |some y=>
   rw[e] at this;simp only[Option.map_some,Option.some.injEq] at this;exact .inr ⟨i,y,e,by rw[<-this];exact hb⟩
theorem zsl (A:Option Addr) (n c lo hi:Nat) (k0:Int) (rs:List Rn) (rh:List RnH) (w:World) (h:OwnR w lo hi A n c rs rh) (hn:n <= 1048576) (hsm:zbM rs) (hk0:0 <= k0) (hk1:k0 <= 100000000) :
  Calls prog 57 #[.slice A n c,.int .i64 k0] w fun e w'=>e= .returned (.int .i64 (kR k0 rs n))/\zaC w' hi A n (zdz k0 rs)/\Off (inRn A rh) w w':=by
 have HN:=hid h.len;have HSM:=hid hsm;go_enter func57,ntmps57;go_wp2
 go_loopw [1,5] (fun q i wr=>∃(j:Nat) (rs':List Rn) (rh':List RnH),j<=n/\i= .int .i64 j/\q= .int .i64 (kR k0 rs j)/\OwnR wr lo hi A n c rs' rh'/\(∀t:Nat,t<j->rs'[t]?=(zdz k0 rs)[t]?)/\(∀t:Nat,j<=t->rs'[t]?=rs[t]?)/\(∀t:Nat,(rh'[t]?).map (·.A)=(rh[t]?).map (·.A))/\Off (inRn A rh) w wr) (fun _ i _=>n-(RowKit.intOf i).toNat)
 case atStart=>exact⟨0,rs,rh,Nat.zero_le _,rfl,rfl,h,fun t ht=>by omega,fun t _=>rfl,fun t=>rfl,Off.refl _ _⟩
 case round=>
  obtain⟨j,rs',rh',hj,rfl,rfl,hown,hdone,hleft,hsame,hoff⟩:=hrel;have HO:=hid hown;have HD:=hid hdone;have HL:=hid hleft;have HS:=hid hsame;have HF:=hid hoff;clear hown hdone hleft hsame hoff h hsm;by_cases hlt:j<n
  ·obtain⟨g,rfl,hg1,hg2,hg3⟩:=HO.out.row.lt (by omega);have hx:rh'[j]?=some (rh'[j]'(by have:=HO.out.hlen;omega)):=List.getElem?_eq_getElem _;obtain⟨x,hxe⟩:∃x,rh'[j]'(by have:=HO.out.hlen;omega)=x:=⟨_,rfl⟩
   rw[hxe] at hx;obtain⟨r,hr⟩:=HO.out.get hx;have hr0:rs[j]?=some r:=by rw[<-HL.out j lr];exact hr
   obtain⟨hst,hm,hsl⟩:=HO.out.at_ j x r hx hr;have hxm:r.way.length=x.m:=by have:=hsl.len;rw[za4] at this;omega
   have hwl:wlen rs j=x.m:=by rw[zpr hr0,hxm]
   have hxs:x.m<=1048576:=by rw[<-hxm];exact HSM.out j r hr0
   have hkb:=zi3 (k:=k0) (fun i=>zeb HSM.out i) j;have HX:=hid hx;have HR:=hid hr;have HSL:=hid hsl;have HWL:=hid hwl;obtain⟨e0,e1⟩:=zeP hx;have c0:=(HO.out.row.cellAt (j*2) (by omega)).trans e0;have hkn:kR k0 rs (j+1)=kR k0 rs j+(x.m:Int)+1:=by rw[kR,hwl]
   have HKN:=hid hkn;obtain⟨kj,hkj⟩:∃q,kR k0 rs j=q:=⟨_,rfl⟩
   have HKJ:=hid hkj;rw[hkj] at hkb⊢;have hj0:(0:Int)<=j:=by omega
   have hjn:(j:Int)<n:=by omega
   have hkj1:0<=kj:=by omega
   have hkj2:kj<=4000000000000:=by omega
   clear hx hr hr0 hst hsl hxm hwl e0 e1 hkn hkj hxe
   go_wp2_with fail
   refine(zgm x.A x.m x.c lo hi kj _ _ HSL.out hxs hkj1 hkj2).mono ?_;rintro e w2 ⟨rfl,hsl2,hof2⟩;have HO2:=hid (HO.out.setWay HX.out HR.out hof2 hsl2);have HF2:=hid (HF.out.trans (hof2.mono fun b hb=>zfg HS.out (.inr ⟨j,x,HX.out,hb⟩)));obtain⟨e0,e1⟩:=zeP HX.out;have c1:=(HO2.out.row.cellAt (j*2+1) (by omega)).trans e1;have f1:=HO2.out.row.frozenAt (j*2+1);clear hsl2 hof2 c0 e0 e1;go_wp2
   go_roundw
   case rel=>
    have hil:=(List.getElem?_eq_some_iff.1 HR.out).1;have hset:(rs'.set j ⟨zbU kj x.m,r.st⟩)[j]?=some ⟨zbU kj x.m,r.st⟩:=List.getElem?_set_self hil;have hown3:=HO2.out.setStart HX.out hset (kj+(x.m:Int));refine⟨j+1,_,_,by omega,by go_num,by rw[HKN.out,HKJ.out],hown3,fun t ht=>?_,fun t ht=>?_,fun t=>(zlA HX.out t).trans (HS.out t),HF2.out.setCell (p:=⟨g,j*2+1,none⟩) (.inl (zdH g 0)) _⟩
    ·rw[List.set_set];by_cases e:j=t
     ·subst e;rw[List.getElem?_set_self hil,zhU (by have:=HN.out;omega),HWL.out,HKJ.out]
     ·rw[List.getElem?_set_ne e];exact HD.out t (by omega)
    ·rw[List.set_set,List.getElem?_set_ne (by omega)];exact HL.out t (by omega)
   case measure=>simp[RowKit.intOf];omega
  ·obtain rfl:j=n:=by omega
   have e:rs'=zdz k0 rs:=by
    apply List.ext_getElem?;intro t;by_cases ht:t<j
    ·exact HD.out t ht
    ·rw[HL.out t (by omega),List.getElem?_eq_none (by have:=HN.out;omega),List.getElem?_eq_none (by rw[zfO];have:=HN.out;omega)]
   go_wp2;go_ret;exact⟨rfl,by rw[<-e];exact HO.out.reads lr,HF.out⟩
theorem zsd (A:Option Addr) (n c B:Nat) (k0:Int) (rs:List Rn) (w:World) (h:zaC w B A n (zdz k0 rs)) (hB:B <= w.heap.size) (hl:rs.length = n) (hn:n <= 1048576) (hsm:zbM rs) (hk0:0 <= k0) (hk1:k0 <= 100000000) :
  Calls prog 61 #[.slice A n c,.int .i64 k0] w fun e w'=>e= .returned (.int .i64 (kR k0 rs n))/\Below w.heap.size w w':=by
 have HSM:=hid hsm;have HN:=hid hl;clear hsm hl;go_enter func61,ntmps61;go_wp2
 go_loopw [1,5] (fun q i wr=>∃(j:Nat),j<=n/\i= .int .i64 j/\q= .int .i64 (kR k0 rs j)/\Below w.heap.size w wr) (fun _ i _=>n-(RowKit.intOf i).toNat)
 case atStart=>exact⟨0,Nat.zero_le _,rfl,rfl,Below.refl _ _⟩
 case round=>
  obtain⟨j,hj,rfl,rfl,hbel⟩:=hrel;have HB:=hid hbel;by_cases hlt:j<n
  ·obtain⟨r,b,off,A',m',c',he,rfl,hb,c0,c1,hr,hm'⟩:=zcn (h.on hB hbel) hlt
   have hr2:r=⟨zbU (kR k0 rs j) (wlen rs j),kR k0 rs j+(wlen rs j:Int)⟩:=by
    rw[zhU (by have:=HN.out;omega)] at he;injection he with he;exact he.symm
   subst hr2;have hlen:=zai hr;rw[zfq] at hlen;have hxs:m'<=1048576:=by rw[<-hlen];exact zeb HSM.out j
   have hkb:=zi3 (k:=k0) (fun i=>zeb HSM.out i) j;have HKN:=hid (show kR k0 rs (j+1)=kR k0 rs j+(m':Int)+1 by rw[kR,hlen]);rw[hlen] at hr;simp only at c1;rw[hlen] at c1;obtain⟨kj,hkj⟩:∃q,kR k0 rs j=q:=⟨_,rfl⟩
   have HKJ:=hid hkj;rw[hkj] at hkb hr c1⊢;have HR:=hid hr;have hj0:(0:Int)<=j:=by omega
   have hjn:(j:Int)<n:=by omega
   have hkj1:0<=kj:=by omega
   have hkj2:kj<=4000000000000:=by omega
   clear he hlen hr hkj h hbel
   go_wp2_with fail
   refine(zlx A' m' c' B kj _ HR.out hxs hkj1 hkj2).mono ?_;rintro e w2 ⟨rfl,b2⟩;have HF:=hid (zac HB.out b2 lr);replace c1:=zaa b2 c1;have hg:decide (kj+(m':Int)<0)=false:=decide_eq_false (by omega);clear b2 c0;go_wp2
   go_roundw
   case rel=>exact⟨j+1,by omega,by go_num,by rw[HKN.out,HKJ.out],HF.out⟩
   case measure=>simp[RowKit.intOf];omega
  ·obtain rfl:j=n:=by omega
   go_wp2;go_ret;exact⟨rfl,hbel⟩
theorem zlB (A:Option Addr) (n c lo hi:Nat) (st k0:Int) (xs:List Value) (w:World) (h:Sl w lo hi 101 3 A n c xs) (hn:n <= 1048576) (hk0:0 <= k0) (hk1:k0 <= 4000000000000) :
  Calls prog 55 #[.agg #[.int .i64 st,.slice A n c],.int .i64 k0] w fun e w'=>e= .returned (.int .i64 (k0+3*(n:Int)))/\Sl w' lo hi 101 3 A n c (tbs (zcm k0 n))/\Off (inB A) w w':=by
 obtain⟨W,hW,y0,hb⟩:∃W,W=w.alloc (.cells #[.int .i64 st,.slice A n c] 28)/\Blk W w.heap.size 28 #[.int .i64 st,.slice A n c]/\Below w.heap.size w W:=⟨_,rfl,Blk.new _ _ _,bal _⟩
 have HW:=hid hW;have HB:=hid hb;have HS:=hid (h.on hb);have c1:=y0.cellAt 1 (by simp);simp only[ly] at c1;clear hW hb y0 h;go_enter func55,ntmps55
 go_upto_region 1 with fail
 rw[<-HW.out]
 go_wp2_with fail
 refine(zsm A n c lo hi k0 _ _ HS.out hn hk0 hk1).mono ?_;rintro e w1 ⟨rfl,s1,o1⟩;have H1:=hid s1;have HO:=hid ((Off.of_below HB.out (inB A)).trans o1);clear s1 o1 c1;go_wp2;go_ret;exact⟨rfl,H1.out,HO.out⟩
theorem zqL (A:Option Addr) (n c B:Nat) (st k0:Int) (w:World) (h:zad w B 3 A n (tbs (zcm k0 n))) (hB:B <= w.heap.size) (hn:n <= 1048576) (hk0:0 <= k0) (hk1:k0 <= 4000000000000) :
  Calls prog 59 #[.agg #[.int .i64 st,.slice A n c],.int .i64 k0] w fun e w'=>e= .returned (.int .i64 (k0+3*(n:Int)))/\Below w.heap.size w w':=by
 obtain⟨W,hW,y0,hb⟩:∃W,W=w.alloc (.cells #[.int .i64 st,.slice A n c] 28)/\Blk W w.heap.size 28 #[.int .i64 st,.slice A n c]/\Below w.heap.size w W:=⟨_,rfl,Blk.new _ _ _,bal _⟩
 have HW:=hid hW;have HB:=hid hb;have HS:=hid (h.on hB hb);have c1:=y0.cellAt 1 (by simp);simp only[ly] at c1;clear hW hb y0 h;go_enter func59,ntmps59
 go_upto_region 1 with fail
 rw[<-HW.out]
 go_wp2_with fail
 refine(zse A n c B k0 _ HS.out hn hk0 hk1).mono ?_;rintro e w1 ⟨rfl,b1⟩;have H1:=hid (zac HB.out b1 lr);have hg:decide (k0+3*(n:Int)<0)=false:=decide_eq_false (by omega);clear b1 c1;go_wp2;go_ret;exact⟨rfl,H1.out⟩
theorem zm7{h:DkH}{d:Dk}{k0:Int}(h1:d.net.tubes.length=h.n1)(h2:d.times.length=h.n2)(hs:DkS h d)(hk0:0<=k0)(hk1:k0<=10000000):k1D k0 d=k0+3*(h.n1:Int)/\0<=k1D k0 d/\k1D k0 d<=20000000/\k2D k0 d=k1D k0 d+(h.n2:Int)/\0<=k2D k0 d/\k2D k0 d<=40000000:=by
 have:=hs.n1;have:=hs.n2;unfold k2D k1D;rw[h1,h2];omega
theorem zpS (h:DkH) (d:Dk) (rh:List RnH) (lo hi:Nat) (k0:Int) (w:World) (hw:OwnD w lo hi h d rh) (hs:DkS h d) (hk0:0 <= k0) (hk1:k0 <= 10000000) :
  Calls prog 19 #[.agg #[.int .i64 d.net.sta,.slice h.A1 h.n1 h.c1,.slice h.A2 h.n2 h.c2,.slice h.A3 h.n3 h.c3,.string d.log],.int .i64 k0] w fun e w'=>e= .returned (.int .i64 (k3D k0 d))/\DkR w' hi h (zgl k0 d)/\Off (inD h rh) w w':=by
 have ht1:d.net.tubes.length=h.n1:=by have:=hw.tubes.len;rw[zea] at this;omega
 have ht2:d.times.length=h.n2:=by have:=hw.times.len;rw[za4] at this;omega
 have ht3:=hw.runs.len;obtain⟨e1,q1,q2,e2,q3,q4⟩:=zm7 ht1 ht2 hs hk0 hk1;have HT1:=hid ht1;have HT2:=hid ht2;have HT3:=hid ht3;have hn1:=hs.n1;have hn2:=hs.n2;have hn3:=hs.n3;have HSR:=hid hs.runs;obtain⟨W,hW,y0,hb⟩:∃W,W=w.alloc (.cells #[.int .i64 d.net.sta,.slice h.A1 h.n1 h.c1,.slice h.A2 h.n2 h.c2,.slice h.A3 h.n3 h.c3,.string d.log] 32)/\Blk W w.heap.size 32 #[.int .i64 d.net.sta,.slice h.A1 h.n1 h.c1,.slice h.A2 h.n2 h.c2,.slice h.A3 h.n3 h.c3,.string d.log]/\Below w.heap.size w W:=⟨_,rfl,Blk.new _ _ _,bal _⟩
 have HW:=hid hW;have HB:=hid hb;have y0':=hid y0;have HO:=hid (hw.on hb);have hbox:∀b,inD h rh b->b<w.heap.size:=fun b hb=>(hw.low.inD_lt hb).2;have HX:=hid hbox;have c0:=y0.cellAt 0 (by simp);have c1:=y0.cellAt 1 (by simp);simp only[ly] at c0 c1;have E1:=hid e1;have E2:=hid e2;obtain⟨k1,hk1'⟩:∃q,k1D k0 d=q:=⟨_,rfl⟩
 obtain⟨k2,hk2'⟩:∃q,k2D k0 d=q:=⟨_,rfl⟩
 rw[hk1'] at q1 q2 E1 E2;rw[hk2'] at q3 q4 E2;have K1:=hid hk1';have K2:=hid hk2';clear hW hb y0 hw hs e1 e2 hbox ht1 ht2 ht3 hk1' hk2';go_enter func19,ntmps19
 go_upto_region 1 with fail
 rw[<-HW.out]
 go_wp2_with fail
 refine(zlB h.A1 h.n1 h.c1 lo hi d.net.sta k0 _ _ HO.out.tubes hn1 hk0 (by omega)).mono ?_;rintro e w1 ⟨rfl,s1,o1⟩;rw[<-E1.out];have S1:=hid s1;have T1:=hid (HO.out.times.off o1 fun b hb hb'=>HO.out.n12 b hb' hb);have R1:=hid (HO.out.runs.off o1 fun b hb hb'=>HO.out.n1r b hb' hb);have F1:=hid ((Off.of_below HB.out (inD h rh)).trans (o1.mono fun b hb=>.inl hb));have Y1:=hid (y0'.out.off o1 fun hb=>by have:=HX.out _ (.inl hb);omega);clear s1 o1 c0 c1;have c2:=Y1.out.cellAt 2 (by simp);simp only[ly] at c2
 go_wp2_with fail
 refine(zgm h.A2 h.n2 h.c2 lo hi k1 _ _ T1.out hn2 q1 (by omega)).mono ?_;rintro e w2 ⟨rfl,s2,o2⟩;rw[<-E2.out];have T2:=hid s2;have S2:=hid (S1.out.off o2 fun b hb hb'=>HO.out.n12 b hb hb');have R2:=hid (R1.out.off o2 fun b hb hb'=>HO.out.n2r b hb' hb);have F2:=hid (F1.out.trans (o2.mono fun b hb=>.inr (.inl hb)));have Y2:=hid (Y1.out.off o2 fun hb=>by have:=HX.out _ (.inr (.inl hb));omega);clear s2 o2 c2;have c3:=Y2.out.cellAt 3 (by simp);simp only[ly] at c3
 go_wp2_with fail
 refine(zsl h.A3 h.n3 h.c3 lo hi k2 d.runs rh _ R2.out hn3 HSR.out q3 (by omega)).mono ?_;rintro e w3 ⟨rfl,r3,o3⟩;have S3:=hid ((S2.out.off o3 fun b hb hb'=>HO.out.n1r b hb hb').reads (Nat.le_refl hi));have T3:=hid ((T2.out.off o3 fun b hb hb'=>HO.out.n2r b hb hb').reads (Nat.le_refl hi));have R3:=hid r3;have F3:=hid (F2.out.trans (o3.mono fun b hb=>.inr (.inr hb)));clear r3 o3 c3;go_wp2;go_ret;refine⟨by rw[k3D,K2.out,HT3.out];rfl,⟨?_,?_,?_⟩,F3.out⟩
 ·show zad _ _ _ _ _ (tbs (zcm k0 d.net.tubes.length));rw[HT1.out];exact S3.out
 ·show zad _ _ _ _ _ (ints (zbU (k1D k0 d) d.times.length));rw[HT2.out,K1.out];exact T3.out
 ·show zaC _ _ _ _ (zdz (k2D k0 d) d.runs);rw[K2.out];exact R3.out
theorem zjL (h:DkH) (d:Dk) (B:Nat) (k0:Int) (w:World) (hr:DkR w B h (zgl k0 d)) (hB:B <= w.heap.size) (hs:DkS h d) (hk0:0 <= k0) (hk1:k0 <= 10000000) :
  Calls prog 21 #[.agg #[.int .i64 d.net.sta,.slice h.A1 h.n1 h.c1,.slice h.A2 h.n2 h.c2,.slice h.A3 h.n3 h.c3,.string d.log],.int .i64 k0] w fun e w'=>e= .returned (.int .i64 (k3D k0 d))/\Below w.heap.size w w':=by
 have ht1:d.net.tubes.length=h.n1:=by have:=zbW hr.tubes;simpa[zgl,zhs] using this
 have ht2:d.times.length=h.n2:=by have:=zai hr.times;simpa[zgl,zfq] using this
 have ht3:d.runs.length=h.n3:=by have:=hr.runs.len;simpa[zgl,zfO] using this
 obtain⟨e1,q1,q2,e2,q3,q4⟩:=zm7 ht1 ht2 hs hk0 hk1;have HT3:=hid ht3;have hn1:=hs.n1;have hn2:=hs.n2;have hn3:=hs.n3;have HSR:=hid hs.runs;have r1:zad w B 3 h.A1 h.n1 (tbs (zcm k0 h.n1)):=by have:=hr.tubes;simpa[zgl,ht1] using this
 have r2:zad w B 1 h.A2 h.n2 (ints (zbU (k1D k0 d) h.n2)):=by have:=hr.times;simpa[zgl,ht2] using this
 have r3:zaC w B h.A3 h.n3 (zdz (k2D k0 d) d.runs):=hr.runs;obtain⟨W,hW,y0,hb⟩:∃W,W=w.alloc (.cells #[.int .i64 d.net.sta,.slice h.A1 h.n1 h.c1,.slice h.A2 h.n2 h.c2,.slice h.A3 h.n3 h.c3,.string d.log] 32)/\Blk W w.heap.size 32 #[.int .i64 d.net.sta,.slice h.A1 h.n1 h.c1,.slice h.A2 h.n2 h.c2,.slice h.A3 h.n3 h.c3,.string d.log]/\Below w.heap.size w W:=⟨_,rfl,Blk.new _ _ _,bal _⟩
 have HW:=hid hW;have HB:=hid hb;have Y0:=hid y0;obtain⟨k1,hk1'⟩:∃q,k1D k0 d=q:=⟨_,rfl⟩
 obtain⟨k2,hk2'⟩:∃q,k2D k0 d=q:=⟨_,rfl⟩
 have K2:=hid hk2';rw[hk1'] at r2 e1 e2 q1 q2;rw[hk2'] at r3 e2 q3 q4;have E1:=hid e1;have E2:=hid e2;have R1:=hid (r1.on hB hb);have R2:=hid (r2.on hB hb);have R3:=hid (r3.on hB hb);have c0:=y0.cellAt 0 (by simp);have c1:=y0.cellAt 1 (by simp);simp only[ly] at c0 c1;clear hW hb y0 hr hs e1 e2 ht1 ht2 ht3 hk1' hk2' r1 r2 r3;go_enter func21,ntmps21
 go_upto_region 1 with fail
 rw[<-HW.out]
 go_wp2_with fail
 refine(zqL h.A1 h.n1 h.c1 B d.net.sta k0 _ R1.out (Nat.le_trans hB HB.out.size) hn1 hk0 (by omega)).mono ?_;rintro e w1 ⟨rfl,b1⟩;rw[<-E1.out];have HB1:=hid (zac HB.out b1 lr);have Y1:=hid (Y0.out.on b1);have S2:=hid (R2.out.on (Nat.le_trans hB HB.out.size) b1);have S3:=hid (R3.out.on (Nat.le_trans hB HB.out.size) b1);clear b1 c0 c1;have hg1:decide (k1<0)=false:=decide_eq_false (by omega);have c2:=Y1.out.cellAt 2 (by simp);simp only[ly] at c2
 go_wp2_with fail
 refine(zlx h.A2 h.n2 h.c2 B k1 _ S2.out hn2 q1 (by omega)).mono ?_;rintro e w2 ⟨rfl,b2⟩;rw[<-E2.out];have HB2:=hid (zac HB1.out b2 lr);have Y2:=hid (Y1.out.on b2);have U3:=hid (S3.out.on (Nat.le_trans hB HB1.out.size) b2);clear b2 c2;have hg2:decide (k2<0)=false:=decide_eq_false (by omega);have c3:=Y2.out.cellAt 3 (by simp);simp only[ly] at c3;have hkb:=zi3 (k:=k2) (fun i=>zeb HSR.out i) h.n3;have hg3:decide (kR k2 d.runs h.n3<0)=false:=decide_eq_false (by omega)
 go_wp2_with fail
 refine(zsd h.A3 h.n3 h.c3 B k2 d.runs _ U3.out (Nat.le_trans hB HB2.out.size) HT3.out hn3 HSR.out q3 (by omega)).mono ?_;rintro e w3 ⟨rfl,b3⟩;have HB3:=hid (zac HB2.out b3 lr);clear b3 c3;obtain⟨k3,hk3⟩:∃q,kR k2 d.runs h.n3=q:=⟨_,rfl⟩
 rw[hk3] at hg3 hkb⊢;have HO:=hid (show k3D k0 d=k3 by rw[k3D,K2.out,HT3.out];exact hk3);clear hk3;go_wp2;go_ret;exact⟨by rw[HO.out];rfl,HB3.out⟩
end Go.Proofs.YtjalgpioklcbfaaGreatDoor
