/- The fewest stuck switches, as the reference finds them. -/
import Derived.Test.YtjalgpioklcbfaaGreatDoorMgDesksAP
set_option maxHeartbeats 4000000
set_option maxRecDepth 100000
set_option linter.unusedVariables false
set_option linter.unusedSimpArgs false
namespace Go.Proofs.YtjalgpioklcbfaaGreatDoor
open Go.RowKit Go.Lib Go.Proofs.Tryz
theorem zhN (d k:Nat) (x:Int) (hd:d <= 4) (hk:k < d) (hx:0 <= x) (hx2:x <= 15) (w:World) :
  Calls prog 321 #[.int .i64 (d:Int),.int .i64 x,.int .i64 (k:Int)] w fun e w'=>e= .returned (.int .i64 (dgF d x k))/\w'=w:=by
 have hp:(0:Int)<2^(d-1-k):=Int.pow_pos (by decide);have h0:0<=x/(2:Int)^(d-1-k):=Int.ediv_nonneg hx (by omega);have h9:x/(2:Int)^(d-1-k)<=15:=Int.le_trans (Int.ediv_le_self _ hx) hx2;have HO:=hid (show bits BinOp.and IntKind.i64 (x/(2:Int)^(d-1-k)) 1=dgF d x k from and1 _ h0 h9);clear hp h0 h9;go_enter func321,ntmps321;go_wp2;go_ret;exact⟨za3 HO.out,rfl⟩
theorem zhM (x:Int) (w:World) :
  Calls prog 312 #[.int .i64 x] w fun e w'=>e= .returned (.bool (inR x 1 4))/\w'=w:=by
 go_enter func312,ntmps312
 go_wp2_with fail
 refine(za2 _ _ _ _).mono ?_;rintro e w3 ⟨rfl,rfl⟩;go_wp2;go_ret;exact⟨rfl,rfl⟩
theorem zsH{d:Nat}(h1:1<=d)(hd:d<=4):wrap64 ((2:Int)^d)=(2:Int)^d/\wrap64 ((2:Int)^d-1)=(2:Int)^d-1:=by
 have:d=1\/d=2\/d=3\/d=4:=by omega
 rcases this with rfl|rfl|rfl|rfl<;>(simp only[Int.reducePow];unfold wrap64;omega)
theorem zhO (d:Nat) (h1:1 <= d) (hd:d <= 4) (w:World) :
  Calls prog 320 #[.int .i64 (d:Int)] w fun e w'=>e= .returned (.int .i64 ((2:Int)^d))/\w'=w:=by
 have HW:=hid (zsH h1 hd).1;go_enter func320,ntmps320;go_wp2;go_ret;exact⟨za3 HW.out,rfl⟩
theorem ziI (d:Nat) (x:Int) (h1:1 <= d) (hd:d <= 4) (w:World) :
  Calls prog 313 #[.int .i64 (d:Int),.int .i64 x] w fun e w'=>e= .returned (.bool (inR x 0 ((2:Int)^d-1)))/\w'=w:=by
 have hwr:=(zsH h1 hd).2;have HW:=hid hwr;clear hwr;go_enter func313,ntmps313
 go_wp2_with fail
 refine(zhO d h1 hd w).mono ?_;rintro e w2 ⟨rfl,rfl⟩
 go_wp2_with fail
 rw[HW.out];refine(za2 _ _ _ _).mono ?_;rintro e w3 ⟨rfl,rfl⟩;go_wp2;go_ret;exact⟨rfl,rfl⟩
theorem zmv (D:Int) (A:Option Addr) (n c:Nat) (l:List Tl) (B:Nat) (w:World) (h:zad w B 2 A n (tls l)) (hn:n <= 1048576) :
  Calls prog 286 #[.int .i64 D,.slice A n c] w fun e w'=>e= .returned (.bool (okTr D l))/\w'=w:=by
 have HL:=hid (zey h);have HR:=hid h;clear h;rcases hD:inR D 1 4 with _|_
 ·have HF:=hid (show okTr D l=false by unfold okTr;rw[hD,Bool.false_and]);go_enter func286,ntmps286
  go_wp2_with fail
  refine(zhM D w).mono ?_;rintro e w2 ⟨rfl,rfl⟩;rw[hD];go_wp2;go_ret;exact⟨zae HF.out.symm,rfl⟩
 have hD2:=zam.1 hD;obtain⟨d,rfl⟩:=Int.eq_ofNat_of_zero_le (show 0<=D by omega);have h1:1<=d:=by omega
 have hd:d<=4:=by omega
 have HD:=hid hD;clear hD2;go_enter func286,ntmps286
 go_wp2_with fail
 refine(zhM d w).mono ?_;rintro e w2 ⟨rfl,rfl⟩;rw[hD];clear hD
 go_wp2_with fail
 go_loop [5] (fun i=>∃k:Nat,k<=n/\i= .int .i64 k/\za0 (okTl d) l k) (fun i=>n-(RowKit.intOf i).toNat)
 case atStart=>exact⟨0,Nat.zero_le _,rfl,za0.zero _ _⟩
 case round=>
  obtain⟨k,hk,rfl,hall⟩:=hrel;have HA:=hid hall;clear hall;by_cases hlt:k<n
  ·obtain⟨x,b,off,he,rfl,hb,c0,c1⟩:=zi8 HR.out hlt;have HE:=hid he;clear he;have HBD:=hid (fun hx:okTl d x=false=>(show okTr (d:Int) l=false by unfold okTr;rw[Int.toNat_natCast,zcd (p:=okTl d) HE.out hx,Bool.and_false,Bool.and_false]))
   go_wp2_with fail
   refine(ziI d x.1 h1 hd _).mono ?_;rintro e w3 ⟨rfl,rfl⟩;rcases h2:inR x.1 0 ((2:Int)^d-1) with _|_
   ·have HF:=hid (HBD.out (by unfold okTl;rw[h2,Bool.false_and]));go_wp2;go_ret;exact⟨zae HF.out.symm,rfl⟩
   go_wp2_with fail
   refine(ziI d x.2 h1 hd _).mono ?_;rintro e w3 ⟨rfl,rfl⟩;rcases h3:inR x.2 0 ((2:Int)^d-1) with _|_
   ·have HF:=hid (HBD.out (by unfold okTl;rw[h2,h3];rfl));go_wp2;go_ret;exact⟨zae HF.out.symm,rfl⟩
   have HT:=hid (show okTl d x=true by unfold okTl;rw[h2,h3];rfl);go_wp2
   go_round
   case rel=>exact⟨k+1,by omega,by go_num,HA.out.step HE.out HT.out⟩
   case measure=>simp[RowKit.intOf];omega
  ·obtain rfl:k=n:=by omega
   have HF:=hid (show okTr (d:Int) l=decide (k<=16) by unfold okTr;rw[HD.out,Int.toNat_natCast,HL.out,HA.out.done HL.out,Bool.true_and,Bool.and_true]);have HN:=hid (show decide ((k:Int)<=16)=decide (k<=16) by rw[decide_eq_decide];omega);go_wp2;go_ret;exact⟨zae (by rw[HF.out,<-HN.out]),rfl⟩
def zdv(l:List Bool):List Value:=l.map .bool
theorem ztj(n:Nat)(hn:n<=1048576):∀w:World,(Instr.makeSlice 29 (.int .i64 (n:Int)) (.int .i64 (n:Int))).run prog w= .ok (.slice (some ⟨w.heap.size,0,none⟩) n n) (w.alloc (.cells (madeCells #[.int .i64 0] n) 2)):=by
 have:=zc9 29 2 (.int .i64 0) 1 8 underlying29 (by kernel_rfl) (by decide) n hn;rwa[Nat.mul_one] at this
theorem ztM(n:Nat)(hn:n<=1048576):∀w:World,(Instr.makeSlice 336 (.int .i64 (n:Int)) (.int .i64 (n:Int))).run prog w= .ok (.slice (some ⟨w.heap.size,0,none⟩) n n) (w.alloc (.cells (madeCells #[.bool false] n) 4)):=by
 have:=zc9 336 4 (.bool false) 1 1 underlying336 (by kernel_rfl) (by decide) n hn;rwa[Nat.mul_one] at this
theorem ztK(n:Nat):madeCells #[.bool false] n=(zdv ((List.replicate n sn0).map zbm)).toArray:=by
 refine Array.ext (by simp[madeCells,zdv]) fun i h1 h2=>?_;simp[madeCells,zdv,zbm,sn0,Nat.mod_one]
theorem ztL(n:Nat):madeCells #[.int .i64 0] n=(ints ((List.replicate n sn0).map zbo)).toArray:=by
 refine Array.ext (by simp[madeCells,ints]) fun i h1 h2=>?_;simp[madeCells,ints,zbo,sn0,Nat.mod_one]
theorem zs3(s:Sn)(side:Int)(w:Bool)(h0:0<=side)(h1:side<=1):bits BinOp.or IntKind.i64 (zbo s) (side+1)=zbo (snUp s side w):=by
 obtain⟨l0,l1,a0,a1⟩:=s;have:side=0\/side=1:=by omega
 rcases this with rfl|rfl<;>cases l0<;>cases l1<;>cases w<;>cases a0<;>cases a1<;>decide
theorem zs8{l:List Sn}{v:Nat}{s:Sn}(hs:l[v]?=some s)(side:Int)(w:Bool):(zct l (v:Int) side w).map zbo=(l.map zbo).set v (zbo (snUp s side w))/\(zct l (v:Int) side w).map zbm=(l.map zbm).set v (zbm s||w):=by
 unfold zct;rw[Int.toNat_natCast,List.getD_eq_getElem?_getD,hs,Option.getD_some,List.map_set,List.map_set,zrH];exact⟨rfl,rfl⟩
theorem zqM(l:List Int)(v:Nat)(x:Int):ints (l.set v x)=(ints l).set v (.int .i64 x):=by simp[ints,List.map_set]
theorem zlp(l:List Bool)(v:Nat)(x:Bool):zdv (l.set v x)=(zdv l).set v (.bool x):=by simp[zdv,List.map_set]
theorem znI{w:World}{g:Nat}{t:TypeId}{l:List Sn}{v:Nat}{s:Sn}(h:Blk w g t (ints (l.map zbo)).toArray)(hs:l[v]?=some s):w.cell? ⟨g,v,none⟩=some (.int .i64 (zbo s)):=by
 rw[h.cell];simp[ints,hs]
theorem zmj{w:World}{g:Nat}{t:TypeId}{l:List Sn}{v:Nat}{s:Sn}(h:Blk w g t (zdv (l.map zbm)).toArray)(hs:l[v]?=some s):w.cell? ⟨g,v,none⟩=some (.bool (zbm s)):=by
 rw[h.cell];simp[zdv,hs]
theorem zsq{d:Nat}{x:Int}{k:Nat}(hk:k<d):zbZ (dgF d x) k<(2:Int)^d:=by
 have h:=(zfQ (dg:=dgF d x) (zez d x) k).2
 have:(2:Int)^(k+1)<=2^d:=by
  have h2:(2:Nat)^(k+1)<=2^d:=Nat.pow_le_pow_right (by decide) hk
  exact_mod_cast h2
 omega
theorem zni (d:Nat) (A:Option Addr) (n c B:Nat) (l:List Tl) (w:World) (h:zad w B 2 A n (tls l)) (hB:B <= w.heap.size) (hok:okTr (d:Int) l = true) :
  Calls prog 314 #[.int .i64 (d:Int),.slice A n c] w fun e w'=>∃g1 g2,e= .returned (.tuple #[.slice (some ⟨g1,0,none⟩) (2^d) (2^d),.slice (some ⟨g2,0,none⟩) (2^d) (2^d)])/\Blk w' g1 2 (ints ((zaO d l).map zbo)).toArray/\Blk w' g2 4 (zdv ((zaO d l).map zbm)).toArray/\w.heap.size<=g1/\w.heap.size<=g2/\Below w.heap.size w w':=by
 obtain⟨h1,hd,hl16,hts⟩:=zn0 hok;have hl:=zey h;have HL:=hid hl;have HTS:=hid hts;have HR:=hid h;have hn16:n<=16:=by omega
 have h2d:2^d<=16/\1<=2^d:=by
  have:d=1\/d=2\/d=3\/d=4:=by omega
  rcases this with rfl|rfl|rfl|rfl<;>exact⟨by decide,by decide⟩
 have hEX:=zhO d h1 hd;obtain⟨N,hN⟩:∃N,2^d=N:=⟨_,rfl⟩
 have hNI:((2:Int)^d)=(N:Int):=by rw[<-hN];exact(Int.natCast_pow 2 d).symm
 rw[hNI] at hEX;rw[hN] at h2d;obtain⟨hN1,hN2⟩:=h2d;have HEX:=hid hEX;have HSL:=hid (show(List.replicate N sn0)=zaO d (l.take 0) by rw[<-hN];rfl);have HLN:=hid (show∀ts,(zaO d ts).length=N by intro ts;rw[zeu,hN]);have HNI:=hid hNI;have hmi:=ztj N (by omega);have hmb:=ztM N (by omega);have HMI:=hid (show madeCells #[.int .i64 0] N=(ints ((zaO d (l.take 0)).map zbo)).toArray by rw[ztL,HSL.out]);have HMB:=hid (show madeCells #[.bool false] N=(zdv ((zaO d (l.take 0)).map zbm)).toArray by rw[ztK,HSL.out]);rw[hN];clear h hok hl hts hl16 hN hNI hEX;go_enter func314,ntmps314
 go_wp2_with fail
 refine(HEX.out w).mono ?_;rintro e w2 ⟨rfl,hw⟩;rw[hw];clear hw w2
 go_wp2_with fail
 rw[HMI.out];obtain⟨u,hu⟩:∃y,w.alloc (.cells (ints ((zaO d (l.take 0)).map zbo)).toArray 2)=y:=⟨_,rfl⟩
 have yu:Blk u w.heap.size 2 (ints ((zaO d (l.take 0)).map zbo)).toArray:=by rw[<-hu];exact Blk.new _ _ _
 have bu:Below w.heap.size w u:=by rw[<-hu];exact bal _
 rw[hu];have HYU:=hid yu;have HBU:=hid bu;have HZU:=hid (show w.heap.size<u.heap.size from yu.lt);clear hu yu bu hmi;refine(HEX.out u).mono ?_;rintro e w2 ⟨rfl,hw⟩;rw[hw];clear hw w2
 go_wp2_with fail
 rw[HMB.out];obtain⟨v,hv⟩:∃y,u.alloc (.cells (zdv ((zaO d (l.take 0)).map zbm)).toArray 4)=y:=⟨_,rfl⟩
 have yv:Blk v u.heap.size 4 (zdv ((zaO d (l.take 0)).map zbm)).toArray:=by rw[<-hv];exact Blk.new _ _ _
 have bv:Below u.heap.size u v:=by rw[<-hv];exact bal _
 rw[hv];have HYV:=hid yv;have HYW:=hid (HYU.out.on bv);have HBV:=hid (zac HBU.out bv lr);clear hv yv bv hmb
 go_loopw [8] (fun i wr=>∃(k:Nat),k<=n/\i= .int .i64 (k:Int)/\Blk wr w.heap.size 2 (ints ((zaO d (l.take k)).map zbo)).toArray/\Blk wr u.heap.size 4 (zdv ((zaO d (l.take k)).map zbm)).toArray/\Below w.heap.size w wr) (fun i _=>n-(RowKit.intOf i).toNat)
 case atStart=>exact⟨0,Nat.zero_le _,rfl,HYW.out,HYV.out,HBV.out⟩
 case round=>
  obtain⟨k,hk,rfl,y1,y2,hbel⟩:=hrel;have HY1:=hid y1;have HY2:=hid y2;have HBr:=hid hbel;clear y1 y2 hbel;have hk0:(0:Int)<=k:=by omega
  by_cases hlt:k<n
  ·obtain⟨t,b,off,he,rfl,hb,c0,c1⟩:=zi8 HR.out hlt;have htb:=HTS.out t (List.mem_of_getElem? he);have HSN:=hid (zkv (d:=d) he);have hkn:(k:Int)<n:=by omega
   obtain⟨ta,te⟩:=t;simp only at c0 c1 htb HSN;obtain⟨⟨hta0,hta1⟩,⟨hte0,hte1⟩⟩:=htb;have HC0:=hid c0;have HC1:=hid c1;obtain⟨sl,hsl⟩:∃z,zaO d (l.take k)=z:=⟨_,rfl⟩
   have HSLn:=hid (show sl.length=N by rw[<-hsl,HLN.out]);rw[hsl] at HSN HY1 HY2;clear he hsl c0 c1
   rename World=>wo
   go_wp2_with fail
   go_loopw [9,10] (fun a j wi=>∃(q:Nat),q<=d/\j= .int .i64 (q:Int)/\a= .int .i64 (zbZ (dgF d te) q)/\Blk wi w.heap.size 2 (ints ((zbg (dgF d te) (dgF d ta) sl q).map zbo)).toArray/\Blk wi u.heap.size 4 (zdv ((zbg (dgF d te) (dgF d ta) sl q).map zbm)).toArray/\Below w.heap.size w wi) (fun _ j _=>d-(RowKit.intOf j).toNat)
   case atStart=>exact⟨0,Nat.zero_le _,rfl,rfl,HY1.out,HY2.out,HBr.out⟩
   case round=>
    rename World=>wi
    obtain⟨q,hq,rfl,rfl,y1,y2,hbel⟩:=hrel;have HYa:=hid y1;have HYb:=hid y2;have HBi:=hid hbel;clear y1 y2 hbel;have hq0:(0:Int)<=q:=by omega
    by_cases hqd:q<d
    ·have hqI:(q:Int)<d:=by omega
     have hvb:=zjp (d:=d) (x:=te) (k:=q) (by omega);have hvh:=zsq (d:=d) (x:=te) hqd;rw[HNI.out] at hvh;have HTT:=hid (show zbg (dgF d te) (dgF d ta) sl (q+1)=zct (zbg (dgF d te) (dgF d ta) sl q) (zbZ (dgF d te) q) (dgF d te q) (dgF d te q !=dgF d ta q) from rfl);have HND:=hid (show zbZ (dgF d te) (q+1)=2*zbZ (dgF d te) q+dgF d te q from rfl);have HLT:=hid (show(zbg (dgF d te) (dgF d ta) sl q).length=N by rw[zf8,HSLn.out]);obtain⟨vi,hvi⟩:∃z,zbZ (dgF d te) q=z:=⟨_,rfl⟩
     rw[hvi] at hvb hvh HTT HND⊢;clear hvi;obtain⟨vn,rfl⟩:=Int.eq_ofNat_of_zero_le (show 0<=vi by omega);obtain⟨L,hL⟩:∃z,zbg (dgF d te) (dgF d ta) sl q=z:=⟨_,rfl⟩
     rw[hL] at HYa HYb HTT HLT;clear hL;have hvN:vn<N:=by omega
     obtain⟨s,hs⟩:∃s,L[vn]?=some s:=⟨_,List.getElem?_eq_getElem (by rw[HLT.out];exact hvN)⟩
     have ca:=znI HYa.out hs;have cb:=zmj HYb.out hs;have fa:=HYa.out.frozen vn;have fb:=HYb.out.frozen vn;have c1:=zaa HBi.out HC1.out;have c0:=zaa HBi.out HC0.out;have hdb:=zez d te q;have hda:=zez d ta q;have HDA:=hid (zhN d q ta hd hqd hta0 hta1)
     go_wp2_with fail
     refine(zhN d q te hd hqd hte0 hte1 wi).mono ?_;rintro e w6 ⟨rfl,hw⟩;rw[hw];clear hw w6;obtain⟨x,hx⟩:∃z,dgF d te q=z:=⟨_,rfl⟩
     obtain⟨y,hy⟩:∃z,dgF d ta q=z:=⟨_,rfl⟩
     rw[hx] at hdb HTT HND⊢;rw[hy] at hda HTT HDA;clear hx hy;have hSV:=zs3 s x (x !=y) (by omega) (by omega);have hUP:=zs8 hs x (x !=y);have hbd:=znH s;have HUP:=hid hUP;obtain⟨sv,hsv⟩:∃z,zbo s=z:=⟨_,rfl⟩
     obtain⟨sw,hsw⟩:∃z,zbm s=z:=⟨_,rfl⟩
     rw[hsv] at ca hSV hbd;rw[hsw] at cb HUP;have HSV:=hid hSV;clear hSV hUP hsv hsw hs
     go_upto_region 12 with fail
     rw[HSV.out];obtain⟨z1,hz1⟩:∃zz,wi.setCell ⟨w.heap.size,vn,none⟩ (.int .i64 (zbo (snUp s x (x !=y))))=zz:=⟨_,rfl⟩
     rw[hz1];have HZa:=hid (show Blk z1 w.heap.size 2 (ints ((zct L (vn:Int) x (x !=y)).map zbo)).toArray by rw[<-hz1,HUP.out.1,zqM];have:=HYa.out.set_ vn (.int .i64 (zbo (snUp s x (x !=y))));simpa using this);have HZb:=hid (show Blk z1 u.heap.size 4 (zdv (L.map zbm)).toArray by rw[<-hz1];exact HYb.out.far (show u.heap.size≠w.heap.size by have:=HZU.out;omega) _);have HZ1:=hid (show Below w.heap.size w z1 by rw[<-hz1];exact HBi.out.setCell lr _);have cb1:=by have:=cb;rw[HYb.out.cell,<-HZb.out.cell] at this;exact this
     have fb1:=HZb.out.frozen vn;have c01:=zaa HZ1.out HC0.out;clear hz1 ca cb fa fb c0 c1
     have hwv:IntKind.i64.wrap (2*(vn:Int))=2*(vn:Int):=by
      unfold IntKind.wrap;simp[IntKind.bits,IntKind.signed];omega
     have hwx:IntKind.i64.wrap (2*(vn:Int)+x)=2*(vn:Int)+x:=by
      unfold IntKind.wrap;simp[IntKind.bits,IntKind.signed];omega
     cases sw
     ·go_wp2_with fail
      refine(HDA.out z1).mono ?_;rintro e w7 ⟨rfl,hw⟩;rw[hw];clear hw w7;go_wp2
      go_roundw
      case rel=>
       refine⟨q+1,by omega,by go_num,by rw[HND.out],?_,?_,HZ1.out.setCell (Nat.le_of_lt HZU.out) _⟩
       ·rw[HTT.out];exact HZa.out.far (show w.heap.size≠u.heap.size by have:=HZU.out;omega) _
       ·rw[HTT.out,HUP.out.2,zlp];have:=HZb.out.set_ vn (.bool (false||x !=y));simpa using this
      case measure=>simp[RowKit.intOf];omega
     ·go_wp2
      go_roundw
      case rel=>
       refine⟨q+1,by omega,by go_num,by rw[HND.out],?_,?_,HZ1.out.setCell (Nat.le_of_lt HZU.out) _⟩
       ·rw[HTT.out];exact HZa.out.far (show w.heap.size≠u.heap.size by have:=HZU.out;omega) _
       ·rw[HTT.out,HUP.out.2,zlp];have:=HZb.out.set_ vn (.bool (true||x !=y));simpa using this
      case measure=>simp[RowKit.intOf];omega
    ·obtain rfl:d=q:=by omega
     go_wp2
     go_roundw
     case rel=>exact⟨k+1,by omega,by go_num,by rw[HSN.out];exact HYa.out,by rw[HSN.out];exact HYb.out,HBi.out⟩
     case measure=>simp[RowKit.intOf];omega
  ·obtain rfl:k=n:=by omega
   have HT:=hid (show l.take k=l by rw[<-HL.out,List.take_length]);go_wp2;go_ret2;exact⟨_,_,rfl,by rw[<-HT.out];exact HY1.out,by rw[<-HT.out];exact HY2.out,Nat.le_refl _,Nat.le_of_lt HZU.out,HBr.out⟩
end Go.Proofs.YtjalgpioklcbfaaGreatDoor
