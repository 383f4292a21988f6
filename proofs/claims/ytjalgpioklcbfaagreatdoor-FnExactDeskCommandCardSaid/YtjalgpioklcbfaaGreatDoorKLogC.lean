/- AddEntry, both sides. -/
import Derived.Test.YtjalgpioklcbfaaGreatDoorMgDesksAI
set_option maxHeartbeats 4000000
set_option maxRecDepth 100000
set_option linter.unusedVariables false
set_option linter.unusedSimpArgs false
namespace Go.Proofs.YtjalgpioklcbfaaGreatDoor
open Go.RowKit Go.Lib Go.Proofs.Tryz
def addG(s:ByteArray)(l:List En)(st:Int)(x:En):ByteArray×Int:=
 if okEn x=true then (if dayR l<=x.day then (if 4000<(s++zbc (zbf st (zau x)) x).size then (⟨#[]⟩,5) else (s++zbc (zbf st (zau x)) x,0)) else (⟨#[]⟩,6)) else (⟨#[]⟩,7)
theorem zja{s:ByteArray}{l:List En}{st:Int}{x:En}(h:okEn x=false):addG s l st x=(⟨#[]⟩,7):=by simp[addG,h]
theorem zjb{s:ByteArray}{l:List En}{st:Int}{x:En}(h:okEn x=true)(h2:¬dayR l<=x.day):addG s l st x=(⟨#[]⟩,6):=by simp only[addG,h,h2,if_true,if_false]
theorem zgc{s:ByteArray}{l:List En}{st:Int}{x:En}(h:okEn x=true)(h2:dayR l<=x.day)(h3:4000<(s++zbc (zbf st (zau x)) x).size):addG s l st x=(⟨#[]⟩,5):=by simp only[addG,h,h2,h3,if_true]
theorem ziv{s:ByteArray}{l:List En}{st:Int}{x:En}(h:okEn x=true)(h2:dayR l<=x.day)(h3:¬4000<(s++zbc (zbf st (zau x)) x).size):addG s l st x=(s++zbc (zbf st (zau x)) x,0):=by simp only[addG,h,h2,h3,if_true,if_false]
def zaQ(s:ByteArray)(x:En):ByteArray×Int:=if za9 s=0 then addG s (logR s).list (logR s).stamp x else (⟨#[]⟩,za9 s)
theorem ziZ{s:ByteArray}{x:En}(h:za9 s=0):zaQ s x=addG s (logR s).list (logR s).stamp x:=by simp only[zaQ,h,if_true]
theorem zhw{s:ByteArray}{x:En}(h:za9 s≠0):zaQ s x=(⟨#[]⟩,za9 s):=by simp only[zaQ,h,if_false]
theorem zqw (s:ByteArray) (A:Option Addr) (n d lo hi:Nat) (st v:Int) (l:List En) (x:En) (w:World) (hs:s.size <= 1048576) (hsl:Sl w lo hi 145 3 A n d (ens l)) (hln:l.length <= 1048576) (h0:0 <= st) (h1:st <= 65518) (hx:x.good) (hsm:x.small) (ht:TabP w) :
  Calls prog 159 #[.string s,.agg #[.slice A n d,.int .i64 st,.int .i64 v],.agg #[.int .i64 x.day,.string x.what,.int .i64 x.val]] w fun e w'=>e= .returned (.tuple #[.string (addG s l st x).1,.int .i64 (addG s l st x).2])/\Below w.heap.size w w':=by
 have HT:=hid ht;clear ht;obtain⟨wq,hwq⟩:∃y,(w.alloc (.cells #[.slice A n d,.int .i64 st,.int .i64 v] 150)).alloc (.cells #[.int .i64 x.day,.string x.what,.int .i64 x.val] 145)=y:=⟨_,rfl⟩
 have yo:Blk wq w.heap.size 150 #[.slice A n d,.int .i64 st,.int .i64 v]:=by rw[<-hwq];exact(Blk.new _ _ _).alloc _
 have yx:Blk wq (w.heap.size+1) 145 #[.int .i64 x.day,.string x.what,.int .i64 x.val]:=by
  rw[<-hwq];have:=Blk.new (w.alloc (.cells #[.slice A n d,.int .i64 st,.int .i64 v] 150)) 145 #[.int .i64 x.day,.string x.what,.int .i64 x.val];simpa using this
 have bq:Below w.heap.size w wq:=by rw[<-hwq];exact(bal _).alloc (by simp) _
 have HBq:=hid bq;have HSL:=hid (hsl.on bq).low;have hlnn:l.length=n:=by have:=hsl.len;rw[zcQ] at this;omega
 have o0:wq.cell? ⟨w.heap.size,0,none⟩=some (.slice A n d):=yo.cellAt 0 (by simp);have e0:wq.cell? ⟨w.heap.size+1,0,none⟩=some (.int .i64 x.day):=yx.cellAt 0 (by simp);have e1:wq.cell? ⟨w.heap.size+1,1,none⟩=some (.string x.what):=yx.cellAt 1 (by simp);have e2:wq.cell? ⟨w.heap.size+1,2,none⟩=some (.int .i64 x.val):=yx.cellAt 2 (by simp);clear hsl bq;rcases hok:okEn x with _|_
 ·have HO:=hid (zja (s:=s) (l:=l) (st:=st) hok);go_enter func159,ntmps159
  go_wp2_with fail
  (have hk:=zcj x wq hx hsm)
  rw[hok] at hk;refine hk.mono ?_;rintro e w1 ⟨rfl,b1⟩;clear hk;have HF:=hid (zac HBq.out b1 lr);clear b1 o0 e0 e1 e2 yo yx hwq;go_wp2;go_ret2;rw[HO.out];exact⟨rfl,HF.out⟩
 ·have hws:=zdN hok;have HOK:=hid hok;have hday0:0<=x.day:=(zdX hok).1;by_cases hn0:n=0
  ·have hdle:dayR l<=x.day:=by rw[List.length_eq_zero_iff.1 (hlnn.trans hn0),zjf];exact hday0
   have hg0:decide (0<n)=false:=decide_eq_false (by omega);clear hn0;go_enter func159,ntmps159
   go_wp2_with fail
   (have hk:=zcj x wq hx hsm)
   rw[hok] at hk;refine hk.mono ?_;rintro e w1 ⟨rfl,b1⟩;clear hk;have yo1:=yo.on b1;have yx1:=yx.on b1;have HB1:=hid (zac HBq.out b1 lr);clear b1 o0 e0 e1 e2 yo yx hwq
   go_wp2_with fail
   refine ez (fun W=>Below w.heap.size w W/\Blk W w.heap.size 150 #[.slice A n d,.int .i64 st,.int .i64 v]/\Blk W (w.heap.size+1) 145 #[.int .i64 x.day,.string x.what,.int .i64 x.val]) ?_ fun hHeld=>?_
   ·exact⟨HB1.out.drew,yo1.drew,yx1.drew⟩
   refine dq 0 rfl (h:=dq 1 rfl (h:=dq 2 rfl (h:=dr 3 rfl (h:=dr 4 rfl (h:=dr 5 rfl (h:=dr 6 rfl (h:=dr 7 rfl (h:=?_))))))));refine dr 8 rfl (h:=dr 9 rfl (h:=dr 10 rfl (h:=dr 11 rfl (h:=dr 12 rfl (h:=dq 13 rfl (h:=dq 14 rfl (h:=?_)))))));refine dn ?_;have HB2:=hid hHeld.1;have yo2:=hHeld.2.1;have yx2:=hHeld.2.2;clear hHeld yo1 yx1
   go_wp2_with fail
   obtain⟨sp,hsp⟩:∃y,zbf st (zau x)=y:=⟨_,rfl⟩
   have hspb:=zdt st (zau x);rw[hsp] at hspb;have HSP:=hid hsp;have hs2:(zab (itoa sp)).size<=20:=by rw[zaj];exact zaz (by omega) (by omega)
   have n1:¬(9223372036854775807<(zau x).size+1):=by omega
   have n2:¬(9223372036854775807<(zau x).size+1+(zab (itoa sp)).size):=by omega
   have n3:¬(9223372036854775807<(zau x).size+1+(zab (itoa sp)).size+1):=by omega
   have n4:¬(9223372036854775807<s.size+((zau x).size+1+(zab (itoa sp)).size+1)):=by omega
   clear hsp;refine ez (fun W=>Below w.heap.size w W/\Blk W w.heap.size 150 #[.slice A n d,.int .i64 st,.int .i64 v]/\Blk W (w.heap.size+1) 145 #[.int .i64 x.day,.string x.what,.int .i64 x.val]) ?_ fun hHeld=>?_
   ·exact⟨HB2.out.drew,yo2.drew,yx2.drew⟩
   refine dq 0 rfl (h:=dq 1 rfl (hy:=by intro w hSw;(try dsimp only at hSw);obtain⟨e0,e1,e2⟩:=zaB hSw.2.2;go_simp;try with_reducible rfl) (h:=dq 4 rfl (h:=dq 5 rfl (hy:=by intro w hSw;(try dsimp only at hSw);(have o1:=hSw.2.1.cellAt 1 (by simp));go_simp;try with_reducible rfl) (h:=dq 6 rfl (hy:=by intro w hSw;(try dsimp only at hSw);obtain⟨e0,e1,e2⟩:=zaB hSw.2.2;go_simp;try with_reducible rfl) (h:=?_)))));refine rd 2 rfl fun K hK=>?_;go_simp
   go_at_call 95
   refine(zeF x _ hx hsm (zaw HT.out hHeld.1)).mono ?_;rintro e w5 ⟨rfl,b5⟩
   go_wp2_with fail
   refine ke hK ?_ ?_
   ·exact⟨zac hHeld.1 b5 lr,hHeld.2.1.on b5,hHeld.2.2.on b5⟩
   clear hK K hHeld;intro hHeld;refine dq 3 rfl (h:=?_);refine rd 7 rfl fun K hK=>?_;go_simp
   go_at_call 162
   (have hst:=zdA st x _ hx hsm h0 h1 (zaw HT.out hHeld.1))
   rw[HSP.out] at hst;refine hst.mono ?_;rintro e w6 ⟨rfl,b6⟩;clear hst
   go_wp2_with fail
   refine ke hK ?_ ?_
   ·exact⟨zac hHeld.1 b6 lr,hHeld.2.1.on b6,hHeld.2.2.on b6⟩
   clear hK K hHeld;intro hHeld;refine rd 8 rfl fun K hK=>?_;go_simp
   go_at_call 38
   refine(zaL sp _ (by omega) (by omega) (zaw HT.out hHeld.1)).mono ?_;rintro e w7 ⟨rfl,b7⟩
   go_wp2_with fail
   refine ke hK ?_ ?_
   ·exact⟨zac hHeld.1 b7 lr,hHeld.2.1.on b7,hHeld.2.2.on b7⟩
   clear hK K hHeld;intro hHeld;refine dq 9 rfl (h:=dq 10 rfl (h:=dq 11 rfl (h:=dq 12 rfl (h:=?_))));refine dn ?_;have HF:=hid hHeld.1;clear hHeld yo2 yx2
   have hle:(s++zbc sp x).size=s.size+((zau x).size+1+(zab (itoa sp)).size+1):=by
    rw[ByteArray.size_append];simp only[zbc,ByteArray.size_append]
    rfl
   by_cases hfl:4000<(s++zbc sp x).size
   ·have hfi2:(4000:Int)<(s.size:Int)+(((zau x).size:Int)+1+((zab (itoa sp)).size:Int)+1):=by omega
    have HO:=hid (zgc HOK.out hdle (by rw[HSP.out];exact hfl));clear hle hfl;go_wp2;go_ret2;rw[HO.out];exact⟨rfl,HF.out⟩
   ·have hfi2:¬((4000:Int)<(s.size:Int)+(((zau x).size:Int)+1+((zab (itoa sp)).size:Int)+1)):=by omega
    have HO:=hid (ziv HOK.out hdle (by rw[HSP.out];exact hfl));clear hle hfl;go_wp2;go_ret2;rw[HO.out,HSP.out];exact⟨rfl,HF.out⟩
  ·obtain⟨j,rfl⟩:∃j,n=j+1:=⟨n-1,by omega⟩
   obtain⟨y,lb,loff,hy,rfl,hlb,hlast,_,_⟩:=zgN (k:=j) (HSL.out.reads lr) (by omega)
   have hlo:loff=0:=by
    rcases HSL.out.form with ⟨h1,_⟩|⟨g1,cur,h1,_⟩
    ·cases h1
    ·injection h1 with h1;injection h1
   subst hlo;rw[Nat.zero_add] at hlast;have hj0:(0:Int)<=j:=by omega
   have hj1:(j:Int)<(j:Int)+1:=by omega
   have hjw:IntKind.i64.wrap (j:Int)=j:=by
    unfold IntKind.wrap;simp[IntKind.bits,IntKind.signed];omega
   have hdr:dayR l=y.day:=zh7 (by rw[hlnn];exact hy);clear hy;by_cases hdle:dayR l<=x.day
   ·have hg1:decide (x.day<y.day)=false:=decide_eq_false (by omega);clear hdr;go_enter func159,ntmps159
    go_wp2_with fail
    (have hk:=zcj x wq hx hsm)
    rw[hok] at hk;refine hk.mono ?_;rintro e w1 ⟨rfl,b1⟩;clear hk;have yo1:=yo.on b1;have yx1:=yx.on b1;have HB1:=hid (zac HBq.out b1 lr);have l1:=zaa b1 hlast;clear b1 o0 e0 e1 e2 yo yx hwq
    go_wp2_with fail
    refine ez (fun W=>Below w.heap.size w W/\Blk W w.heap.size 150 #[.slice (some ⟨lb,0,none⟩) (j+1) d,.int .i64 st,.int .i64 v]/\Blk W (w.heap.size+1) 145 #[.int .i64 x.day,.string x.what,.int .i64 x.val]/\W.cell? ⟨lb,j*3,none⟩=some (.int .i64 y.day)) ?_ fun hHeld=>?_
    ·exact⟨HB1.out.drew,yo1.drew,yx1.drew,l1⟩
    refine dq 0 rfl (h:=dq 1 rfl (h:=dq 2 rfl (h:=dq 3 rfl (h:=dq 4 rfl (hy:=by intro w hSw;(try dsimp only at hSw);(have o0:=hSw.2.1.cellAt 0 (by simp));go_simp;try with_reducible rfl) (h:=dq 5 rfl (h:=dq 6 rfl (h:=dq 7 rfl (h:=?_))))))));refine dq 8 rfl (h:=dq 9 rfl (h:=dq 10 rfl (h:=dq 11 rfl (hy:=by intro w hSw;(try dsimp only at hSw);(have e0:=hSw.2.2.1.cellAt 0 (by simp));go_simp;try with_reducible rfl) (h:=dq 12 rfl (h:=dq 13 rfl (h:=dq 14 rfl (h:=?_)))))));refine dn ?_;have HB2:=hid hHeld.1;have yo2:=hHeld.2.1;have yx2:=hHeld.2.2.1;clear hHeld yo1 yx1
    go_wp2_with fail
    obtain⟨sp,hsp⟩:∃y,zbf st (zau x)=y:=⟨_,rfl⟩
    have hspb:=zdt st (zau x);rw[hsp] at hspb;have HSP:=hid hsp;have hs2:(zab (itoa sp)).size<=20:=by rw[zaj];exact zaz (by omega) (by omega)
    have n1:¬(9223372036854775807<(zau x).size+1):=by omega
    have n2:¬(9223372036854775807<(zau x).size+1+(zab (itoa sp)).size):=by omega
    have n3:¬(9223372036854775807<(zau x).size+1+(zab (itoa sp)).size+1):=by omega
    have n4:¬(9223372036854775807<s.size+((zau x).size+1+(zab (itoa sp)).size+1)):=by omega
    clear hsp;refine ez (fun W=>Below w.heap.size w W/\Blk W w.heap.size 150 #[.slice (some ⟨lb,0,none⟩) (j+1) d,.int .i64 st,.int .i64 v]/\Blk W (w.heap.size+1) 145 #[.int .i64 x.day,.string x.what,.int .i64 x.val]) ?_ fun hHeld=>?_
    ·exact⟨HB2.out.drew,yo2.drew,yx2.drew⟩
    refine dq 0 rfl (h:=dq 1 rfl (hy:=by intro w hSw;(try dsimp only at hSw);obtain⟨e0,e1,e2⟩:=zaB hSw.2.2;go_simp;try with_reducible rfl) (h:=dq 4 rfl (h:=dq 5 rfl (hy:=by intro w hSw;(try dsimp only at hSw);(have o1:=hSw.2.1.cellAt 1 (by simp));go_simp;try with_reducible rfl) (h:=dq 6 rfl (hy:=by intro w hSw;(try dsimp only at hSw);obtain⟨e0,e1,e2⟩:=zaB hSw.2.2;go_simp;try with_reducible rfl) (h:=?_)))));refine rd 2 rfl fun K hK=>?_;go_simp
    go_at_call 95
    refine(zeF x _ hx hsm (zaw HT.out hHeld.1)).mono ?_;rintro e w5 ⟨rfl,b5⟩
    go_wp2_with fail
    refine ke hK ?_ ?_
    ·exact⟨zac hHeld.1 b5 lr,hHeld.2.1.on b5,hHeld.2.2.on b5⟩
    clear hK K hHeld;intro hHeld;refine dq 3 rfl (h:=?_);refine rd 7 rfl fun K hK=>?_;go_simp
    go_at_call 162
    (have hst:=zdA st x _ hx hsm h0 h1 (zaw HT.out hHeld.1))
    rw[HSP.out] at hst;refine hst.mono ?_;rintro e w6 ⟨rfl,b6⟩;clear hst
    go_wp2_with fail
    refine ke hK ?_ ?_
    ·exact⟨zac hHeld.1 b6 lr,hHeld.2.1.on b6,hHeld.2.2.on b6⟩
    clear hK K hHeld;intro hHeld;refine rd 8 rfl fun K hK=>?_;go_simp
    go_at_call 38
    refine(zaL sp _ (by omega) (by omega) (zaw HT.out hHeld.1)).mono ?_;rintro e w7 ⟨rfl,b7⟩
    go_wp2_with fail
    refine ke hK ?_ ?_
    ·exact⟨zac hHeld.1 b7 lr,hHeld.2.1.on b7,hHeld.2.2.on b7⟩
    clear hK K hHeld;intro hHeld;refine dq 9 rfl (h:=dq 10 rfl (h:=dq 11 rfl (h:=dq 12 rfl (h:=?_))));refine dn ?_;have HF:=hid hHeld.1;clear hHeld yo2 yx2
    have hle:(s++zbc sp x).size=s.size+((zau x).size+1+(zab (itoa sp)).size+1):=by
     rw[ByteArray.size_append];simp only[zbc,ByteArray.size_append]
     rfl
    by_cases hfl:4000<(s++zbc sp x).size
    ·have hfi2:(4000:Int)<(s.size:Int)+(((zau x).size:Int)+1+((zab (itoa sp)).size:Int)+1):=by omega
     have HO:=hid (zgc HOK.out hdle (by rw[HSP.out];exact hfl));clear hle hfl;go_wp2;go_ret2;rw[HO.out];exact⟨rfl,HF.out⟩
    ·have hfi2:¬((4000:Int)<(s.size:Int)+(((zau x).size:Int)+1+((zab (itoa sp)).size:Int)+1)):=by omega
     have HO:=hid (ziv HOK.out hdle (by rw[HSP.out];exact hfl));clear hle hfl;go_wp2;go_ret2;rw[HO.out,HSP.out];exact⟨rfl,HF.out⟩
   ·have hg1:decide (x.day<y.day)=true:=decide_eq_true (by omega);have HO:=hid (zjb (s:=s) (st:=st) hok hdle);clear hdr;go_enter func159,ntmps159
    go_wp2_with fail
    (have hk:=zcj x wq hx hsm)
    rw[hok] at hk;refine hk.mono ?_;rintro e w1 ⟨rfl,b1⟩;clear hk;have yo1:=yo.on b1;have yx1:=yx.on b1;have HB1:=hid (zac HBq.out b1 lr);have l1:=zaa b1 hlast;clear b1 o0 e0 e1 e2 yo yx hwq
    go_wp2_with fail
    refine ez (fun W=>Below w.heap.size w W/\Blk W w.heap.size 150 #[.slice (some ⟨lb,0,none⟩) (j+1) d,.int .i64 st,.int .i64 v]/\Blk W (w.heap.size+1) 145 #[.int .i64 x.day,.string x.what,.int .i64 x.val]/\W.cell? ⟨lb,j*3,none⟩=some (.int .i64 y.day)) ?_ fun hHeld=>?_
    ·exact⟨HB1.out.drew,yo1.drew,yx1.drew,l1⟩
    refine dq 0 rfl (h:=dq 1 rfl (h:=dq 2 rfl (h:=dq 3 rfl (h:=dq 4 rfl (hy:=by intro w hSw;(try dsimp only at hSw);(have o0:=hSw.2.1.cellAt 0 (by simp));go_simp;try with_reducible rfl) (h:=dq 5 rfl (h:=dq 6 rfl (h:=dq 7 rfl (h:=?_))))))));refine dq 8 rfl (h:=dq 9 rfl (h:=dq 10 rfl (h:=dq 11 rfl (hy:=by intro w hSw;(try dsimp only at hSw);(have e0:=hSw.2.2.1.cellAt 0 (by simp));go_simp;try with_reducible rfl) (h:=dq 12 rfl (h:=dq 13 rfl (h:=dq 14 rfl (h:=?_)))))));refine dn ?_;have HF:=hid hHeld.1;clear hHeld;go_wp2;go_ret2;rw[HO.out];exact⟨rfl,HF.out⟩
theorem zji (s:ByteArray) (x:En) (m:Int) (w:World) (hs:s.size <= 1048576) (hx:x.good) (hsm:x.small) (hm:w.cell? ⟨1,0,none⟩ = some (.int .i64 m)) (ht:TabP w) (hv:SynP w) :
  Calls prog 91 #[.string s,.agg #[.int .i64 x.day,.string x.what,.int .i64 x.val]] w fun e w'=>e= .returned (.tuple #[.string (zaQ s x).1,.int .i64 (zaQ s x).2])/\Below w.heap.size w w':=by
 have b0:Below w.heap.size w (w.alloc (.cells #[.int .i64 x.day,.string x.what,.int .i64 x.val] 145)):=bal _;obtain⟨wx,hwx⟩:∃y,w.alloc (.cells #[.int .i64 x.day,.string x.what,.int .i64 x.val] 145)=y:=⟨_,rfl⟩
 have yx:Blk wx w.heap.size 145 #[.int .i64 x.day,.string x.what,.int .i64 x.val]:=by rw[<-hwx];exact Blk.new _ _ _
 rw[hwx] at b0;have HC:=hid (zgw s m wx hs (zaa b0 hm) (zaw ht b0) (zbk hv b0));have HT:=hid ht;have HBx:=hid b0;clear ht hv hm b0;by_cases hc:za9 s=0
 ·have HO:=hid (ziZ (x:=x) hc);have HR:=zgJ hc;have hlen:=zek hc;have hrok:=zeM s;go_enter func91,ntmps91
  go_wp2_with fail
  refine HC.out.mono ?_;rintro e w1 ⟨A,n,d,rfl,hsl,b1⟩;obtain⟨wq,hwq⟩:∃y,w1.alloc (.cells #[.slice A n d,.int .i64 (zaH s).stamp,.int .i64 ((zaH s).at_:Int)] 150)=y:=⟨_,rfl⟩
  have bq:Below w1.heap.size w1 wq:=by rw[<-hwq];exact bal _
  have yb:Blk wq w1.heap.size 150 #[.slice A n d,.int .i64 (zaH s).stamp,.int .i64 ((zaH s).at_:Int)]:=by rw[<-hwq];exact Blk.new _ _ _
  have HB:=hid (zac (zac HBx.out b1 lr) bq lr);have yx1:=(yx.on b1).on bq;have hsq:=(hsl.on bq).low;have e0:wq.cell? ⟨w.heap.size,0,none⟩=some (.int .i64 x.day):=yx1.cellAt 0 (by simp);have e1:wq.cell? ⟨w.heap.size,1,none⟩=some (.string x.what):=yx1.cellAt 1 (by simp);have e2:wq.cell? ⟨w.heap.size,2,none⟩=some (.int .i64 x.val):=yx1.cellAt 2 (by simp);have o0:wq.cell? ⟨w1.heap.size,0,none⟩=some (.slice A n d):=yb.cellAt 0 (by simp);have o1:wq.cell? ⟨w1.heap.size,1,none⟩=some (.int .i64 (zaH s).stamp):=yb.cellAt 1 (by simp);have o2:wq.cell? ⟨w1.heap.size,2,none⟩=some (.int .i64 ((zaH s).at_:Int)):=yb.cellAt 2 (by simp);rw[hc];have HS:=hid hsq;have HRR:=hid HR
  clear yx yx1 yb hsl hsq b1 bq HR hc hwx
  go_wp2_with fail
  refine(zqw s A n d _ _ (zaH s).stamp ((zaH s).at_:Int) (zaH s).list x _ hs HS.out (by rw[HRR.out];omega) (by rw[HRR.out];exact hrok.stamp0) (by rw[HRR.out];exact hrok.stamp1) hx hsm (zaw HT.out HB.out)).mono ?_;rintro e w2 ⟨rfl,b2⟩;have HF:=hid (zac HB.out b2 lr);clear b2 e0 e1 e2 o0 o1 o2 hwq;go_wp2;go_ret2;rw[HO.out,HRR.out];exact⟨rfl,HF.out⟩
 ·have HO:=hid (zhw (x:=x) hc);go_enter func91,ntmps91
  go_wp2_with fail
  refine HC.out.mono ?_;rintro e w1 ⟨A,n,d,rfl,hsl,b1⟩;obtain⟨wq,hwq⟩:∃y,w1.alloc (.cells #[.slice A n d,.int .i64 (zaH s).stamp,.int .i64 ((zaH s).at_:Int)] 150)=y:=⟨_,rfl⟩
  have bq:Below w1.heap.size w1 wq:=by rw[<-hwq];exact bal _
  have yb:Blk wq w1.heap.size 150 #[.slice A n d,.int .i64 (zaH s).stamp,.int .i64 ((zaH s).at_:Int)]:=by rw[<-hwq];exact Blk.new _ _ _
  have HB:=hid (zac (zac HBx.out b1 lr) bq lr);clear yx yb hsl b1 bq hwx;obtain⟨v,hv⟩:∃v,za9 s=v:=⟨_,rfl⟩
  rw[hv] at hc HO⊢;have hq:(v !=0)=true:=by simpa using hc
  clear hc hv;go_wp2;go_ret2;rw[HO.out];exact⟨rfl,HB.out⟩
theorem zjv (s:ByteArray) (x:En) (w:World) (hs:s.size <= 1048576) (hx:x.good) (hsm:x.small) :
  Calls prog 171 #[.string s,.agg #[.int .i64 x.day,.string x.what,.int .i64 x.val]] w fun e w'=>e= .returned (.tuple #[.string (zaQ s x).1,.int .i64 (zaQ s x).2])/\Below w.heap.size w w':=by
 have b0:Below w.heap.size w (w.alloc (.cells #[.int .i64 x.day,.string x.what,.int .i64 x.val] 145)):=bal _;have hz0:(w.alloc (.cells #[.int .i64 x.day,.string x.what,.int .i64 x.val] 145)).heap.size=w.heap.size+1:=by simp
 obtain⟨wx,hwx⟩:∃y,w.alloc (.cells #[.int .i64 x.day,.string x.what,.int .i64 x.val] 145)=y:=⟨_,rfl⟩
 have yx:Blk wx w.heap.size 145 #[.int .i64 x.day,.string x.what,.int .i64 x.val]:=by rw[<-hwx];exact Blk.new _ _ _
 rw[hwx] at b0 hz0;have HBx:=hid b0;have HZ:=hid hz0;have hxs:x.what.size<=9223372036854775807:=hx.2.1;clear b0 hz0;by_cases hc:za9 s=0
 ·have HO1:=hid (ziZ (x:=x) hc);have hrok:=zeM s;have hat:=zi5 s;go_enter func171,ntmps171
  go_wp2_with fail
  refine(zdb s _ hs).mono ?_;rintro e w1 ⟨g,rfl,hrec,b1⟩;have hr1:=hrec hc;rw[HZ.out] at hr1;rw[hc];have y1:=yx.on b1;have HB1:=hid (zac HBx.out b1 lr);have HR1:=hid hr1;clear hrec hr1 b1 yx hwx hc;rcases hok:okEn x with _|_
  ·have HO:=hid (zja (s:=s) (l:=(logR s).list) (st:=(logR s).stamp) hok)
   go_wp2_with fail
   (have hk:=zes x w.heap.size w1 hxs (y1.cellAt 0 (by simp)) (y1.cellAt 1 (by simp)) (y1.cellAt 2 (by simp)))
   rw[hok] at hk;refine hk.mono ?_;rintro e w2 ⟨rfl,rfl⟩;clear hk y1;go_wp2;go_ret2;rw[HO1.out,HO.out];exact⟨rfl,HB1.out⟩
  ·have HOK:=hid hok;have hws:=zdN hok;obtain⟨sp,hsp⟩:∃y,zbf (logR s).stamp (zau x)=y:=⟨_,rfl⟩
   have hspb:=zdt (logR s).stamp (zau x);rw[hsp] at hspb;have HSP:=hid hsp;have hlb:=zpQ hok hspb.1 hspb.2;have n4:¬(9223372036854775807<s.size+(zbc sp x).size):=by omega
   clear hsp;by_cases hdle:dayR (logR s).list<=x.day
   ·have hg1:decide (x.day<dayR (logR s).list)=false:=decide_eq_false (by omega);have HDL:=hid hdle;clear hdle
    go_wp2_with fail
    (have hk:=zes x w.heap.size w1 hxs (y1.cellAt 0 (by simp)) (y1.cellAt 1 (by simp)) (y1.cellAt 2 (by simp)))
    rw[hok] at hk;refine hk.mono ?_;rintro e w2 ⟨rfl,rfl⟩;clear hk
    go_wp2_with fail
    refine ez (fun W=>Below w.heap.size w W/\Blk W w.heap.size 145 #[.int .i64 x.day,.string x.what,.int .i64 x.val]/\LRec (w.heap.size+1) g s W (logR s)) ?_ fun hHeld=>?_
    ·exact⟨HB1.out.drew,y1.drew,HR1.out⟩
    refine dq 0 rfl (h:=dq 1 rfl (hy:=by intro w hSw;(try dsimp only at hSw);(have e0:=hSw.2.1.cellAt 0 (by simp));obtain⟨A,n,d,yr,_⟩:=hSw.2.2;go_simp;try with_reducible rfl) (h:=dq 2 rfl (h:=?_)));refine rd 3 rfl fun K hK=>?_;go_simp
    go_at_call 231
    refine(zeW (w.heap.size+1) g s (logR s) _ hHeld.2.2 hrok (by omega)).mono ?_;rintro e w6 ⟨rfl,m6,rfl⟩
    go_wp2_with fail
    refine ke hK ?_ ?_
    ·exact⟨zan HB1.out _,y1.drewN _,HR1.out⟩
    clear hK K hHeld;intro hHeld;refine dq 4 rfl (h:=?_);refine dn ?_;have HB2:=hid hHeld.1;have y2:=hHeld.2.1;have hr2:=hHeld.2.2;clear hHeld y1
    go_wp2_with fail
    refine ez (fun W=>Below w.heap.size w W/\Blk W w.heap.size 145 #[.int .i64 x.day,.string x.what,.int .i64 x.val]/\LRec (w.heap.size+1) g s W (logR s)) ?_ fun hHeld=>?_
    ·exact⟨HB2.out.drew,y2.drew,hr2⟩
    refine dq 0 rfl (h:=dq 1 rfl (h:=dq 2 rfl (h:=dq 3 rfl (h:=dq 4 rfl (hy:=by intro w hSw;(try dsimp only at hSw);obtain⟨A,n,d,yr,_⟩:=hSw.2.2;(have r2:=yr.cellAt 2 (by simp));go_simp;try with_reducible rfl) (h:=?_)))));refine rd 5 rfl fun K hK=>?_;go_simp
    go_at_call 176
    refine(zfL x w.heap.size _ hx hsm (hHeld.2.1.cellAt 0 (by simp)) (hHeld.2.1.cellAt 1 (by simp)) (hHeld.2.1.cellAt 2 (by simp))).mono ?_;rintro e w7 ⟨rfl,b7⟩
    go_wp2_with fail
    refine ke hK ?_ ?_
    ·exact⟨zac hHeld.1 b7 lr,hHeld.2.1.on b7,hHeld.2.2.on b7⟩
    clear hK K hHeld;intro hHeld;refine rd 6 rfl fun K hK=>?_;go_simp
    go_at_call 233
    (have hst:=zhQ (logR s).stamp (zau x) w7 hrok.stamp0 hrok.stamp1 (by omega))
    rw[HSP.out] at hst;refine hst.mono ?_;rintro e w8 ⟨rfl,rfl⟩;clear hst
    go_wp2_with fail
    refine ke hK ?_ ?_
    ·exact hHeld
    clear hK K hHeld;intro hHeld;refine rd 7 rfl fun K hK=>?_;go_simp
    go_at_call 232
    refine(zgv sp x w.heap.size _ HOK.out hspb.1 hspb.2 (hHeld.2.1.cellAt 0 (by simp)) (hHeld.2.1.cellAt 1 (by simp)) (hHeld.2.1.cellAt 2 (by simp))).mono ?_;rintro e w9 ⟨rfl,b9⟩
    go_wp2_with fail
    refine ke hK ?_ ?_
    ·exact⟨zac hHeld.1 b9 lr,hHeld.2.1.on b9,hHeld.2.2.on b9⟩
    clear hK K hHeld;intro hHeld;refine dq 8 rfl (h:=dq 9 rfl (h:=?_));refine dn ?_;have HF:=hid hHeld.1;clear hHeld y2 hr2;by_cases hfl:4000<(s++zbc sp x).size
    ·have hfi:(4000:Int)<(s.size:Int)+((zbc sp x).size:Int):=by rw[ByteArray.size_append] at hfl;omega
     have HO:=hid (zgc HOK.out HDL.out (by rw[HSP.out];exact hfl));clear hfl;go_wp2;go_ret2;rw[HO1.out,HO.out];exact⟨rfl,HF.out⟩
    ·have hfi:¬((4000:Int)<(s.size:Int)+((zbc sp x).size:Int)):=by rw[ByteArray.size_append] at hfl;omega
     have HO:=hid (ziv HOK.out HDL.out (by rw[HSP.out];exact hfl));clear hfl;go_wp2;go_ret2;rw[HO1.out,HO.out,HSP.out];exact⟨rfl,HF.out⟩
   ·have hg1:decide (x.day<dayR (logR s).list)=true:=decide_eq_true (by omega);have HO:=hid (zjb (s:=s) (st:=(logR s).stamp) hok hdle);clear hdle
    go_wp2_with fail
    (have hk:=zes x w.heap.size w1 hxs (y1.cellAt 0 (by simp)) (y1.cellAt 1 (by simp)) (y1.cellAt 2 (by simp)))
    rw[hok] at hk;refine hk.mono ?_;rintro e w2 ⟨rfl,rfl⟩;clear hk
    go_wp2_with fail
    refine ez (fun W=>Below w.heap.size w W/\Blk W w.heap.size 145 #[.int .i64 x.day,.string x.what,.int .i64 x.val]/\LRec (w.heap.size+1) g s W (logR s)) ?_ fun hHeld=>?_
    ·exact⟨HB1.out.drew,y1.drew,HR1.out⟩
    refine dq 0 rfl (h:=dq 1 rfl (hy:=by intro w hSw;(try dsimp only at hSw);(have e0:=hSw.2.1.cellAt 0 (by simp));obtain⟨A,n,d,yr,_⟩:=hSw.2.2;go_simp;try with_reducible rfl) (h:=dq 2 rfl (h:=?_)));refine rd 3 rfl fun K hK=>?_;go_simp
    go_at_call 231
    refine(zeW (w.heap.size+1) g s (logR s) _ hHeld.2.2 hrok (by omega)).mono ?_;rintro e w6 ⟨rfl,m6,rfl⟩
    go_wp2_with fail
    refine ke hK ?_ ?_
    ·exact⟨zan HB1.out _,y1.drewN _,HR1.out⟩
    clear hK K hHeld;intro hHeld;refine dq 4 rfl (h:=?_);refine dn ?_;have HF:=hid hHeld.1;clear hHeld y1;go_wp2;go_ret2;rw[HO1.out,HO.out];exact⟨rfl,HF.out⟩
 ·have HO:=hid (zhw (x:=x) hc);go_enter func171,ntmps171
  go_wp2_with fail
  refine(zdb s _ hs).mono ?_;rintro e w1 ⟨g,rfl,hrec,b1⟩;have HB:=hid (zac HBx.out b1 lr);clear hrec b1 yx hwx;obtain⟨v,hv⟩:∃v,za9 s=v:=⟨_,rfl⟩
  rw[hv] at hc HO⊢;have hq:(v !=0)=true:=by simpa using hc
  clear hc hv;go_wp2;go_ret2;rw[HO.out];exact⟨rfl,HB.out⟩
end Go.Proofs.YtjalgpioklcbfaaGreatDoor
