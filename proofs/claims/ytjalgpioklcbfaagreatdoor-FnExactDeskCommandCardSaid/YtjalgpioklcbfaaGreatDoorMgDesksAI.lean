/- Steps of the proof. -/
import Derived.Test.YtjalgpioklcbfaaGreatDoorKLine
set_option maxHeartbeats 4000000
set_option maxRecDepth 100000
set_option linter.unusedVariables false
set_option linter.unusedSimpArgs false
namespace Go.Proofs.YtjalgpioklcbfaaGreatDoor
section
open Go.RowKit Go.Lib Go.Proofs.Tryz
theorem zbu:(prog.info? 9).map (fun i=>(i.zero,i.size,i.bytes))=some (some (.string ⟨#[]⟩),1,16):=by kernel_rfl
theorem zhf(l:List ByteArray)(x:ByteArray):strs (l++ [x])=strs l++ [.string x]:=by simp[strs]
theorem ztP(t:Tb):zab (itoa t.from_)++⟨#[62]⟩++zab (itoa t.to_)++⟨#[42]⟩++zab (itoa t.len)=zab (tbL t):=by
 rw[show(⟨#[62]⟩:ByteArray)=zab [62] from rfl,show(⟨#[42]⟩:ByteArray)=zab [42] from rfl];simp only[zee,tbL]
 congr 1
 simp
theorem zt8{t:Tb}(h:zbe t.from_/\zbe t.to_/\zbe t.len):(tbL t).length<=62:=by
 unfold zbe at h;have h1:=zaz (n:=t.from_) (by omega) (by omega);have h2:=zaz (n:=t.to_) (by omega) (by omega);have h3:=zaz (n:=t.len) (by omega) (by omega);simp only[tbL,List.length_append,List.length_cons];omega
def ntW(x:Nt)(k:Nat):List ByteArray:=zab (itoa x.sta++ [58])::(x.tubes.take k).map fun t=>zab (tbL t)
theorem zsr{x:Nt}{k:Nat}{t:Tb}(h:x.tubes[k]?=some t):ntW x (k+1)=ntW x k++ [zab (tbL t)]:=by
 simp[ntW,List.take_add_one,h]
theorem ztn(x:Nt):(ntW x x.tubes.length).map (fun s=>s.data.toList)=(itoa x.sta++ [58])::x.tubes.map tbL:=by
 simp[ntW,zaf,Function.comp_def]
theorem zss(x:Nt):strs (ntW x 0)=[.string (zab (itoa x.sta)++⟨#[58]⟩)]:=by
 rw[show(⟨#[58]⟩:ByteArray)=zab [58] from rfl,zee];simp[ntW,strs]
theorem zrc{x:Nt}(h:okNt x=true):(zaF 32 ((itoa x.sta++ [58])::x.tubes.map tbL)).length<=140737488355328:=by
 obtain⟨h1,h2,h3⟩:=zd2 h
 have:=zgj 32 62 ((itoa x.sta++ [58])::x.tubes.map tbL) (fun y hy=>by
  rw[List.mem_cons,List.mem_map] at hy;rcases hy with rfl|⟨t,ht,rfl⟩
  ·unfold zbe at h1;have:=zaz (n:=x.sta) (by omega) (by omega);simp;omega
  ·exact zt8 (h3 t ht))
 simp only[List.length_cons,List.length_map] at this;omega
theorem ziO (A:Option Addr) (n c B:Nat) (x:Nt) (w:World) (h:zad w B 3 A n (tbs x.tubes)) (hB:B <= w.heap.size) (hn:n <= 1048576) (ht:TabP w) :
  Calls prog 67 #[.agg #[.int .i64 x.sta,.slice A n c]] w fun e w'=>e= .returned (.string (zab (ntT x)))/\Below w.heap.size w w':=by
 have hl:=zbW h;obtain⟨W,hW,k0,hb⟩:∃W,W=w.alloc (.cells #[.int .i64 x.sta,.slice A n c] 28)/\Blk W w.heap.size 28 #[.int .i64 x.sta,.slice A n c]/\Below w.heap.size w W:=⟨_,rfl,Blk.new _ _ _,bal _⟩
 have HW:=hid hW;have HB:=hid hb;have HR:=hid (h.on hB hb);have HR0:=hid h;have HTW:=hid ht;have HBW:=hid (Nat.le_trans hB hb.size);have c0:=k0.cellAt 0 (by simp);have c1:=k0.cellAt 1 (by simp);simp only[ly] at c0 c1;have HL:=hid hl;have HT:=hid (zaw ht hb);clear hW hb k0 h hl ht;rcases ho:okNt x with _|_
 ·have HO:=hid (show ntT x=[] by simp[ntT,ho]);go_enter func67,ntmps67
  go_upto_region 1 with fail
  rw[<-HW.out]
  go_wp2_with fail
  refine(zdy A n c B x W HR.out HBW.out hn).mono ?_;rintro e w1 ⟨rfl,b1⟩;rw[ho]
  go_wp2_with fail
  go_ret;exact⟨by rw[HO.out];rfl,zac HB.out b1 lr⟩
 ·obtain⟨hs,h24,hsm⟩:=zd2 ho;have HOK:=hid ho;have HSM:=hid hsm;have hs0:-9223372036854775808<=x.sta:=by unfold zbe at hs;omega
  have hs1:x.sta<=9223372036854775807:=by unfold zbe at hs;omega
  have hn24:n<=24:=by rw[<-HL.out];exact h24
  have hz1:(zab (itoa x.sta)).size<=20:=by rw[zaj];exact zaz (by omega) (by omega)
  have n1:¬(9223372036854775807<(zab (itoa x.sta)).size+1):=by omega
  clear hs hsm h24;go_enter func67,ntmps67
  go_upto_region 1 with fail
  rw[<-HW.out]
  go_wp2_with fail
  refine(zdy A n c B x W HR.out HBW.out hn).mono ?_;rintro e w1 ⟨rfl,b1⟩;rw[ho];have HB1:=hid (zac HB.out b1 lr);have HR1:=hid (HR.out.on HBW.out b1);have d0:=zaa b1 c0;have d1:=zaa b1 c1;have HT1:=hid (zaw HT.out b1);clear c0 c1 b1 ho
  go_wp2_with fail
  refine(zaL x.sta _ hs0 hs1 HT1.out).mono ?_;rintro e w2 ⟨rfl,b2⟩;have HB2:=hid (zac HB1.out b2 lr);have HR2:=hid (HR1.out.on (Nat.le_trans hB HB1.out.size) b2);have e1:=zaa b2 d1;clear d0 d1 b2;have HN:=hid (HL.out);have HR3:=hid (HR2.out);have hnB:w.heap.size<=w2.heap.size:=HB2.out.size
  go_upto_region 4 with fail
  obtain⟨w3,hw3⟩:∃y,w2.alloc (.cells #[.string (zab (itoa x.sta)++⟨#[58]⟩)] 9)=y:=⟨_,rfl⟩
  have b3:Below w2.heap.size w2 w3:=by rw[<-hw3];exact bal _
  have hsl3:Sl w3 w.heap.size w3.heap.size 9 1 (some ⟨w2.heap.size,0,none⟩) 1 1 (strs (ntW x 0)):=by
   rw[zss,<-hw3];exact Sl.of_blk (Blk.new _ _ _) hnB (by simp) rfl (by decide)
  rw[hw3];have f1:=zaa b3 e1;have HB3:=hid (zac HB2.out b3 lr);clear hw3 b3 e1
  go_wp2_with fail
  go_loopw [3,17] (fun o i wr=>∃(k:Nat) (A':Option Addr) (c':Nat),k<=n/\i= .int .i64 k/\o= .slice A' (k+1) c'/\Sl wr w.heap.size wr.heap.size 9 1 A' (k+1) c' (strs (ntW x k))/\Below w.heap.size w wr) (fun _ i _=>n-(RowKit.intOf i).toNat)
  case atStart=>exact⟨0,_,_,Nat.zero_le _,rfl,rfl,hsl3,HB3.out⟩
  case round=>
   obtain⟨k,A',c',hk,rfl,rfl,hsl,hbel⟩:=hrel;have HS:=hid hsl;have HBk:=hid hbel;clear hsl;by_cases hlt:k<n
   ·obtain⟨t,b,off,he,rfl,hb,c0,c1,c2⟩:=zdD (HR0.out.on hB hbel) hlt;have HE:=hid he;have hsm:=HSM.out t (List.mem_of_getElem? he);have hk24:k<24:=by omega
    have ht1:=hsm.1;have ht2:=hsm.2.1;have ht3:=hsm.2.2;unfold zbe at ht1 ht2 ht3;have hs1:(zab (itoa t.from_)).size<=20:=by rw[zaj];exact zaz (by omega) (by omega)
    have hs2:(zab (itoa t.to_)).size<=20:=by rw[zaj];exact zaz (by omega) (by omega)
    have hs3:(zab (itoa t.len)).size<=20:=by rw[zaj];exact zaz (by omega) (by omega)
    have n2:¬(9223372036854775807<(zab (itoa t.from_)).size+1):=by omega
    have n3:¬(9223372036854775807<(zab (itoa t.from_)).size+1+(zab (itoa t.to_)).size):=by omega
    have n4:¬(9223372036854775807<(zab (itoa t.from_)).size+1+(zab (itoa t.to_)).size+1):=by omega
    have n5:¬(9223372036854775807<(zab (itoa t.from_)).size+1+(zab (itoa t.to_)).size+1+(zab (itoa t.len)).size):=by omega
    clear he hbel hsm;have hlt':(k:Int)<n:=by omega
    have hk0:(0:Int)<=k:=by omega
    go_upto_region 7 with fail
    obtain⟨u,hu⟩:∃y,wr.alloc (.cells #[.int .i64 t.from_,.int .i64 t.to_,.int .i64 t.len] 101)=y:=⟨_,rfl⟩
    have yu:Blk u wr.heap.size 101 #[.int .i64 t.from_,.int .i64 t.to_,.int .i64 t.len]:=by rw[<-hu];exact Blk.new _ _ _
    have bu:Below wr.heap.size wr u:=by rw[<-hu];exact bal _
    rw[hu];have HSu:=hid (HS.out.on bu).drew;have HBu:=hid (zac HBk.out bu lr);have hne:∀ad,A'=some ad->ad.block≠wr.heap.size:=fun ad had=>by have:=HS.out.2 ad had;omega
    have HNE:=hid hne;clear hu bu c0 c1 c2 hne;refine ez (fun W=>Below w.heap.size w W/\Blk W wr.heap.size 101 #[.int .i64 t.from_,.int .i64 t.to_,.int .i64 t.len]) ?_ fun hHeld=>?_
    ·exact⟨HBu.out.drew,yu.drew⟩
    refine dq 0 rfl (h:=dq 1 rfl (h:=dq 2 rfl (hy:=by intro w hSw;(try dsimp only at hSw);(have e0:w.cell? ⟨wr.heap.size,0,none⟩=some (.int .i64 t.from_):=hSw.2.cellAt 0 (by simp));go_simp;try with_reducible rfl) (h:=dq 5 rfl (h:=dq 6 rfl (hy:=by intro w hSw;(try dsimp only at hSw);(have e1:w.cell? ⟨wr.heap.size,1,none⟩=some (.int .i64 t.to_):=hSw.2.cellAt 1 (by simp));go_simp;try with_reducible rfl) (h:=dq 10 rfl (h:=dq 11 rfl (hy:=by intro w hSw;(try dsimp only at hSw);(have e2:w.cell? ⟨wr.heap.size,2,none⟩=some (.int .i64 t.len):=hSw.2.cellAt 2 (by simp));go_simp;try with_reducible rfl) (h:=?_)))))));refine rd 3 rfl fun K hK=>?_;go_simp
    go_at_call 38
    refine(zaL t.from_ _ (by omega) (by omega) (zaw HTW.out hHeld.1)).mono ?_;rintro e w5 ⟨rfl,b5⟩;have HSw5:=hid (HSu.out.on b5)
    go_wp2_with fail
    refine ke hK ?_ ?_
    ·exact⟨zac hHeld.1 b5 lr,hHeld.2.on b5⟩
    clear hK K hHeld;intro hHeld;refine dq 4 rfl (h:=?_);refine rd 7 rfl fun K hK=>?_;go_simp
    go_at_call 38
    refine(zaL t.to_ _ (by omega) (by omega) (zaw HTW.out hHeld.1)).mono ?_;rintro e w6 ⟨rfl,b6⟩;have HSw6:=hid (HSw5.out.on b6)
    go_wp2_with fail
    refine ke hK ?_ ?_
    ·exact⟨zac hHeld.1 b6 lr,hHeld.2.on b6⟩
    clear hK K hHeld;intro hHeld;refine dq 8 rfl (h:=dq 9 rfl (h:=?_));refine rd 12 rfl fun K hK=>?_;go_simp
    go_at_call 38
    refine(zaL t.len _ (by omega) (by omega) (zaw HTW.out hHeld.1)).mono ?_;rintro e w7 ⟨rfl,b7⟩;have HSw7:=hid (HSw6.out.on b7);have H7:=hid (zac hHeld.1 b7 lr);have Y7:=hid (hHeld.2.on b7);have hz7:w.heap.size<=w7.heap.size:=H7.out.size
    go_wp2_with fail
    refine ke hK ?_ ?_
    ·exact⟨zac hHeld.1 b7 lr,hHeld.2.on b7⟩
    clear hK K hHeld;intro hHeld;refine dq 13 rfl (h:=?_);refine rd 14 rfl fun K hK=>?_;go_simp;refine ke hK ?_ ?_
    ·exact⟨zac hHeld.1 (bal _) lr,hHeld.2.on (bal _)⟩
    clear hK K hHeld;intro hHeld;refine rd 15 rfl fun K hK=>?_;refine zbH rfl _ _ 24 rfl 9 _ 1 16 underlying24 zbu rfl (by decide) (by decide) HSw7.out hz7 rfl [.string (zab (itoa t.from_)++(⟨#[62]⟩:ByteArray)++zab (itoa t.to_)++(⟨#[42]⟩:ByteArray)++zab (itoa t.len))] w7.heap.size rfl rfl rfl (fun u hu=>by simp at hu;subst hu;rfl) (by omega) ?_;intro A2 d2 w9 hs9 b9 f9 k9;refine ke hK ?_ ?_
    ·exact⟨H7.out.trans b9,(f9 _ Y7.out.lt HNE.out).trans Y7.out⟩
    clear hK K hHeld;intro hHeld;refine dq 16 rfl (h:=?_);refine dn ?_;have HS9:=hid hs9;have HF:=hid hHeld.1;clear hHeld hs9 b9 f9 k9 b5 b6 b7;go_wp2
    go_roundw
    case rel=>
     refine⟨k+1,A2,d2,by omega,by go_num,rfl,?_,HF.out⟩;rw[zsr HE.out,zhf,<-ztP];exact HS9.out
    case measure=>simp[RowKit.intOf];omega
   ·obtain rfl:k=n:=by omega
    have HO:=hid (show ntT x=ntL x by simp[ntT,HOK.out]);have hw:=ztn x;rw[HN.out] at hw;have HWW:=hid hw;have hlen:=hid (zrc HOK.out);clear hbel
    go_wp2_with fail
    refine(ziS 32 A' (k+1) c' _ _ (ntW x k) _ HS.out (by omega) (by rw[HWW.out];exact hlen.out)).mono ?_;rintro e w3 ⟨rfl,b3⟩;rw[HWW.out];have HF:=hid (zac HBk.out b3 lr);clear b3;go_wp2;go_ret;exact⟨by rw[HO.out];rfl,HF.out⟩
theorem LRec.atOf{lo g:Nat}{s:ByteArray}{w:World}{r:LogR}(h:LRec lo g s w r):atOf w ⟨g,1,none⟩=r.at_:=by
 obtain⟨A,n,d,h1,h2,h3,h4⟩:=h;have q:w.cell? ⟨g,1,none⟩=some (.int .i64 (r.at_:Int)):=h1.cellAt 1 (by simp);exact(zoM q).trans (Int.toNat_natCast _)
theorem zo0 (s:ByteArray) (w:World) (hs:s.size <= 1048576) :
  Calls prog 163 #[.string s] w fun e w'=>e= .returned (.pointer (some ⟨w.heap.size+1,0,none⟩))/\LRec w.heap.size (w.heap.size+1) s w' (logR s)/\Below w.heap.size w w':=by
 have hr0:LRec w.heap.size (w.heap.size+1) s ((w.alloc (.cells #[] 145)).alloc (.cells #[.string s,.int .i64 0,.int .i64 0,.slice (some ⟨w.heap.size,0,none⟩) 0 0] 213)) ⟨[],0,0⟩:=by
  refine⟨some ⟨w.heap.size,0,none⟩,0,0,?_,?_,?_,Nat.le_succ _⟩
  ·have:=Blk.new (w.alloc (.cells #[] 145)) 213 #[.string s,.int .i64 0,.int .i64 0,.slice (some ⟨w.heap.size,0,none⟩) 0 0];simpa using this
  ·exact(((Sl.made w 145 3).on (bal _)).low).wide lr lr
  ·intro ad had;injection had with had;subst had;simp
 have hb0:Below w.heap.size w ((w.alloc (.cells #[] 145)).alloc (.cells #[.string s,.int .i64 0,.int .i64 0,.slice (some ⟨w.heap.size,0,none⟩) 0 0] 213)):=(bal _).alloc (by simp) _;have HR:=hid hr0;have HB:=hid hb0;clear hr0 hb0;go_enter func163,ntmps163;go_wp2
 go_loopw [] (fun wr=>∃r:LogR,r.ok/\r.at_<=s.size/\logR s=zbK (zah 10 (s.extract r.at_ s.size)) r/\LRec w.heap.size (w.heap.size+1) s wr r/\Below w.heap.size w wr) (fun wr=>s.size-atOf wr ⟨w.heap.size+1,1,none⟩)
 case atStart=>exact⟨⟨[],0,0⟩,LogR.ok_start,Nat.zero_le _,by rw[zoc];rfl,HR.out,HB.out⟩
 case round=>
  obtain⟨r,hok,hat,hgo,hrec,hbel⟩:=hrel;have HA1:=hid hrec.atOf;have HGO:=hid hgo;have HB2:=hid hbel;have HK:=hid (fun r' (h:zcs s r=some r')=>zqf hok hat h);clear hgo hbel
  go_wp2_with fail
  refine(zo1 _ _ s r _ hrec hok hat hs HB2.out.size).mono ?_;rintro e w1 (⟨r',h1,rfl,h3,b1⟩|⟨h1,rfl,h3,b1⟩)
  ·have H1:=hid h1;have H3:=hid h3;have HF:=hid (HB2.out.trans b1);clear h1 h3 b1 hrec hok hat;go_wp2
   go_roundw
   case rel=>
    obtain⟨k1,k2,k3⟩:=HK.out r' H1.out;exact⟨r',k1,k2,by rw[HGO.out,znS (by omega),H1.out],H3.out,HF.out⟩
   case measure=>
    obtain⟨k1,k2,k3⟩:=HK.out r' H1.out;rw[HA1.out,H3.out.atOf];omega
  ·have HO:=hid (show logR s=r by rw[HGO.out,znS hat,h1]);have H3:=hid h3;have HF:=hid (HB2.out.trans b1);clear h1 h3 b1 hrec hok hat;go_wp2;go_ret;exact⟨rfl,by rw[HO.out];exact H3.out,HF.out⟩
def za9(s:ByteArray):Int:=if 4000<s.size then 5 else if (logR s).at_=s.size then 0 else 8
theorem zjD{s:ByteArray}(h:4000<s.size):za9 s=5:=by simp[za9,h]
theorem zgH{s:ByteArray}(h:¬4000<s.size)(h2:(logR s).at_=s.size):za9 s=0:=by simp only[za9,h,h2,if_true,if_false]
theorem zlr{s:ByteArray}(h:¬4000<s.size)(h2:(logR s).at_≠s.size):za9 s=8:=by simp only[za9,h,h2,if_false]
theorem zmJ(s:ByteArray):0<=za9 s/\za9 s<=8:=by
 unfold za9
 split
 ·omega
 ·split<;>omega
theorem zdb (s:ByteArray) (w:World) (hs:s.size <= 1048576) :
  Calls prog 96 #[.string s] w fun e w'=>∃g,e= .returned (.tuple #[.pointer (some ⟨g,0,none⟩),.int .i64 (za9 s)])/\(za9 s=0->LRec w.heap.size g s w' (logR s))/\Below w.heap.size w w':=by
 by_cases h4:4000<s.size
 ·have h4i:(4000:Int)<(s.size:Int):=by omega
  have HO:=hid (zjD h4);go_enter func96,ntmps96;go_wp2;go_ret2;rw[HO.out];exact⟨_,rfl,(fun h=>by cases h),bal _⟩
 ·have h4i:¬((4000:Int)<(s.size:Int)):=by omega
  have HAT:=zi5 s;have HO1:=hid (fun h2=>zgH h4 h2);have HO2:=hid (fun h2=>zlr h4 h2);go_enter func96,ntmps96
  go_wp2_with fail
  refine(zo0 s _ hs).mono ?_;rintro e w1 ⟨rfl,hr,b1⟩;obtain⟨A,n,d,y1,hsl,hne,hlg⟩:=hr;have q1:w1.cell? ⟨w.heap.size+1,1,none⟩=some (.int .i64 ((logR s).at_:Int)):=y1.cellAt 1 (by simp);have HR:=hid (show LRec w.heap.size (w.heap.size+1) s w1 (logR s) from⟨A,n,d,y1,hsl,hne,hlg⟩);have HB:=hid b1;clear y1 hsl hne hlg b1;obtain⟨v,hv⟩:∃v,(logR s).at_=v:=⟨_,rfl⟩
  rw[hv] at q1 HAT;by_cases h8:v=s.size
  ·have hq:((v:Int) !=(s.size:Int))=false:=by rw[h8];exact bne_self_eq_false _
   have HO:=hid (HO1.out (hv.trans h8));clear h8 hv;go_wp2;go_ret2;rw[HO.out];exact⟨_,rfl,(fun _=>HR.out),HB.out⟩
  ·have hq:((v:Int) !=(s.size:Int))=true:=by rw[bne_iff_ne];omega
   have HO:=hid (HO2.out (by rw[hv];exact h8));clear h8 hv;go_wp2;go_ret2;rw[HO.out];exact⟨_,rfl,(fun h=>by cases h),HB.out⟩
def zaH(s:ByteArray):LogR:=if za9 s=0 then logR s else ⟨[],0,0⟩
theorem zgJ{s:ByteArray}(h:za9 s=0):zaH s=logR s:=by simp only[zaH,h,if_true]
theorem zlt{s:ByteArray}(h:za9 s≠0):zaH s=⟨[],0,0⟩:=by simp only[zaH,h,if_false]
theorem zgw (s:ByteArray) (m:Int) (w:World) (hs:s.size <= 1048576) (hm:w.cell? ⟨1,0,none⟩ = some (.int .i64 m)) (ht:TabP w) (hv:SynP w) :
  Calls prog 136 #[.string s] w fun e w'=>∃(A:Option Addr) (n d:Nat),e= .returned (.tuple #[.agg #[.slice A n d,.int .i64 (zaH s).stamp,.int .i64 ((zaH s).at_:Int)],.int .i64 (za9 s)])/\Sl w' w.heap.size w'.heap.size 145 3 A n d (ens (zaH s).list)/\Below w.heap.size w w':=by
 have hw0:(w.alloc (.cells #[.slice none 0 0,.int .i64 0,.int .i64 0] 150)).cell? ⟨1,0,none⟩=some (.int .i64 m):=zaa (bal _) hm;have hb0:Below w.heap.size w (w.alloc (.cells #[.slice none 0 0,.int .i64 0,.int .i64 0] 150)):=bal _;have y0:=Blk.new w 150 #[.slice none 0 0,.int .i64 0,.int .i64 0];by_cases h4:4000<s.size
 ·have h4i:(4000:Int)<(s.size:Int):=by omega
  have HO:=hid (zjD h4);have HR:=hid (zlt (s:=s) (by rw[HO.out];decide));have hc0:=y0.cellAt 0 (by simp);have hc1:=y0.cellAt 1 (by simp);have hc2:=y0.cellAt 2 (by simp);have hf0:=y0.frozen 0;have hf1:=y0.frozen 1;have hf2:=y0.frozen 2;clear y0 ht hv hm;go_enter func136,ntmps136;go_wp2;exact bodyPost_ret (v:=.tuple #[.agg #[.slice none 0 0,.int .i64 0,.int .i64 0],.int .i64 5]) (by simp[results,results136,go_sem,hc0,hc1,hc2]) rfl ⟨none,0,0,by rw[HO.out,HR.out];rfl,by rw[HR.out];exact Sl.nil _ _ _ _ _,hb0⟩
 ·have h4i:¬((4000:Int)<(s.size:Int)):=by omega
  have HAT:=zi5 s;have HO1:=hid (fun h2=>zgH h4 h2);have HO2:=hid (fun h2=>zlr h4 h2);have HT:=hid (zaw ht hb0);have HV:=hid (zbk hv hb0);clear ht hv hm;go_enter func136,ntmps136
  go_wp2_with fail
  refine(ziP s m _ hs hw0 HT.out HV.out).mono ?_;rintro e w1 ⟨A,n,d,rfl,hsl,b1⟩;have y1:=y0.on b1;have HB1:=hid (zac hb0 b1 lr);clear b1 y0 hw0 hb0;obtain⟨v,hv⟩:∃v,(logR s).at_=v:=⟨_,rfl⟩
  obtain⟨p,hp⟩:∃p,(logR s).stamp=p:=⟨_,rfl⟩
  rw[hv] at HAT;rw[hv,hp];have HP:=hid hp;have HW:=hid hv;clear hp hv;have yb':Blk (w1.alloc (.cells #[.slice A n d,.int .i64 p,.int .i64 (v:Int)] 150)) w1.heap.size 150 #[.slice A n d,.int .i64 p,.int .i64 (v:Int)]:=Blk.new _ _ _;have yr':=y1.alloc (.cells #[.slice A n d,.int .i64 p,.int .i64 (v:Int)] 150);have hsl':=hid (hsl.on ((Below.refl w1.heap.size w1).alloc lr (.cells #[.slice A n d,.int .i64 p,.int .i64 (v:Int)] 150)));have HB2:=hid (HB1.out.alloc HB1.out.size (.cells #[.slice A n d,.int .i64 p,.int .i64 (v:Int)] 150));have e0:=yb'.cellAt 0 (by simp);have e1:=yb'.cellAt 1 (by simp);have e2:=yb'.cellAt 2 (by simp);have hc0:=yr'.cellAt 0 (by simp);have hc1:=yr'.cellAt 1 (by simp)
  have hc2:=yr'.cellAt 2 (by simp);have hf0:=yr'.frozen 0;have hf1:=yr'.frozen 1;have hf2:=yr'.frozen 2;clear y1 hsl yb' yr';by_cases h8:v=s.size
  ·have hlt:¬((v:Int)<(s.size:Int)):=by omega
   have HO:=hid (HO1.out (HW.out.trans h8));have HR:=hid (zgJ HO.out);clear h8;go_wp2;exact bodyPost_ret (v:=.tuple #[.agg #[.slice A n d,.int .i64 p,.int .i64 (v:Int)],.int .i64 0]) (by simp[results,results136,go_sem,hc0,hc1,hc2]) rfl ⟨A,n,d,by rw[HO.out,HR.out,HW.out,HP.out],by rw[HR.out];exact((((hsl'.out.wide (lo':=w.heap.size+1) (hi':=(w1.alloc (.cells #[.slice A n d,.int .i64 p,.int .i64 (v:Int)] 150)).heap.size) (by simp) (by simp)).setLow (by simp) _).setLow (by simp) _).setLow (by simp) _).low.wide (by omega) lr,((HB2.out.setCell lr _).setCell lr _).setCell lr _⟩
  ·have hlt:(v:Int)<(s.size:Int):=by omega
   have HO:=hid (HO2.out (by rw[HW.out];exact h8));have HR:=hid (zlt (s:=s) (by rw[HO.out];decide));clear h8;go_wp2;exact bodyPost_ret (v:=.tuple #[.agg #[.slice none 0 0,.int .i64 0,.int .i64 0],.int .i64 8]) (by simp[results,results136,go_sem,hc0,hc1,hc2]) rfl ⟨none,0,0,by rw[HO.out,HR.out];rfl,by rw[HR.out];exact Sl.nil _ _ _ _ _,((HB2.out.setCell lr _).setCell lr _).setCell lr _⟩
theorem zbp(xs:List Int)(x:Int):ints xs++ [.int .i64 x]=ints (xs++ [x]):=by simp[ints]
theorem zaX:(prog.info? 2).map (fun i=>(i.zero,i.size,i.bytes))=some (some (.int .i64 0),1,8):=by kernel_rfl
theorem zoe{s:ByteArray}(h:za9 s=0):s.size<=4000:=by
 unfold za9 at h
 split at h
 ·cases h
 ·omega
theorem zq6(s:ByteArray):(zaH s).list.length<=4000:=by
 unfold zaH
 split
 ·rename_i h;have h1:=zoe h;have h2:=(zeM s).len;have h3:=zi5 s;omega
 ·simp
theorem zek{s:ByteArray}(h:za9 s=0):(logR s).list.length<=4000:=by
 have:=zq6 s;rw[zgJ h] at this;exact this
def isW(x:En)(t:ByteArray):Bool:=x.what.toList==t.toList
def zb8(l:List En)(t:ByteArray):Nat->List Int
 |0=>[]
 |k+1=>match l[k]? with
  |none=>zb8 l t k
  |some x=>if isW x t=true then zb8 l t k++ [x.val] else zb8 l t k
theorem zkE{l:List En}{t:ByteArray}{k:Nat}{x:En}(h:l[k]?=some x)(h2:isW x t=true):zb8 l t (k+1)=zb8 l t k++ [x.val]:=by simp[zb8,h,h2]
theorem zmg{l:List En}{t:ByteArray}{k:Nat}{x:En}(h:l[k]?=some x)(h2:isW x t=false):zb8 l t (k+1)=zb8 l t k:=by simp[zb8,h,h2]
theorem zhj(l:List En)(t:ByteArray):∀k,(zb8 l t k).length<=k
 |0=>by simp[zb8]
 |k+1=>by
  have:=zhj l t k;rw[zb8]
  split
  ·omega
  ·split
   ·simp;omega
   ·omega
def zbD(s t:ByteArray):Int:=if za9 s=0 then (if zaZ t=true then 0 else 2) else za9 s
theorem zis{s t:ByteArray}(h:za9 s≠0):zbD s t=za9 s:=by simp[zbD,h]
theorem zkH{s t:ByteArray}(h:za9 s=0)(h2:zaZ t=false):zbD s t=2:=by simp[zbD,h,h2]
theorem zj8{s t:ByteArray}(h:za9 s=0)(h2:zaZ t=true):zbD s t=0:=by simp[zbD,h,h2]
theorem zkI{s t:ByteArray}(h:zbD s t=0):za9 s=0/\zaZ t=true:=by
 unfold zbD at h
 split at h
 ·rename_i h1;refine⟨h1,?_⟩
  split at h
  ·assumption
  ·cases h
 ·rename_i h1;exact absurd h h1
def zbr(s t:ByteArray):List Int:=if zbD s t=0 then zb8 (logR s).list t (logR s).list.length else []
theorem zj5{s t:ByteArray}(h:zbD s t=0):zbr s t=zb8 (logR s).list t (logR s).list.length:=by simp only[zbr,h,if_true]
theorem zgs{s t:ByteArray}(h:zbD s t≠0):zbr s t=[]:=by simp only[zbr,h,if_false]
theorem ziJ (s t:ByteArray) (w:World) (hs:s.size <= 1048576) (ht:t.size <= 1048576) :
  Calls prog 234 #[.string s,.string t] w fun e w'=>∃g,e= .returned (.tuple #[.pointer (some ⟨g,0,none⟩),.int .i64 (zbD s t)])/\(za9 s=0->LRec w.heap.size g s w' (logR s))/\Below w.heap.size w w':=by
 have htz:t.size<=9223372036854775807:=by omega
 by_cases hc:za9 s=0
 ·rcases hN:zaZ t with _|_
  ·have HO:=hid (zkH hc hN);go_enter func234,ntmps234
   go_wp2_with fail
   refine(zdb s _ hs).mono ?_;rintro e w1 ⟨g,rfl,hrec,b1⟩;rw[hc];have HR:=hid (hrec hc);have HB:=hid b1;clear hrec b1 hc
   go_wp2_with (first|(go_at_call 278;refine(zcA _ _ htz).mono ?_;rintro e w2 ⟨rfl,rfl⟩)|fail "n")
   go_ret2;rw[HO.out];exact⟨g,rfl,fun _=>HR.out,HB.out⟩
  ·have HO:=hid (zj8 hc hN);go_enter func234,ntmps234
   go_wp2_with fail
   refine(zdb s _ hs).mono ?_;rintro e w1 ⟨g,rfl,hrec,b1⟩;rw[hc];have HR:=hid (hrec hc);have HB:=hid b1;clear hrec b1 hc
   go_wp2_with (first|(go_at_call 278;refine(zcA _ _ htz).mono ?_;rintro e w2 ⟨rfl,rfl⟩)|fail "n")
   go_ret2;rw[HO.out];exact⟨g,rfl,fun _=>HR.out,HB.out⟩
 ·have HO:=hid (zis (t:=t) hc);have HC:=hid hc;go_enter func234,ntmps234
  go_wp2_with fail
  refine(zdb s _ hs).mono ?_;rintro e w1 ⟨g,rfl,hrec,b1⟩;have HB:=hid b1;clear hrec b1;obtain⟨v,hv⟩:∃v,za9 s=v:=⟨_,rfl⟩
  rw[hv] at hc HO⊢;have hq2:(v==0)=false:=by simpa using hc
  clear hc hv;go_wp2;go_ret2;rw[HO.out];exact⟨g,rfl,fun h=>absurd h (by have:=HC.out;assumption),HB.out⟩
theorem zjx (s t:ByteArray) (w:World) (hs:s.size <= 1048576) (ht:t.size <= 1048576) :
  Calls prog 172 #[.string s,.string t] w fun e w'=>∃A m d,e= .returned (.tuple #[.slice A m d,.int .i64 (zbD s t)])/\Sl w' w.heap.size w'.heap.size 2 1 A m d (ints (zbr s t))/\Below w.heap.size w w':=by
 by_cases hc:zbD s t=0
 ·have HO:=hid (zj5 hc);have hlen:=zek (zkI hc).1;have HC0:=hid hc;go_enter func172,ntmps172
  go_wp2_with fail
  refine(ziJ s t _ hs ht).mono ?_;rintro e w1 ⟨g,rfl,hrec,b1⟩;obtain⟨A,n,d,y1,hsl,hne,hlg⟩:=hrec (zkI hc).1;rw[hc];have hln:(logR s).list.length=n:=by have:=hsl.len;rw[zcQ] at this;omega
  have q3:w1.cell? ⟨g,3,none⟩=some (.slice A n d):=y1.cellAt 3 (by simp);have R1:=hsl.reads lr;have HB:=hid b1;have hz1:=b1.size;have acc0:=Acc.made w1 2 1;rw[hln] at HO hlen;obtain⟨l,hl⟩:∃y,(logR s).list=y:=⟨_,rfl⟩
  rw[hl] at R1 HO;clear hrec y1 hsl hne b1 hc hl hln;go_wp2
  go_loopw [8,9] (fun out i wr=>∃(k:Nat) (A':Option Addr) (q d':Nat),k<=n/\i= .int .i64 k/\out= .slice A' q d'/\q=(zb8 l t k).length/\Acc w1.heap.size w1.heap.size 2 1 w1 wr A' q d' (ints (zb8 l t k))) (fun _ i _=>n-(RowKit.intOf i).toNat)
  case atStart=>exact⟨0,_,_,_,Nat.zero_le _,rfl,rfl,rfl,acc0⟩
  case round=>
   obtain⟨k,A',q,d',hk,rfl,rfl,hq,hacc⟩:=hrel;have HA:=hid hacc;have hvl:=zhj l t k;have hql:q<=4000:=by omega
   clear acc0 hacc;have hbel:=HA.out.below (B:=w1.heap.size) lr lr;have q3':=zaa hbel q3;by_cases hlt:k<n
   ·obtain⟨x,b,off,he,rfl,hb,c0,c1,c2⟩:=zgN (R1.on lr hbel) hlt;have HY:=hid (fun h2=>zkE (t:=t) he h2);have HN:=hid (fun h2=>zmg (t:=t) he h2);have hi0:(0:Int)<=k:=by omega
    have hi1:(k:Int)<n:=by omega
    subst hq;clear he hbel hvl;rcases hw:isW x t with _|_
    ·have HX:=hid hw;have hw2:(x.what.toList==t.toList)=false:=hw;clear hw;go_wp2
     go_roundw
     case rel=>exact⟨k+1,_,_,_,by omega,by go_num,rfl,by rw[HN.out HX.out],by rw[HN.out HX.out];exact HA.out⟩
     case measure=>simp[RowKit.intOf];omega
    ·have HX:=hid hw;have hw2:(x.what.toList==t.toList)=true:=hw;clear hw
     go_wp2_with (at_builtin;refine zeC rfl _ _ 29 rfl 2 _ 1 8 underlying29 zaX rfl (by decide) (by decide) HA.out lr rfl [.int .i64 x.val] rfl rfl (fun u hu=>by simp at hu;subst hu;rfl) (by omega) ?_;intro A2 d2 w9 hacc2;have HA2:=hid hacc2;clear hacc2)
     go_roundw
     case rel=>exact⟨k+1,_,_,_,by omega,by go_num,rfl,by rw[HY.out HX.out,List.length_append];rfl,by rw[HY.out HX.out,<-zbp];exact HA2.out⟩
     case measure=>simp[RowKit.intOf];omega
   ·obtain rfl:k=n:=by omega
    subst hq;have HF:=hid (zac HB.out hbel lr);have hkk:¬((k:Int)<(k:Int)):=by omega
    clear hbel;go_wp2;go_ret2;refine⟨_,_,_,by rw[HC0.out];rfl,?_,HF.out⟩;rw[HO.out];exact(HA.out.sl (lo:=w.heap.size) (by omega) (by omega))
 ·have HO:=hid (zgs hc);go_enter func172,ntmps172
  go_wp2_with fail
  refine(ziJ s t _ hs ht).mono ?_;rintro e w1 ⟨g,rfl,hrec,b1⟩;have HB:=hid b1;clear hrec b1;obtain⟨v,hv⟩:∃v,zbD s t=v:=⟨_,rfl⟩
  have HV2:=hid hv;rw[hv] at hc⊢;have hq:(v !=0)=true:=by simpa using hc
  clear hc hv;go_wp2;go_ret2;refine⟨_,_,_,by rw[HV2.out];rfl,?_,HB.out⟩;rw[HO.out];exact Sl.nil _ _ _ _ _
theorem zjk (s t:ByteArray) (m:Int) (w:World) (hs:s.size <= 1048576) (hts:t.size <= 1048576) (hm:w.cell? ⟨1,0,none⟩ = some (.int .i64 m)) (ht:TabP w) (hv:SynP w) :
  Calls prog 92 #[.string s,.string t] w fun e w'=>∃A m d,e= .returned (.tuple #[.slice A m d,.int .i64 (zbD s t)])/\Sl w' w.heap.size w'.heap.size 2 1 A m d (ints (zbr s t))/\Below w.heap.size w w':=by
 have HC:=hid (zgw s m w hs hm ht hv);have htz:t.size<=9223372036854775807:=by omega
 clear ht hv hm;by_cases hc:za9 s=0
 ·rcases hN:zaZ t with _|_
  ·have HW:=hid (zkH hc hN);have HO:=hid (zgs (s:=s) (t:=t) (by rw[HW.out];decide));go_enter func92,ntmps92
   go_wp2_with fail
   refine HC.out.mono ?_;rintro e w1 ⟨A,n,d,rfl,hsl,b1⟩;have yb':Blk (w1.alloc (.cells #[.slice A n d,.int .i64 (zaH s).stamp,.int .i64 ((zaH s).at_:Int)] 150)) w1.heap.size 150 #[.slice A n d,.int .i64 (zaH s).stamp,.int .i64 ((zaH s).at_:Int)]:=Blk.new _ _ _;have HB:=hid (b1.alloc b1.size (.cells #[.slice A n d,.int .i64 (zaH s).stamp,.int .i64 ((zaH s).at_:Int)] 150));clear yb' hsl b1;rw[hc];clear hc
   go_wp2_with (first|(go_at_call 160;refine(zc8 _ _ htz).mono ?_;rintro e w2 ⟨rfl,rfl⟩)|(go_at_call 79;refine(zaG _ _ _ _).mono ?_;rintro e w2 ⟨rfl,rfl⟩)|fail "n")
   go_ret2;rw[HW.out];refine⟨_,_,_,rfl,?_,HB.out⟩;rw[HO.out];exact Sl.nil _ _ _ _ _
  ·have HW:=hid (zj8 hc hN);have HO:=hid (zj5 HW.out);have hlen:=zek hc;have HR:=zgJ hc;go_enter func92,ntmps92
   go_wp2_with fail
   refine HC.out.mono ?_;rintro e w1 ⟨A,n,d,rfl,hsl,b1⟩;have yb':Blk (w1.alloc (.cells #[.slice A n d,.int .i64 (zaH s).stamp,.int .i64 ((zaH s).at_:Int)] 150)) w1.heap.size 150 #[.slice A n d,.int .i64 (zaH s).stamp,.int .i64 ((zaH s).at_:Int)]:=Blk.new _ _ _;have HS:=hid (hsl.on ((Below.refl w1.heap.size w1).alloc lr (.cells #[.slice A n d,.int .i64 (zaH s).stamp,.int .i64 ((zaH s).at_:Int)] 150))).low;have HB:=hid (b1.alloc b1.size (.cells #[.slice A n d,.int .i64 (zaH s).stamp,.int .i64 ((zaH s).at_:Int)] 150));have e0:=yb'.cellAt 0 (by simp);clear yb' hsl b1;have hln:(logR s).list.length=n:=by have:=HS.out.len;rw[HR,zcQ] at this;omega
   have R1:=HS.out.reads lr;obtain⟨wq,hwq⟩:∃y,w1.alloc (.cells #[.slice A n d,.int .i64 (zaH s).stamp,.int .i64 ((zaH s).at_:Int)] 150)=y:=⟨_,rfl⟩
   rw[hwq] at R1 HB e0;have e0':∀o1,(wq.alloc o1).cell? ⟨w1.heap.size,0,none⟩=some (.slice A n d):=fun o1=>zaa ((Below.refl _ _).alloc lr o1) e0;rw[HR] at R1;rw[hln] at HO hlen;obtain⟨l,hl⟩:∃y,(logR s).list=y:=⟨_,rfl⟩
   rw[hl] at R1 HO;rw[hc];clear HS hc hl hln HR
   go_wp2_with (first|(go_at_call 160;refine(zc8 _ _ htz).mono ?_;rintro e w2 ⟨rfl,rfl⟩)|(go_at_call 79;refine(zaG _ _ _ _).mono ?_;rintro e w2 ⟨rfl,rfl⟩)|fail "n")
   clear e0 e0';have hz1:=HB.out.size;have acc0:=Acc.made wq 2 1;clear hwq
   go_loopw [8,30] (fun out i wr=>∃(k:Nat) (A':Option Addr) (q d':Nat),k<=n/\i= .int .i64 k/\out= .slice A' q d'/\q=(zb8 l t k).length/\Acc wq.heap.size wq.heap.size 2 1 wq wr A' q d' (ints (zb8 l t k))) (fun _ i _=>n-(RowKit.intOf i).toNat)
   case atStart=>exact⟨0,_,_,_,Nat.zero_le _,rfl,rfl,rfl,acc0⟩
   case round=>
    obtain⟨k,A',q,d',hk,rfl,rfl,hq,hacc⟩:=hrel;have HA0:=hid hacc;have hvl:=zhj l t k;have hql:q<=4000:=by omega
    clear acc0 hacc;have hbel:=HA0.out.below (B:=wq.heap.size) lr lr;by_cases hlt:k<n
    ·obtain⟨x,b,off,he,rfl,hb,c0,c1,c2⟩:=zgN (R1.on lr hbel) hlt;have HY:=hid (fun h2=>zkE (t:=t) he h2);have HN:=hid (fun h2=>zmg (t:=t) he h2);have hi0:(0:Int)<=k:=by omega
     have hi1:(k:Int)<n:=by omega
     have HA:=hid (HA0.out.on ((Below.refl wr.heap.size wr).alloc lr (.cells #[.int .i64 x.day,.string x.what,.int .i64 x.val] 145)) lr);subst hq;clear he hbel hvl;rcases hw:isW x t with _|_
     ·have HX:=hid hw;have hw2:(x.what.toList==t.toList)=false:=hw;clear hw;go_wp2
      go_roundw
      case rel=>exact⟨k+1,_,_,_,by omega,by go_num,rfl,by rw[HN.out HX.out],by rw[HN.out HX.out];exact HA.out⟩
      case measure=>simp[RowKit.intOf];omega
     ·have HX:=hid hw;have hw2:(x.what.toList==t.toList)=true:=hw;clear hw
      go_wp2_with (at_builtin;refine zcH rfl _ _ 29 rfl 2 _ 1 8 underlying29 zaX rfl (by decide) (by decide) HA.out lr rfl (wr.heap.size+1) (by simp) [.int .i64 x.val] rfl rfl (fun u hu=>by simp at hu;subst hu;rfl) (by omega) ?_;intro A2 d2 w9 hacc2;have HA2:=hid hacc2;clear hacc2)
      go_roundw
      case rel=>exact⟨k+1,_,_,_,by omega,by go_num,rfl,by rw[HY.out HX.out,List.length_append];rfl,by rw[HY.out HX.out,<-zbp];exact HA2.out⟩
      case measure=>simp[RowKit.intOf];omega
    ·obtain rfl:k=n:=by omega
     subst hq;have HF:=hid (zac HB.out hbel lr);have hkk:¬((k:Int)<(k:Int)):=by omega
     clear hbel;go_wp2;go_ret2;rw[HW.out];refine⟨_,_,_,rfl,?_,HF.out⟩;rw[HO.out];exact(HA0.out.sl (lo:=w.heap.size) (by omega) (by omega))
 ·have HW:=hid (zis (t:=t) hc);have HO:=hid (zgs (s:=s) (t:=t) (by rw[HW.out];exact hc));go_enter func92,ntmps92
  go_wp2_with fail
  refine HC.out.mono ?_;rintro e w1 ⟨A,n,d,rfl,hsl,b1⟩;have yb':Blk (w1.alloc (.cells #[.slice A n d,.int .i64 (zaH s).stamp,.int .i64 ((zaH s).at_:Int)] 150)) w1.heap.size 150 #[.slice A n d,.int .i64 (zaH s).stamp,.int .i64 ((zaH s).at_:Int)]:=Blk.new _ _ _;have HB:=hid (b1.alloc b1.size (.cells #[.slice A n d,.int .i64 (zaH s).stamp,.int .i64 ((zaH s).at_:Int)] 150));clear yb' hsl b1;obtain⟨v,hv⟩:∃v,za9 s=v:=⟨_,rfl⟩
  rw[hv] at hc HW⊢;have hq:(v !=0)=true:=by simpa using hc
  have hq2:(v==0)=false:=by simpa using hc
  clear hc hv;go_wp2;go_ret2;rw[HW.out];refine⟨_,_,_,rfl,?_,HB.out⟩;rw[HO.out];exact Sl.nil _ _ _ _ _
def hasW(xs:List ByteArray)(t:ByteArray):Bool:=xs.any (fun y=>t.toList==y.toList)
theorem zt5 {w:World} {B n k:Nat} {A:Option Addr} {l:List ByteArray} (h:zad w B 1 A n (strs l)) (hk:k < n) :
  ∃(x:ByteArray) (b off:Nat),l[k]?=some x/\A=some ⟨b,off,none⟩/\b<B/\w.cell? ⟨b,off+k,none⟩=some (.string x):=by
 obtain⟨b,off,rfl,hb,hcell⟩:=h.at_ (by omega);have hl:l.length=n:=by have:=h.1;rw[za6] at this;omega
 have he:l[k]?=some l[k]:=List.getElem?_eq_getElem (by omega);exact⟨_,b,off,he,rfl,hb,hcell _ _ (zeQ he)⟩
theorem zkw (A:Option Addr) (n c B:Nat) (l:List ByteArray) (t:ByteArray) (w:World) (h:zad w B 1 A n (strs l)) (hn:n <= 1048576) :
  Calls prog 73 #[.slice A n c,.string t] w fun e w'=>e= .returned (.int .i64 (idxI (fun y=>t.toList==y.toList) l))/\w=w':=by
 have hl:=hid (show l.length=n by have:=h.1;rw[za6] at this;omega);go_enter func73,ntmps73;go_wp2
 go_loop [8] (fun i=>∃k:Nat,k<=n/\i= .int .i64 k/\za0 (fun y:ByteArray=>!(t.toList==y.toList)) l k) (fun i=>n-(RowKit.intOf i).toNat)
 case atStart=>exact⟨0,Nat.zero_le _,rfl,za0.zero _ _⟩
 case round=>
  obtain⟨k,hk,rfl,hall⟩:=hrel;have HA:=hid hall;clear hall;by_cases hlt:k<n
  ·obtain⟨x,b,off,he,rfl,hb,c0⟩:=zt5 h hlt;have HE:=hid he;have hi0:(0:Int)<=k:=by omega
   have hi1:(k:Int)<n:=by omega
   clear he;rcases hx:(t.toList==x.toList) with _|_
   ·have HX:=hid (show(!(t.toList==x.toList))=true by rw[hx];rfl);go_wp2
    go_round
    case rel=>exact⟨k+1,by omega,by go_num,HA.out.step HE.out HX.out⟩
    case measure=>simp[RowKit.intOf];omega
   ·have HO:=hid (zcT (p:=fun y:ByteArray=>t.toList==y.toList) HE.out hx HA.out);go_wp2;go_ret;exact⟨za3 HO.out.symm,rfl⟩
  ·obtain rfl:k=n:=by omega
   have HO:=hid (zdo (p:=fun y:ByteArray=>t.toList==y.toList) HA.out hl.out);have hkk:¬((k:Int)<(k:Int)):=by omega
   go_wp2;go_ret;exact⟨za3 HO.out.symm,rfl⟩
theorem zfo (A:Option Addr) (n c B:Nat) (l:List ByteArray) (t:ByteArray) (w:World) (h:zad w B 1 A n (strs l)) (hn:n <= 1048576) :
  Calls prog 31 #[.slice A n c,.string t] w fun e w'=>e= .returned (.bool (hasW l t))/\w=w':=by
 have HO:=hid (show decide (0<=idxI (fun y:ByteArray=>t.toList==y.toList) l)=hasW l t from zc5 _ l);have HC:=hid (zkw A n c B l t w h hn);clear h;go_enter func31,ntmps31
 go_wp2_with fail
 refine HC.out.mono ?_;rintro e w1 ⟨rfl,rfl⟩;go_wp2;go_ret;exact⟨zae HO.out,rfl⟩
end
end Go.Proofs.YtjalgpioklcbfaaGreatDoor
