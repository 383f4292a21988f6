/- Steps of the proof. -/
import Derived.Test.YtjalgpioklcbfaaGreatDoorKFaB
set_option maxHeartbeats 4000000
set_option linter.unusedVariables false
set_option linter.unusedSimpArgs false
set_option maxRecDepth 100000
namespace Go.Proofs.YtjalgpioklcbfaaGreatDoor
section
open Go.RowKit Go.Lib Go.Proofs.Tryz
def dgF(d:Nat)(x:Int)(k:Nat):Int:=x/(2:Int)^(d-1-k)%2
theorem zez(d:Nat)(x:Int)(k:Nat):0<=dgF d x k/\dgF d x k<=1:=by unfold dgF;omega
theorem and1(y:Int)(h0:0<=y)(h1:y<=15):bits BinOp.and IntKind.i64 y 1=y%2:=by
 obtain⟨n,rfl⟩:=Int.eq_ofNat_of_zero_le h0;have hn:n<=15:=by omega
 have:∀m:Nat,m<=15->bits BinOp.and IntKind.i64 (m:Int) 1=(m:Int)%2:=by decide
 exact this n hn
theorem zh9 (d k:Nat) (x:Int) (hd:d <= 4) (hk:k < d) (hx:0 <= x) (hx2:x <= 15) (w:World) :
  Calls prog 267 #[.int .i64 (d:Int),.int .i64 x,.int .i64 (k:Int)] w fun e w'=>e= .returned (.int .i64 (dgF d x k))/\w'=w:=by
 have hp:(0:Int)<2^(d-1-k):=Int.pow_pos (by decide);have h0:0<=x/(2:Int)^(d-1-k):=Int.ediv_nonneg hx (by omega);have h9:x/(2:Int)^(d-1-k)<=15:=Int.le_trans (Int.ediv_le_self _ hx) hx2;have HO:=hid (show bits BinOp.and IntKind.i64 (x/(2:Int)^(d-1-k)) 1=dgF d x k from and1 _ h0 h9);clear hp h0 h9;go_enter func267,ntmps267;go_wp2;go_ret;exact⟨za3 HO.out,rfl⟩
theorem zos (x:Int) (w:World) :
  Calls prog 262 #[.int .i64 x] w fun e w'=>e= .returned (.bool (inR x 1 4))/\w'=w:=by
 go_enter func262,ntmps262
 go_wp2_with fail
 refine(zaG _ _ _ _).mono ?_;rintro e w3 ⟨rfl,rfl⟩;go_wp2;go_ret;exact⟨rfl,rfl⟩
theorem zjX (d:Nat) (x:Int) (h1:1 <= d) (hd:d <= 4) (w:World) :
  Calls prog 265 #[.int .i64 (d:Int),.int .i64 x] w fun e w'=>e= .returned (.bool (inR x 0 ((2:Int)^d-1)))/\w'=w:=by
 have hwr:wrap64 (wrap64 ((2:Int)^d)-1)=(2:Int)^d-1:=by
  have:d=1\/d=2\/d=3\/d=4:=by omega
  rcases this with rfl|rfl|rfl|rfl<;>(simp only[Int.reducePow];unfold wrap64;omega)
 have HW:=hid hwr;clear hwr;go_enter func265,ntmps265
 go_wp2_with fail
 rw[HW.out];refine(zaG _ _ _ _).mono ?_;rintro e w3 ⟨rfl,rfl⟩;go_wp2;go_ret;exact⟨rfl,rfl⟩
abbrev Tl:=Int×Int
def zcL(x:Tl):List Value:=[.int .i64 x.1,.int .i64 x.2]
def tls(l:List Tl):List Value:=l.flatMap zcL
theorem zqn(l:List Tl):(tls l).length=l.length*2:=zcZ zcL 2 (fun _=>rfl) l
theorem zga(l:List Tl)(x:Tl):tls l++zcL x=tls (l++ [x]):=by simp[tls,List.flatMap_append]
theorem zir(x:Tl):∀u∈zcL x,u.oneCell'=true:=by
 intro u hu;simp[zcL] at hu;rcases hu with rfl|rfl<;>rfl
theorem zey{w:World}{B n:Nat}{A:Option Addr}{l:List Tl}(h:zad w B 2 A n (tls l)):l.length=n:=by
 have:=h.1;rw[zqn] at this;omega
theorem zi8 {w:World} {B n k:Nat} {A:Option Addr} {l:List Tl} (h:zad w B 2 A n (tls l)) (hk:k < n) :
  ∃(x:Tl) (b off:Nat),l[k]?=some x/\A=some ⟨b,off,none⟩/\b<B/\w.cell? ⟨b,off+k*2,none⟩=some (.int .i64 x.1)/\w.cell? ⟨b,off+k*2+1,none⟩=some (.int .i64 x.2):=by
 obtain⟨b,off,rfl,hb,hcell⟩:=h.at_ (by omega);have hl:=zey h;have he:l[k]?=some l[k]:=List.getElem?_eq_getElem (by omega);exact⟨_,b,off,he,rfl,hb,hcell _ _ (zce zcL 2 (fun _=>rfl) l k _ he 0 (by omega)),hcell _ _ (zce zcL 2 (fun _=>rfl) l k _ he 1 (by omega))⟩
def okTl(d:Nat)(t:Tl):Bool:=inR t.1 0 ((2:Int)^d-1)&&inR t.2 0 ((2:Int)^d-1)
def okTr(D:Int)(l:List Tl):Bool:=inR D 1 4&&(decide (l.length<=16)&&l.all (okTl D.toNat))
theorem zj3 (d g:Nat) (t:Tl) (h1:1 <= d) (hd:d <= 4) (w:World) (h:w.cell? ⟨g,0,none⟩ = some (.int .i64 (d:Int))) :
  Calls prog 264 #[.agg #[.int .i64 t.1,.int .i64 t.2],.pointer (some ⟨g,0,none⟩)] w fun e w'=>e= .returned (.bool (!okTl d t))/\Below w.heap.size w w':=by
 obtain⟨W,hW,y0,hb⟩:∃W,W=w.alloc (.cells #[.int .i64 t.1,.int .i64 t.2] 132)/\Blk W w.heap.size 132 #[.int .i64 t.1,.int .i64 t.2]/\Below w.heap.size w W:=⟨_,rfl,Blk.new _ _ _,bal _⟩
 have HW:=hid hW;have HB:=hid hb;replace h:=zaa hb h;have c0:=y0.cellAt 0 (by simp);have c1:=y0.cellAt 1 (by simp);simp only[ly] at c0 c1;clear hW hb y0;go_enter func264,ntmps264
 go_upto_region 1 with fail
 rw[<-HW.out]
 go_wp2_with fail
 refine(zjX d t.1 h1 hd W).mono ?_;rintro e w1 ⟨rfl,rfl⟩;rcases e1:inR t.1 0 ((2:Int)^d-1) with _|_
 ·have HO:=hid (show okTl d t=false by simp[okTl,e1]);go_wp2;go_ret;exact⟨zae (by rw[HO.out];rfl),HB.out⟩
 have H1:=hid (show okTl d t=inR t.2 0 ((2:Int)^d-1) by simp[okTl,e1]);clear e1
 go_wp2_with fail
 refine(zjX d t.2 h1 hd _).mono ?_;rintro e w1 ⟨rfl,rfl⟩;rw[<-H1.out];go_wp2;go_ret;exact⟨rfl,HB.out⟩
theorem zjT (A:Option Addr) (n c g d:Nat) (l:List Tl) (B:Nat) (w:World) (h:zad w B 2 A n (tls l)) (hB:B <= w.heap.size) (hn:n <= 1048576) (h1:1 <= d) (hd:d <= 4) (hc:w.cell? ⟨g,0,none⟩ = some (.int .i64 (d:Int))) :
  Calls prog 304 #[.slice A n c,.func (.func 264) #[] #[.pointer (some ⟨g,0,none⟩)]] w fun e w'=>e= .returned (.int .i64 (idxI (fun x=>!okTl d x) l))/\Below w.heap.size w w':=by
 have hl:=hid (zey h);have HC:=hid hc;clear hc;go_enter func304,ntmps304;go_wp2
 go_loopw [8] (fun i wr=>∃k:Nat,k<=n/\i= .int .i64 k/\za0 (okTl d) l k/\Below w.heap.size w wr) (fun i _=>n-(RowKit.intOf i).toNat)
 case atStart=>exact⟨0,Nat.zero_le _,rfl,za0.zero _ _,Below.refl _ _⟩
 case round=>
  obtain⟨k,hk,rfl,hall,hbel⟩:=hrel;have HA:=hid hall;have HB:=hid hbel;clear hall;by_cases hlt:k<n
  ·obtain⟨x,b,off,he,rfl,hb,c0,c1⟩:=zi8 (h.on hB hbel) hlt;have HE:=hid he;clear he hbel h
   go_wp2_with fail
   refine(zj3 d g x h1 hd _ (zaa HB.out HC.out)).mono ?_;rintro e w1 ⟨rfl,b1⟩;have HF:=hid (zac HB.out b1 lr);clear b1 c0 c1;rcases ho:okTl d x with _|_
   ·have HO:=hid (show idxI (fun x=>!okTl d x) l=k from zcT HE.out (by simp[ho]) (HA.out.imp fun x hx=>by simp[hx]));go_wp2;go_ret;exact⟨za3 HO.out.symm,HF.out⟩
   ·have HO:=hid ho;go_wp2
    go_roundw
    case rel=>exact⟨k+1,by omega,by go_num,HA.out.step HE.out HO.out,HF.out⟩
    case measure=>simp[RowKit.intOf];omega
  ·obtain rfl:k=n:=by omega
   have HO:=hid (show idxI (fun x=>!okTl d x) l=-1 from zdo (HA.out.imp fun x hx=>by simp[hx]) hl.out);go_wp2;go_ret;exact⟨za3 HO.out.symm,HB.out⟩
theorem zh5 (A:Option Addr) (n c g d:Nat) (l:List Tl) (B:Nat) (w:World) (h:zad w B 2 A n (tls l)) (hB:B <= w.heap.size) (hn:n <= 1048576) (h1:1 <= d) (hd:d <= 4) (hc:w.cell? ⟨g,0,none⟩ = some (.int .i64 (d:Int))) :
  Calls prog 263 #[.slice A n c,.func (.func 264) #[] #[.pointer (some ⟨g,0,none⟩)]] w fun e w'=>e= .returned (.bool (!l.all (okTl d)))/\Below w.heap.size w w':=by
 have HO:=hid (show decide (0<=idxI (fun x=>!okTl d x) l)= !l.all (okTl d) from by rw[zc5];simp[List.any_eq_not_all_not]);have HC:=hid (zjT A n c g d l B w h hB hn h1 hd hc);clear h hc;go_enter func263,ntmps263
 go_wp2_with fail
 refine HC.out.mono ?_;rintro e w1 ⟨rfl,b1⟩;go_wp2;go_ret;exact⟨zae HO.out,b1⟩
theorem zkD (D:Int) (A:Option Addr) (n c:Nat) (l:List Tl) (B:Nat) (w:World) (h:zad w B 2 A n (tls l)) (hB:B <= w.heap.size) (hn:n <= 1048576) :
  Calls prog 216 #[.int .i64 D,.slice A n c] w fun e w'=>e= .returned (.bool (okTr D l))/\Below w.heap.size w w':=by
 have hl:=zey h;have HL:=hid hl;obtain⟨W,hW,y0,hb⟩:∃W,W=w.alloc (.cells #[.int .i64 D] 2)/\Blk W w.heap.size 2 #[.int .i64 D]/\Below w.heap.size w W:=⟨_,rfl,Blk.new _ _ _,bal _⟩
 have HW:=hid hW;have HB:=hid hb;have HR:=hid (h.on hB hb);have c0:=y0.cellAt 0 (by simp);simp only[List.getElem_toArray,List.getElem_cons_zero] at c0;clear hW hb y0 h hl;go_enter func216,ntmps216
 go_upto_region 1 with fail
 rw[<-HW.out]
 go_wp2_with fail
 refine(zos D W).mono ?_;rintro e w1 ⟨rfl,rfl⟩;rcases e1:inR D 1 4 with _|_
 ·have HO:=hid (show okTr D l=false by simp[okTr,e1]);go_wp2;go_ret;exact⟨zae HO.out.symm,HB.out⟩
 have hD:=zam.1 e1;obtain⟨d,hd⟩:=Int.eq_ofNat_of_zero_le (show 0<=D by omega);subst hd;by_cases h9:n<=16
 ·have hd9:decide ((n:Int)<=16)=true:=decide_eq_true (by omega);have HO:=hid (show okTr (d:Int) l=l.all (okTl d) by simp[okTr,e1,HL.out,h9]);have HC:=hid c0;clear e1
  go_wp2_with fail
  refine(zh5 A n c _ d l B _ HR.out (Nat.le_trans hB HB.out.size) hn (by omega) (by omega) HC.out).mono ?_;rintro e w2 ⟨rfl,b2⟩;go_wp2;go_ret;exact⟨zae (by rw[HO.out];try simp),zac HB.out b2 lr⟩
 ·have hd9:decide ((n:Int)<=16)=false:=decide_eq_false (by omega);have HO:=hid (show okTr (d:Int) l=false by simp[okTr,e1,HL.out,h9]);clear e1;go_wp2;go_ret;exact⟨zae HO.out.symm,HB.out⟩
theorem zjp{d:Nat}{x:Int}{k:Nat}(hk:k<4):1<=zbZ (dgF d x) k/\zbZ (dgF d x) k<=15:=by
 have:=zfQ (zez d x) k;have:k=0\/k=1\/k=2\/k=3:=by omega
 rcases this with rfl|rfl|rfl|rfl<;>omega
def zfc(d:Nat)(x:Int)(k:Nat):List Int:=(List.range k).map fun j=>zbZ (dgF d x) j
theorem zqs(d:Nat)(x:Int)(k:Nat):zfc d x (k+1)=zfc d x k++ [zbZ (dgF d x) k]:=by simp[zfc,List.range_succ]
theorem zlh (d:Nat) (x:Int) (h1:1 <= d) (hd:d <= 4) (hx:0 <= x) (hx2:x <= 15) (w:World) :
  Calls prog 266 #[.int .i64 (d:Int),.int .i64 x] w fun e w'=>∃A' q d',e= .returned (.slice A' q d')/\Sl w' w.heap.size w'.heap.size 2 1 A' q d' (ints (zfc d x d))/\Below w.heap.size w w':=by
 have acc0:=Acc.made w 2 1;go_enter func266,ntmps266;go_wp2
 go_loopw [5,6,10] (fun o v i wr=>∃(k:Nat) (A':Option Addr) (d':Nat),k<=d/\i= .int .i64 (k:Int)/\o= .slice A' k d'/\v= .int .i64 (zbZ (dgF d x) k)/\Acc w.heap.size w.heap.size 2 1 w wr A' k d' (ints (zfc d x k))) (fun _ _ i _=>d-(RowKit.intOf i).toNat)
 case atStart=>exact⟨0,_,_,Nat.zero_le _,rfl,rfl,rfl,acc0⟩
 case round=>
  obtain⟨k,A',d',hk,rfl,rfl,rfl,hacc⟩:=hrel;have HA:=hid hacc;clear acc0 hacc;have hk0:(0:Int)<=k:=by omega
  by_cases hlt:k<d
  ·have hkn:(k:Int)<d:=by omega
   have hnb:=zjp (d:=d) (x:=x) (k:=k) (by omega);have hdb:=zez d x k;have HN:=hid (show 2*zbZ (dgF d x) k+dgF d x k=zbZ (dgF d x) (k+1) from rfl);have HWS:=hid (zqs d x k);obtain⟨v,hv⟩:∃z,zbZ (dgF d x) k=z:=⟨_,rfl⟩
   rw[hv] at hnb HN HWS;rw[hv];clear hv
   have hw1:IntKind.i64.wrap (2*v)=2*v:=by
    unfold IntKind.wrap;simp[IntKind.bits,IntKind.signed];omega
   go_wp2_with (at_builtin;refine zcH rfl _ _ 29 rfl 2 _ 1 8 underlying29 zaX rfl (by decide) (by decide) HA.out lr rfl _ rfl [.int .i64 v] rfl rfl (fun u hu=>by simp at hu;subst hu;rfl) (by omega) ?_;intro A3 d3 w9 hacc2;have HA9:=hid hacc2;clear hacc2)
   refine(zh9 d k x hd hlt hx hx2 w9).mono ?_;rintro e w5 ⟨rfl,rfl⟩;obtain⟨z,hz⟩:∃z,dgF d x k=z:=⟨_,rfl⟩
   rw[hz] at hdb HN⊢;clear hz
   have hw2:IntKind.i64.wrap (2*v+z)=2*v+z:=by
    unfold IntKind.wrap;simp[IntKind.bits,IntKind.signed];omega
   go_wp2
   go_roundw
   case rel=>exact⟨k+1,A3,d3,by omega,by go_num,rfl,by rw[<-HN.out],by rw[HWS.out,<-zbp];exact HA9.out⟩
   case measure=>simp[RowKit.intOf];omega
  ·obtain rfl:d=k:=by omega
   go_wp2;go_ret;exact⟨A',d,d',rfl,HA.out.sl lr lr,HA.out.below lr lr⟩
theorem ze1{α:Type}{l:List α}{k n:Nat}(hl:l.length=n)(hk:k<n):∃x,l[k]?=some x:=⟨_,List.getElem?_eq_getElem (by omega)⟩
def zfj(S1 S2:List Sp):Bool:=S1.any fun s=>S2.any (zbn s)
theorem zfp{α:Type}{p:α->Bool}{l:List α}(h:l.all (fun x=>!p x)=true):l.any p=false:=by
 rw[<-Bool.not_eq_true,List.any_eq_true];rintro ⟨x,hx,h1⟩;have:=List.all_eq_true.1 h x hx;rw[h1] at this
 cases this
theorem zou (Q:Option Addr) (m d:Nat) (ts:List Int) (A:Option Addr) (n c b0 o0:Nat) (way:List Int) (st:Int) (A2:Option Addr) (n2 c2 b1 o1:Nat) (way2:List Int) (st2:Int) (B:Nat) (w:World) (ht:zad w B 1 Q m (ints ts)) (hB:B <= w.heap.size) (hot:zaK ts = true)
  (h:zad w B 1 A n (ints way)) (k0:w.cell? ⟨b0,o0,none⟩=some (.slice A n c)) (k1:w.cell? ⟨b0,o0+1,none⟩=some (.int .i64 st)) (hw:zaN ts way=true) (h0:0<=st) (h1:st<=1000000)
  (g:zad w B 1 A2 n2 (ints way2)) (l0:w.cell? ⟨b1,o1,none⟩=some (.slice A2 n2 c2)) (l1:w.cell? ⟨b1,o1+1,none⟩=some (.int .i64 st2)) (hw2:zaN ts way2=true) (g0:0<=st2) (g1:st2<=1000000):
  Calls prog 310 #[.slice Q m d,.pointer (some ⟨b0,o0,none⟩),.pointer (some ⟨b1,o1,none⟩)] w fun e w'=>(∃v:Int,e= .returned (.int .i64 v)/\decide (0<=v)=zfj (zay ts way st) (zay ts way2 st2))/\Below w.heap.size w w':=by
 have HC1:=hid (ze5 Q m d ts A n c B b0 o0 way st w ht h hB k0 k1 hot hw h0 h1);have HC2:=hid (fun(w1:World) (b:Below w.heap.size w w1)=>ze5 Q m d ts A2 n2 c2 B b1 o1 way2 st2 w1 (ht.on hB b) (g.on hB b) (Nat.le_trans hB b.size) (zaa b l0) (zaa b l1) hot hw2 g0 g1);have hl1:=(zb7 ts way st).trans (zai h);have hl2:=(zb7 ts way2 st2).trans (zai g);have hn12:n<=12:=by have:=(zaJ hw).1;have:=zai h;omega
 have hn212:n2<=12:=by have:=(zaJ hw2).1;have:=zai g;omega
 obtain⟨S1,hS1⟩:∃z,zay ts way st=z:=⟨_,rfl⟩
 obtain⟨S2,hS2⟩:∃z,zay ts way2 st2=z:=⟨_,rfl⟩
 rw[hS1] at HC1 hl1;simp only[hS2] at HC2 hl2;rw[hS1,hS2];have HL1:=hid hl1;have HL2:=hid hl2;clear ht hot h k0 k1 hw h0 h1 g l0 l1 hw2 g0 g1 hl1 hl2 hS1 hS2;go_enter func310,ntmps310
 go_wp2_with fail
 refine HC1.out.mono ?_;rintro e w1 ⟨P1,q1,gs1,rfl,s1,_,b1⟩;have HQ1:=hid s1;have HB1:=hid b1;clear s1
 go_wp2_with fail
 refine(HC2.out w1 b1).mono ?_;rintro e w2 ⟨P2,q2,gs2,rfl,s2,_,b2⟩;have HQ2:=hid s2;have HB2:=hid (zac HB1.out b2 lr);have HQ3:=hid (HQ1.out.on b2);clear s2 b1 b2
 go_wp2_with fail
 go_loopw [9] (fun i wr=>∃k:Nat,k<=n/\i= .int .i64 (k:Int)/\za0 (fun s=>!(S2.any (zbn s))) S1 k/\Below w2.heap.size w2 wr) (fun i _=>n-(RowKit.intOf i).toNat)
 case atStart=>exact⟨0,Nat.zero_le _,rfl,za0.zero _ _,Below.refl _ _⟩
 case round=>
  obtain⟨k,hk,rfl,hall,hbel⟩:=hrel;have HA:=hid hall;have HBr:=hid hbel;clear hall hbel;have hk0:(0:Int)<=k:=by omega
  by_cases hlt:k<n
  ·have hkn:(k:Int)<n:=by omega
   obtain⟨s,hs⟩:=ze1 HL1.out hlt;have HS:=hid hs;clear hs
   rename World=>wo
   go_wp2_with fail
   go_loopw [10] (fun i wr=>∃j:Nat,j<=n2/\i= .int .i64 (j:Int)/\za0 (fun o=>!zbn s o) S2 j/\Below w2.heap.size w2 wr) (fun i _=>n2-(RowKit.intOf i).toNat)
   case atStart=>exact⟨0,Nat.zero_le _,rfl,za0.zero _ _,HBr.out⟩
   case round=>
    obtain⟨j,hj,rfl,hall,hbel⟩:=hrel;have HAj:=hid hall;have HBj:=hid hbel;clear hall hbel;have hj0:(0:Int)<=j:=by omega
    by_cases hjt:j<n2
    ·have hjn:(j:Int)<n2:=by omega
     obtain⟨o,ho⟩:=ze1 HL2.out hjt;have HO:=hid ho;obtain⟨ga,ra,rfl,ca,a0,a1,a2⟩:=zil (HQ3.out.on HBj.out) hlt HS.out;obtain⟨gb,rb,rfl,cb,e0,e1,e2⟩:=zil (HQ2.out.on HBj.out) hjt ho;have HM:=hid (zd0 (s:=s) (o:=o));have HNX:=hid (fun hf:zbn s o=false=>HAj.out.step HO.out (show(!zbn s o)=true by rw[hf];rfl));obtain⟨st_,se,sl⟩:=s;obtain⟨ot,oe,ol⟩:=o;simp only at a0 a1 a2 e0 e1 e2 HM;clear ho;by_cases m1:st_=ot;rotate_left
     ·have d1:(st_==ot)=false:=by simpa using m1
      have HF:=hid (show zbn ⟨st_,se,sl⟩ ⟨ot,oe,ol⟩=false by rw[<-Bool.not_eq_true];intro hc;exact m1 (HM.out.1 hc).1);clear m1
      go_wp2_with fail
      go_quiet (fail)
      go_wp2
      go_roundw
      case rel=>exact⟨j+1,by omega,by go_num,HNX.out HF.out,zan HBj.out _⟩
      case measure=>simp[RowKit.intOf];omega
     have d1:(st_==ot)=true:=by simpa using m1
     by_cases m2:se<ol;rotate_left
     ·have d2:decide (se<ol)=false:=decide_eq_false m2;have HF:=hid (show zbn ⟨st_,se,sl⟩ ⟨ot,oe,ol⟩=false by rw[<-Bool.not_eq_true];intro hc;exact m2 (HM.out.1 hc).2.1);clear m1 m2
      go_wp2_with fail
      go_quiet (fail)
      go_wp2
      go_roundw
      case rel=>exact⟨j+1,by omega,by go_num,HNX.out HF.out,zan HBj.out _⟩
      case measure=>simp[RowKit.intOf];omega
     have d2:decide (se<ol)=true:=decide_eq_true m2;by_cases m3:oe<sl;rotate_left
     ·have d3:decide (oe<sl)=false:=decide_eq_false m3;have HF:=hid (show zbn ⟨st_,se,sl⟩ ⟨ot,oe,ol⟩=false by rw[<-Bool.not_eq_true];intro hc;exact m3 (HM.out.1 hc).2.2);clear m1 m2 m3
      go_wp2_with fail
      go_quiet (fail)
      go_wp2
      go_roundw
      case rel=>exact⟨j+1,by omega,by go_num,HNX.out HF.out,zan HBj.out _⟩
      case measure=>simp[RowKit.intOf];omega
     have d3:decide (oe<sl)=true:=decide_eq_true m3;have HT:=hid (show zfj S1 S2=true from List.any_eq_true.2 ⟨_,List.mem_of_getElem? HS.out,List.any_eq_true.2 ⟨_,List.mem_of_getElem? HO.out,HM.out.2 ⟨m1,m2,m3⟩⟩⟩);clear m1 m2 m3
     go_wp2_with fail
     go_quiet (fail)
     go_wp2;go_ret;exact⟨⟨_,rfl,by rw[HT.out];exact decide_eq_true hk0⟩,HB2.out.trans ((zan HBj.out _).mono HB2.out.size)⟩
    ·obtain rfl:j=n2:=by omega
     have HF:=hid (show(!(S2.any (zbn s)))=true by rw[zfp (HAj.out.done HL2.out)];rfl);go_wp2
     go_roundw
     case rel=>exact⟨k+1,by omega,by go_num,HA.out.step HS.out HF.out,HBj.out⟩
     case measure=>simp[RowKit.intOf];omega
  ·obtain rfl:k=n:=by omega
   have HF:=hid (show zfj S1 S2=false from zfp (HA.out.done HL1.out));go_wp2;go_ret;exact⟨⟨_,rfl,by rw[HF.out];rfl⟩,HB2.out.trans (HBr.out.mono HB2.out.size)⟩
theorem zta(ts:List Int)(rs:List Rn)(way:List Int)(a:Int):fits ts rs way a=rs.all (fun r=>!zfj (zay ts way a) (zay ts r.way r.st)):=by
 rw[Bool.eq_iff_iff];unfold fits zfj;simp only[List.all_eq_true,Bool.not_eq_true',List.any_eq_false,Bool.not_eq_true];constructor
 ·intro h r hr s hs o ho;refine h s hs o ?_;clear h hs
  induction rs with
  |nil=>cases hr
  |cons x l ih=>
   rw[zaE,List.mem_append];rcases List.mem_cons.1 hr with rfl|hr
   ·exact .inl ho
   ·exact .inr (ih hr)
 ·intro h s hs o ho;obtain⟨r,hr,hor⟩:=ziq ho;exact h r hr s hs o hor
theorem ziH (Q:Option Addr) (m d:Nat) (ts:List Int) (RA:Option Addr) (rn rc:Nat) (rs:List Rn) (A:Option Addr) (n c b0 o0:Nat) (way:List Int) (st:Int) (B:Nat) (w:World) (ht:zad w B 1 Q m (ints ts)) (hr:zaC w B RA rn rs) (hB:B <= w.heap.size) (hok:zap ts rs = true)
  (h:zad w B 1 A n (ints way)) (k0:w.cell? ⟨b0,o0,none⟩=some (.slice A n c)) (k1:w.cell? ⟨b0,o0+1,none⟩=some (.int .i64 st)) (hw:zaN ts way=true) (h0:0<=st) (h1:st<=1000000):
  Calls prog 282 #[.slice Q m d,.slice RA rn rc,.pointer (some ⟨b0,o0,none⟩)] w fun e w'=>e= .returned (.bool (fits ts rs way st))/\Below w.heap.size w w':=by
 have hrn:rn<=12:=by have:=zbB hok;have:=hr.len;omega
 have HL:=hid hr.len
 have HC:=hid (fun(k:Nat) (hk:k<rn) (wr:World) (b:Below w.heap.size w wr)=>(show∃(r:Rn) (b1 o1:Nat),rs[k]?=some r/\RA=some ⟨b1,o1,none⟩/\Calls prog 310 #[.slice Q m d,.pointer (some ⟨b0,o0,none⟩),.pointer (some ⟨b1,o1+k*2,none⟩)] wr fun e w'=>(∃v:Int,e= .returned (.int .i64 v)/\decide (0<=v)=zfj (zay ts way st) (zay ts r.way r.st))/\Below wr.heap.size wr w' from by
  obtain⟨r,b1,o1,A',m',c',he,rfl,hb1,c0,c1,hrd⟩:=zcn (hr.on hB b) hk;obtain⟨q1,q2,q3⟩:=zbG hok he;exact⟨r,b1,o1,he,rfl,zou Q m d ts A n c b0 o0 way st A' m' c' b1 (o1+k*2) r.way r.st B wr (ht.on hB b) (Nat.le_trans hB b.size) (zaV hok) (h.on hB b) (zaa b k0) (zaa b k1) hw h0 h1 hrd.1 c0 c1 q1 q2 (by omega)⟩))
 have HF:=hid (zta ts rs way st);clear ht hr hok h k0 k1 hw h0 h1;go_enter func282,ntmps282;go_wp2
 go_loopw [7] (fun i wr=>∃k:Nat,k<=rn/\i= .int .i64 (k:Int)/\za0 (fun r=>!zfj (zay ts way st) (zay ts r.way r.st)) rs k/\Below w.heap.size w wr) (fun i _=>rn-(RowKit.intOf i).toNat)
 case atStart=>exact⟨0,Nat.zero_le _,rfl,za0.zero _ _,Below.refl _ _⟩
 case round=>
  obtain⟨k,hk,rfl,hall,hbel⟩:=hrel;have HA:=hid hall;have HBr:=hid hbel;clear hall hbel;have hk0:(0:Int)<=k:=by omega
  by_cases hlt:k<rn
  ·have hkn:(k:Int)<rn:=by omega
   obtain⟨r,b1,o1,he,rfl,hc⟩:=HC.out k hlt wr HBr.out;have HE:=hid he;have HCC:=hid hc;clear he hc
   go_wp2_with fail
   refine HCC.out.mono ?_;rintro e w2 ⟨⟨v,rfl,hv⟩,b2⟩;have HB2:=hid (zac HBr.out b2 lr);clear b2;rcases hm:zfj (zay ts way st) (zay ts r.way r.st) with _|_
   ·rw[hm] at hv;have HM:=hid hm;clear hm;go_wp2
    go_roundw
    case rel=>exact⟨k+1,by omega,by go_num,HA.out.step HE.out (by rw[HM.out];rfl),HB2.out⟩
    case measure=>simp[RowKit.intOf];omega
   ·rw[hm] at hv;have HO:=hid (show fits ts rs way st=false by rw[HF.out];exact zcd HE.out (by rw[hm];rfl));clear hm;go_wp2;go_ret;exact⟨zae HO.out.symm,HB2.out⟩
  ·obtain rfl:k=rn:=by omega
   have HO:=hid (show fits ts rs way st=true by rw[HF.out];exact HA.out.done HL.out);go_wp2;go_ret;exact⟨zae HO.out.symm,HBr.out⟩
def zco(s:Sn):List Value:=[.bool s.l0,.bool s.l1,.bool s.a0,.bool s.a1]
def sns(l:List Sn):List Value:=l.flatMap zco
def snSet(s:Sn):Nat->Sn
 |0=>{s with l0:=true}
 |1=>{s with l1:=true}
 |2=>{s with a0:=true}
 |_=>{s with a1:=true}
theorem zod(s:Sn):∀i,i<4->(zco s).set i (.bool true)=zco (snSet s i)
 |0,_=>rfl
 |1,_=>rfl
 |2,_=>rfl
 |3,_=>rfl
theorem zpk:∀(l:List Sn) (v i:Nat),v<l.length->i<4->(sns l).set (v*4+i) (.bool true)=sns (l.set v (snSet (l.getD v sn0) i))
 | [],v,i,hv,_=>by simp at hv
 |s::l,0,i,_,hi=>by
  show(zco s++sns l).set (0*4+i) _=zco (snSet s i)++sns l;rw[Nat.zero_mul,Nat.zero_add,List.set_append,if_pos (by simpa[zco] using hi),zod s i hi]
 |s::l,v+1,i,hv,hi=>by
  show(zco s++sns l).set ((v+1)*4+i) _=zco s++sns (l.set v (snSet (l.getD v sn0) i));have h1:¬(v+1)*4+i<(zco s).length:=by simp[zco];omega
  have h2:(v+1)*4+i-(zco s).length=v*4+i:=by simp[zco];omega
  rw[List.set_append,if_neg h1,h2,zpk l v i (by simpa using hv) hi]
theorem zkx {w:World} {g:Nat} {t:TypeId} {l:List Sn} {v:Nat} {s:Sn} (h:Blk w g t (sns l).toArray) (hs:l[v]? = some s) :
  w.cell? ⟨g,v*4,none⟩=some (.bool s.l0)/\w.cell? ⟨g,v*4+1,none⟩=some (.bool s.l1)/\w.cell? ⟨g,v*4+2,none⟩=some (.bool s.a0)/\w.cell? ⟨g,v*4+3,none⟩=some (.bool s.a1):=by
 have f:=fun j hj=>zce zco 4 (fun _=>rfl) l v s hs j hj;refine⟨?_,?_,?_,?_⟩
 ·rw[h.cell,List.getElem?_toArray];exact f 0 (by omega)
 ·rw[h.cell,List.getElem?_toArray];exact f 1 (by omega)
 ·rw[h.cell,List.getElem?_toArray];exact f 2 (by omega)
 ·rw[h.cell,List.getElem?_toArray];exact f 3 (by omega)
theorem ztk(n:Nat)(hn:n<=1048576):∀w:World,(Instr.makeSlice 247 (.int .i64 (n:Int)) (.int .i64 (n:Int))).run prog w= .ok (.slice (some ⟨w.heap.size,0,none⟩) n n) (w.alloc (.cells (madeCells #[.bool false,.bool false,.bool false,.bool false] (n*4)) 252)):=
 zc9 247 252 (.agg #[.bool false,.bool false,.bool false,.bool false]) 4 4 underlying247 (by kernel_rfl) (by decide) n hn
theorem zpj:∀n:Nat,sns (List.replicate n sn0)=List.replicate (n*4) (.bool false)
 |0=>rfl
 |n+1=>by
  rw[List.replicate_succ,show sns (sn0::List.replicate n sn0)=zco sn0++sns (List.replicate n sn0) from rfl,zpj n,show(n+1)*4=n*4+1+1+1+1 by omega]
  rfl
theorem zoV(n:Nat):madeCells #[.bool false,.bool false,.bool false,.bool false] (n*4)=(sns (List.replicate n sn0)).toArray:=by
 rw[zpj];refine Array.ext (by simp[madeCells]) fun i h1 h2=>?_;simp only[madeCells,Array.getElem_map,Array.getElem_range,List.getElem_toArray,List.getElem_replicate];have:i%4=0\/i%4=1\/i%4=2\/i%4=3:=by omega
 rcases this with h|h|h|h<;>simp[h]
theorem zpO (s:Sn) (w:World) :
  Calls prog 218 #[.agg #[.bool s.l0,.bool s.l1,.bool s.a0,.bool s.a1]] w fun e w'=>e= .returned (.int .u8 (if s.a0=true then 48 else if s.a1=true then 49 else if s.l0=true/\s.l1=true then 119 else if s.l0=true then 97 else if s.l1=true then 98 else 63))/\Below w.heap.size w w':=by
 obtain⟨l0,l1,a0,a1⟩:=s;obtain⟨W,hW,y0,hb⟩:∃W,W=w.alloc (.cells #[.bool l0,.bool l1,.bool a0,.bool a1] 252)/\Blk W w.heap.size 252 #[.bool l0,.bool l1,.bool a0,.bool a1]/\Below w.heap.size w W:=⟨_,rfl,Blk.new _ _ _,bal _⟩
 have HW:=hid hW;have HB:=hid hb;have c0:=y0.cellAt 0 (by simp);have c1:=y0.cellAt 1 (by simp);have c2:=y0.cellAt 2 (by simp);have c3:=y0.cellAt 3 (by simp);simp only[ly] at c0 c1 c2 c3;clear hW hb y0
 cases a0<;>cases a1<;>cases l0<;>cases l1<;>(
  go_enter func218,ntmps218
  go_upto_region 1 with fail
  rw[<-HW.out];go_wp2;go_ret;exact⟨rfl,HB.out⟩)
theorem zoB (s:Sn) (w:World) :
  Calls prog 269 #[.agg #[.bool s.l0,.bool s.l1,.bool s.a0,.bool s.a1]] w fun e w'=>e= .returned (.bool (zbw s))/\Below w.heap.size w w':=by
 obtain⟨l0,l1,a0,a1⟩:=s;obtain⟨W,hW,y0,hb⟩:∃W,W=w.alloc (.cells #[.bool l0,.bool l1,.bool a0,.bool a1] 252)/\Blk W w.heap.size 252 #[.bool l0,.bool l1,.bool a0,.bool a1]/\Below w.heap.size w W:=⟨_,rfl,Blk.new _ _ _,bal _⟩
 have HW:=hid hW;have HB:=hid hb;have c0:=y0.cellAt 0 (by simp);have c1:=y0.cellAt 1 (by simp);have c2:=y0.cellAt 2 (by simp);have c3:=y0.cellAt 3 (by simp);simp only[ly] at c0 c1 c2 c3;clear hW hb y0
 cases a0<;>cases a1<;>cases l0<;>cases l1<;>(
  go_enter func269,ntmps269
  go_upto_region 1 with fail
  rw[<-HW.out];go_wp2;go_ret;exact⟨rfl,HB.out⟩)
theorem zjQ (n c g:Nat) (l:List Sn) (w:World) (h:Blk w g 252 (sns l).toArray) (hl:l.length = n) (hn:n <= 1048576) :
  Calls prog 305 #[.slice (some ⟨g,0,none⟩) n c,.func (.func 269) #[] #[]] w fun e w'=>e= .returned (.int .i64 (idxI zbw l))/\Below w.heap.size w w':=by
 have HL:=hid hl;have HY:=hid h;clear hl h;go_enter func305,ntmps305;go_wp2
 go_loopw [8] (fun i wr=>∃k:Nat,k<=n/\i= .int .i64 k/\za0 (fun x=>!zbw x) l k/\Below w.heap.size w wr) (fun i _=>n-(RowKit.intOf i).toNat)
 case atStart=>exact⟨0,Nat.zero_le _,rfl,za0.zero _ _,Below.refl _ _⟩
 case round=>
  obtain⟨k,hk,rfl,hall,hbel⟩:=hrel;have HA:=hid hall;have HB:=hid hbel;clear hall;by_cases hlt:k<n
  ·obtain⟨x,hx⟩:∃x,l[k]?=some x:=⟨_,List.getElem?_eq_getElem (show k<l.length by have:=HL.out;omega)⟩
   obtain⟨c0,c1,c2,c3⟩:=zkx (HY.out.on hbel) hx;have HE:=hid hx;clear hbel hx
   go_wp2_with fail
   refine(zoB x _).mono ?_;rintro e w1 ⟨rfl,b1⟩;have HF:=hid (zac HB.out b1 lr);clear b1 c0 c1 c2 c3;rcases ho:zbw x with _|_
   ·have HO:=hid ho;go_wp2
    go_roundw
    case rel=>exact⟨k+1,by omega,by go_num,HA.out.step HE.out (by rw[HO.out];rfl),HF.out⟩
    case measure=>simp[RowKit.intOf];omega
   ·have HO:=hid (show idxI zbw l=k from zcT HE.out ho (HA.out.imp fun x hx=>by simpa using hx));go_wp2;go_ret;exact⟨za3 HO.out.symm,HF.out⟩
  ·obtain rfl:k=n:=by omega
   have HO:=hid (show idxI zbw l=-1 from zdo (HA.out.imp fun x hx=>by simpa using hx) HL.out);go_wp2;go_ret;exact⟨za3 HO.out.symm,HB.out⟩
theorem zh2 (n c g:Nat) (l:List Sn) (w:World) (h:Blk w g 252 (sns l).toArray) (hl:l.length = n) (hn:n <= 1048576) :
  Calls prog 268 #[.slice (some ⟨g,0,none⟩) n c,.func (.func 269) #[] #[]] w fun e w'=>e= .returned (.bool (l.any zbw))/\Below w.heap.size w w':=by
 have HO:=hid (show decide (0<=idxI zbw l)=l.any zbw from by rw[zc5]);have HC:=hid (zjQ n c g l w h hl hn);clear h hl;go_enter func268,ntmps268
 go_wp2_with fail
 refine HC.out.mono ?_;rintro e w1 ⟨rfl,b1⟩;go_wp2;go_ret;exact⟨zae HO.out,b1⟩
def zbg(dgE dgA:Nat->Int)(l:List Sn):Nat->List Sn
 |0=>l
 |k+1=>zct (zbg dgE dgA l k) (zbZ dgE k) (dgE k) (dgE k !=dgA k)
theorem zf8(dgE dgA:Nat->Int)(l:List Sn):∀k,(zbg dgE dgA l k).length=l.length
 |0=>rfl
 |k+1=>by rw[zbg,zrA,zf8 dgE dgA l k]
def zaO(d:Nat)(ts:List Tl):List Sn:=ts.foldl (fun l t=>zbg (dgF d t.2) (dgF d t.1) l d) (List.replicate (2^d) sn0)
theorem zkv{d:Nat}{ts:List Tl}{k:Nat}{t:Tl}(h:ts[k]?=some t):zaO d (ts.take (k+1))=zbg (dgF d t.2) (dgF d t.1) (zaO d (ts.take k)) d:=by
 rw[List.take_add_one,h,Option.toList_some,zaO,List.foldl_append]
 rfl
theorem zeu(d:Nat)(ts:List Tl):(zaO d ts).length=2^d:=by
 unfold zaO
 have:∀(ts:List Tl) (l:List Sn),(ts.foldl (fun l t=>zbg (dgF d t.2) (dgF d t.1) l d) l).length=l.length:=by
  intro ts
  induction ts with
  |nil=>intro l;rfl
  |cons t ts ih=>intro l;rw[List.foldl_cons,ih,zf8]
 rw[this,List.length_replicate]
theorem ztT{l:List Sn}{v:Nat}:zct l (v:Int) 0 false=l.set v (snSet (l.getD v sn0) 0):=by
 unfold zct snUp snSet;simp
theorem ztU{l:List Sn}{v:Nat}:zct l (v:Int) 1 false=l.set v (snSet (l.getD v sn0) 1):=by
 unfold zct snUp snSet;simp
theorem zmW{l:List Sn}{v:Nat}(hv:v<l.length)(x:Sn):(l.set v x).getD v sn0=x:=by
 rw[List.getD_eq_getElem?_getD,List.getElem?_set_self hv];rfl
theorem ztV{l:List Sn}{v:Nat}(hv:v<l.length):zct l (v:Int) 0 true=(l.set v (snSet (l.getD v sn0) 0)).set v (snSet ((l.set v (snSet (l.getD v sn0) 0)).getD v sn0) 2):=by
 rw[zmW hv,List.set_set];unfold zct snUp snSet;simp
theorem ztW{l:List Sn}{v:Nat}(hv:v<l.length):zct l (v:Int) 1 true=(l.set v (snSet (l.getD v sn0) 1)).set v (snSet ((l.set v (snSet (l.getD v sn0) 1)).getD v sn0) 3):=by
 rw[zmW hv,List.set_set];unfold zct snUp snSet;simp
theorem Blk.snSet{w:World}{g:Nat}{t:TypeId}{l:List Sn}(h:Blk w g t (sns l).toArray)(v i:Nat){o:Nat}(ho:o=v*4+i)(hv:v<l.length)(hi:i<4):Blk (w.setCell ⟨g,o,none⟩ (.bool true)) g t (sns (l.set v (Go.Proofs.YtjalgpioklcbfaaGreatDoor.snSet (l.getD v sn0) i))).toArray:=by
 have:=h.set_ o (.bool true);rw[<-zpk l v i hv hi,<-ho];simpa using this
theorem zn0{d:Nat}{l:List Tl}(h:okTr (d:Int) l=true):1<=d/\d<=4/\l.length<=16/\∀t∈l,(0<=t.1/\t.1<=15)/\(0<=t.2/\t.2<=15):=by
 unfold okTr at h;simp only[Bool.and_eq_true,List.all_eq_true,decide_eq_true_eq] at h;have hd:=zam.1 h.1;have h4:d<=4:=by omega
 have hp:(2:Int)^d-1<=15:=by
  have:d=1\/d=2\/d=3\/d=4:=by omega
  rcases this with rfl|rfl|rfl|rfl<;>(simp only[Int.reducePow];omega)
 refine⟨by omega,h4,h.2.1,fun t ht=>?_⟩;have:=h.2.2 t ht;unfold okTl at this;rw[Bool.and_eq_true,Int.toNat_natCast] at this;have a:=zam.1 this.1;have b:=zam.1 this.2;exact⟨⟨a.1,by omega⟩,⟨b.1,by omega⟩⟩
theorem zqa (d:Nat) (A:Option Addr) (n c B:Nat) (l:List Tl) (w:World) (h:zad w B 2 A n (tls l)) (hB:B <= w.heap.size) (hok:okTr (d:Int) l = true) :
  Calls prog 217 #[.int .i64 (d:Int),.slice A n c] w fun e w'=>∃g,e= .returned (.tuple #[.slice (some ⟨g,0,none⟩) (2^d) (2^d),.bool (!(zaO d l).any zbw)])/\Blk w' g 252 (sns (zaO d l)).toArray/\w.heap.size<=g/\Below w.heap.size w w':=by
 obtain⟨h1,hd,hl16,hts⟩:=zn0 hok;have hl:=zey h;have HL:=hid hl;have HTS:=hid hts;have HR:=hid h;have hn16:n<=16:=by omega
 have h2d:wrap64 ((2:Int)^d)=((2^d:Nat):Int)/\2^d<=16/\1<=2^d:=by
  have:d=1\/d=2\/d=3\/d=4:=by omega
  rcases this with rfl|rfl|rfl|rfl<;>exact⟨by simp only[Int.reducePow];unfold wrap64;rfl,by decide,by decide⟩
 obtain⟨N,hN⟩:∃N,2^d=N:=⟨_,rfl⟩
 rw[hN] at h2d;obtain⟨hwr,hN1,hN2⟩:=h2d;have HSL:=hid (show(List.replicate N sn0)=zaO d (l.take 0) by rw[<-hN];rfl);have HLN:=hid (show∀ts,(zaO d ts).length=N by intro ts;rw[zeu,hN]);have HN:=hid hN;have hmk:=ztk N (by omega);have hb0:=Blk.new w 252 (madeCells #[.bool false,.bool false,.bool false,.bool false] (N*4));rw[zoV N,HSL.out] at hb0;have HB0:=hid hb0;have hme:=zoV N;rw[HSL.out] at hme;have HME:=hid hme;have HBL0:=hid ((Below.refl w.heap.size w).alloc lr (.cells (sns (zaO d (l.take 0))).toArray 252));rw[hN];clear h hok hl hts hl16 hN hb0 hme;go_enter func217,ntmps217
 go_wp2_with fail
 try rw[HME.out]
 go_loopw [18] (fun i wr=>∃(k:Nat),k<=n/\i= .int .i64 (k:Int)/\Blk wr w.heap.size 252 (sns (zaO d (l.take k))).toArray/\Below w.heap.size w wr) (fun i _=>n-(RowKit.intOf i).toNat)
 case atStart=>exact⟨0,Nat.zero_le _,rfl,HB0.out,HBL0.out⟩
 case round=>
  obtain⟨k,hk,rfl,hblk,hbel⟩:=hrel;have HY:=hid hblk;have HBr:=hid hbel;clear hblk hbel hmk hwr;have hk0:(0:Int)<=k:=by omega
  by_cases hlt:k<n
  ·obtain⟨t,b,off,he,rfl,hb,c0,c1⟩:=zi8 (HR.out.on hB HBr.out) hlt;have htb:=HTS.out t (List.mem_of_getElem? he);have HSN:=hid (zkv (d:=d) he);have hkn:(k:Int)<n:=by omega
   obtain⟨ta,te⟩:=t;simp only at c0 c1 htb HSN;obtain⟨⟨hta0,hta1⟩,⟨hte0,hte1⟩⟩:=htb;clear he
   go_upto_region 5 with fail
   obtain⟨u,hu⟩:∃y,wr.alloc (.cells #[.int .i64 ta,.int .i64 te] 132)=y:=⟨_,rfl⟩
   have yu:Blk u wr.heap.size 132 #[.int .i64 ta,.int .i64 te]:=by rw[<-hu];exact Blk.new _ _ _
   have bu:Below wr.heap.size wr u:=by rw[<-hu];exact bal _
   rw[hu];have p0:=yu.cellAt 0 (by simp);have p1:=yu.cellAt 1 (by simp);simp only[ly] at p0 p1;have HYu:=hid (HY.out.on bu);have HBu:=hid (zac HBr.out bu lr);have HTu:=hid yu;have HGW:=hid (show w.heap.size<wr.heap.size from HY.out.lt);clear hu yu bu c0 c1
   go_wp2_with fail
   refine(zlh d te h1 hd hte0 hte1 u).mono ?_;rintro e w5 ⟨A5,q5,d5,rfl,s5,b5⟩;have HS5:=hid s5.low;have HY5:=hid (HYu.out.on b5);have HT5:=hid (HTu.out.on b5);have HB5:=hid (zac HBu.out b5 lr);have hq5:d=q5:=by have:=zai (s5.reads lr);simpa[zfc] using this
   have HGU:=hid (show wr.heap.size<u.heap.size from HTu.out.lt);subst hq5;clear b5 s5 p0 p1;obtain⟨sl,hsl⟩:∃z,zaO d (l.take k)=z:=⟨_,rfl⟩
   have HSL5:=hid (show sl.length=N by rw[<-hsl,HLN.out]);rw[hsl] at HSN HY5;clear hsl
   go_wp2_with fail
   go_loopw [27] (fun i wx=>∃(j:Nat),j<=d/\i= .int .i64 (j:Int)/\Blk wx w.heap.size 252 (sns (zbg (dgF d te) (dgF d ta) sl j)).toArray/\Blk wx wr.heap.size 132 #[.int .i64 ta,.int .i64 te]/\Sl wx u.heap.size wx.heap.size 2 1 A5 d d5 (ints (zfc d te d))/\Below w.heap.size w wx) (fun i _=>d-(RowKit.intOf i).toNat)
   case atStart=>exact⟨0,Nat.zero_le _,rfl,HY5.out,HT5.out,HS5.out,HB5.out⟩
   case round=>
    rename World=>wx
    obtain⟨j,hj,rfl,hy,ht,hs,hbel⟩:=hrel;have HYx:=hid hy;have HTx:=hid ht;have HSx:=hid hs;have HBx:=hid hbel;clear hy ht hs hbel;have hj0:(0:Int)<=j:=by omega
    by_cases hjt:j<d
    ·obtain⟨v,b2,off2,he,rfl,hb2,c0⟩:=zax (HSx.out.reads lr) hjt
     have hv:v=zbZ (dgF d te) j:=by
      unfold zfc at he;rw[List.getElem?_map,List.getElem?_range (by omega)] at he;injection he with he;exact he.symm
     have hvb:=zjp (d:=d) (x:=te) (k:=j) (by omega);have hvh:=zfQ (zez d te) j;rw[<-hv] at hvb hvh;obtain⟨vn,hvn⟩:=Int.eq_ofNat_of_zero_le (show 0<=v by omega)
     have hvN:vn<N:=by
      have h4:(2:Int)^(j+1)<=(2:Int)^d:=by have:=Nat.pow_le_pow_right (n:=2) (by decide) (show j+1<=d by omega);exact_mod_cast this
      have h5:((N:Nat):Int)=(2:Int)^d:=by rw[<-HN.out];exact Int.natCast_pow 2 d
      omega
     have HUP:=hid (show zbg (dgF d te) (dgF d ta) sl (j+1)=zct (zbg (dgF d te) (dgF d ta) sl j) (vn:Int) (dgF d te j) (dgF d te j !=dgF d ta j) by rw[zbg,<-hv,hvn]);have HLT:=hid (show(zbg (dgF d te) (dgF d ta) sl j).length=N by rw[zf8,HSL5.out]);subst hvn;obtain⟨L,hL⟩:∃z,zbg (dgF d te) (dgF d ta) sl j=z:=⟨_,rfl⟩
     rw[hL] at HYx HUP HLT;have p0:=HTx.out.cellAt 0 (by simp);have p1:=HTx.out.cellAt 1 (by simp);simp only[ly] at p0 p1;have hjq:(j:Int)<d:=by omega
     have hvN2:(vn:Int)<N:=by omega
     clear he hv hL hvh hvb;have hdb:=zez d te j;have hda:=zez d ta j
     go_wp2_with fail
     refine(zh9 d j te hd hjt hte0 hte1 wx).mono ?_;rintro e w6 ⟨rfl,rfl⟩;have HDA:=hid (zh9 d j ta hd hjt hta0 hta1);obtain⟨x,hx⟩:∃z,dgF d te j=z:=⟨_,rfl⟩
     obtain⟨y,hy⟩:∃z,dgF d ta j=z:=⟨_,rfl⟩
     rw[hx] at hdb HUP⊢;rw[hy] at hda HUP HDA;clear hx hy;have hx01:x=0\/x=1:=by omega
     have hy01:y=0\/y=1:=by omega
     clear hdb hda;have f0:=fun i=>HYx.out.frozen i;have hvL:vn<L.length:=by rw[HLT.out];exact hvN
     obtain⟨S,hS⟩:∃S,L[vn]?=some S:=⟨_,List.getElem?_eq_getElem hvL⟩
     obtain⟨s0,s1,s2,s3⟩:=zkx HYx.out hS;have HVL:=hid hvL;clear hS hvL;rcases hx01 with rfl|rfl
     ·go_upto_region 10 with fail
      obtain⟨u2,hu2⟩:∃y,w6.setCell ⟨w.heap.size,vn*4,none⟩ (.bool true)=y:=⟨_,rfl⟩
      rw[hu2];have y2:Blk u2 w.heap.size 252 (sns (L.set vn (snSet (L.getD vn sn0) 0))).toArray:=by rw[<-hu2];exact HYx.out.snSet vn 0 (by omega) HVL.out (by decide)
      have HT2:=hid (show Blk u2 wr.heap.size 132 #[.int .i64 ta,.int .i64 te] by rw[<-hu2];exact HTx.out.far (show wr.heap.size≠w.heap.size by have:=HGW.out;omega) _);have HS2:=hid (show Sl u2 u.heap.size u2.heap.size 2 1 (some ⟨b2,off2,none⟩) d d5 (ints (zfc d te d)) by rw[<-hu2];exact(HSx.out.setLow (show w.heap.size<u.heap.size by have:=HGW.out;have:=HGU.out;omega) _).low);have HB2:=hid (show Below w.heap.size w u2 by rw[<-hu2];exact HBx.out.setCell lr _);have HY2:=hid y2;have p0:=HT2.out.cellAt 0 (by simp);have p1:=HT2.out.cellAt 1 (by simp);simp only[ly] at p0 p1;clear hu2 s0 s1 s2 s3 f0 y2
      go_wp2_with fail
      refine(HDA.out u2).mono ?_;rintro e w7 ⟨rfl,rfl⟩;rcases hy01 with rfl|rfl
      ·have HU2:=hid (show zbg (dgF d te) (dgF d ta) sl (j+1)=L.set vn (snSet (L.getD vn sn0) 0) by rw[HUP.out];exact ztT);go_wp2
       go_roundw
       case rel=>exact⟨j+1,by omega,by go_num,by rw[HU2.out];exact HY2.out,HT2.out,HS2.out,HB2.out⟩
       case measure=>simp[RowKit.intOf];omega
      ·have HU2:=hid (show zbg (dgF d te) (dgF d ta) sl (j+1)=(L.set vn (snSet (L.getD vn sn0) 0)).set vn (snSet ((L.set vn (snSet (L.getD vn sn0) 0)).getD vn sn0) 2) by rw[HUP.out];exact ztV HVL.out);have hv2:vn<(L.set vn (snSet (L.getD vn sn0) 0)).length:=by rw[List.length_set];exact HVL.out
       obtain⟨S2,hS2⟩:∃S,(L.set vn (snSet (L.getD vn sn0) 0))[vn]?=some S:=⟨_,List.getElem?_eq_getElem hv2⟩
       obtain⟨s0,s1,s2,s3⟩:=zkx HY2.out hS2;have f2:=fun i=>HY2.out.frozen i;have HV2:=hid hv2;clear hS2 hv2;go_wp2
       go_roundw
       case rel=>
        refine⟨j+1,by omega,by go_num,?_,?_,?_,?_⟩
        ·rw[HU2.out];exact HY2.out.snSet vn 2 (by omega) HV2.out (by decide)
        ·exact HT2.out.far (show wr.heap.size≠w.heap.size by have:=HGW.out;omega) _
        ·exact(HS2.out.setLow (show w.heap.size<u.heap.size by have:=HGW.out;have:=HGU.out;omega) _).low
        ·exact HB2.out.setCell lr _
       case measure=>simp[RowKit.intOf];omega
     ·go_upto_region 10 with fail
      obtain⟨u2,hu2⟩:∃y,w6.setCell ⟨w.heap.size,vn*4+1,none⟩ (.bool true)=y:=⟨_,rfl⟩
      rw[hu2];have y2:Blk u2 w.heap.size 252 (sns (L.set vn (snSet (L.getD vn sn0) 1))).toArray:=by rw[<-hu2];exact HYx.out.snSet vn 1 (by omega) HVL.out (by decide)
      have HT2:=hid (show Blk u2 wr.heap.size 132 #[.int .i64 ta,.int .i64 te] by rw[<-hu2];exact HTx.out.far (show wr.heap.size≠w.heap.size by have:=HGW.out;omega) _);have HS2:=hid (show Sl u2 u.heap.size u2.heap.size 2 1 (some ⟨b2,off2,none⟩) d d5 (ints (zfc d te d)) by rw[<-hu2];exact(HSx.out.setLow (show w.heap.size<u.heap.size by have:=HGW.out;have:=HGU.out;omega) _).low);have HB2:=hid (show Below w.heap.size w u2 by rw[<-hu2];exact HBx.out.setCell lr _);have HY2:=hid y2;have p0:=HT2.out.cellAt 0 (by simp);have p1:=HT2.out.cellAt 1 (by simp);simp only[ly] at p0 p1;clear hu2 s0 s1 s2 s3 f0 y2
      go_wp2_with fail
      refine(HDA.out u2).mono ?_;rintro e w7 ⟨rfl,rfl⟩;rcases hy01 with rfl|rfl
      ·have HU2:=hid (show zbg (dgF d te) (dgF d ta) sl (j+1)=(L.set vn (snSet (L.getD vn sn0) 1)).set vn (snSet ((L.set vn (snSet (L.getD vn sn0) 1)).getD vn sn0) 3) by rw[HUP.out];exact ztW HVL.out);have hv2:vn<(L.set vn (snSet (L.getD vn sn0) 1)).length:=by rw[List.length_set];exact HVL.out
       obtain⟨S2,hS2⟩:∃S,(L.set vn (snSet (L.getD vn sn0) 1))[vn]?=some S:=⟨_,List.getElem?_eq_getElem hv2⟩
       obtain⟨s0,s1,s2,s3⟩:=zkx HY2.out hS2;have f2:=fun i=>HY2.out.frozen i;have HV2:=hid hv2;clear hS2 hv2;go_wp2
       go_roundw
       case rel=>
        refine⟨j+1,by omega,by go_num,?_,?_,?_,?_⟩
        ·rw[HU2.out];exact HY2.out.snSet vn 3 (by omega) HV2.out (by decide)
        ·exact HT2.out.far (show wr.heap.size≠w.heap.size by have:=HGW.out;omega) _
        ·exact(HS2.out.setLow (show w.heap.size<u.heap.size by have:=HGW.out;have:=HGU.out;omega) _).low
        ·exact HB2.out.setCell lr _
       case measure=>simp[RowKit.intOf];omega
      ·have HU2:=hid (show zbg (dgF d te) (dgF d ta) sl (j+1)=L.set vn (snSet (L.getD vn sn0) 1) by rw[HUP.out];exact ztU);go_wp2
       go_roundw
       case rel=>exact⟨j+1,by omega,by go_num,by rw[HU2.out];exact HY2.out,HT2.out,HS2.out,HB2.out⟩
       case measure=>simp[RowKit.intOf];omega
    ·obtain rfl:d=j:=by omega
     go_wp2
     go_roundw
     case rel=>exact⟨k+1,by omega,by go_num,by rw[HSN.out];exact HYx.out,HBx.out⟩
     case measure=>simp[RowKit.intOf];omega
  ·obtain rfl:n=k:=by omega
   have HLT:=hid (show l.take n=l by rw[<-HL.out,List.take_length]);have hy:=HY.out;rw[HLT.out] at hy;have HY2:=hid hy;clear hy
   go_wp2_with fail
   refine(zh2 N N w.heap.size _ wr HY2.out (HLN.out _) (by omega)).mono ?_;rintro e w6 ⟨rfl,b6⟩;have HY6:=hid (HY2.out.on b6);have HB6:=hid (zac HBr.out b6 lr);clear b6;go_wp2;go_ret2;exact⟨w.heap.size,rfl,HY6.out,Nat.le_refl _,HB6.out⟩
end
end Go.Proofs.YtjalgpioklcbfaaGreatDoor
