/- Steps of the proof. -/
import Derived.Test.YtjalgpioklcbfaaGreatDoorKExL
import Derived.Test.YtjalgpioklcbfaaGreatDoorMgDesksAX
set_option linter.unusedVariables false
set_option maxHeartbeats 4000000
set_option linter.unusedSimpArgs false
namespace Go.Proofs.YtjalgpioklcbfaaGreatDoor
section
open Go.RowKit Go.Proofs.Tryz
def zeS(k n:Nat):List ByteArray:=(List.range n).map fun(j:Nat)=>ze6 (k+j)
theorem zlj(k n:Nat):(zeS k n).length=n:=by simp[zeS]
theorem ziU{k n i:Nat}(h:i<n):(zeS k n)[i]?=some (ze6 (k+i)):=by simp[zeS,h]
theorem zmz (A:Option Addr) (n c lo hi:Nat) (xs:List Value) (w:World) (h:Sl w lo hi 9 1 A n c xs) (hn:n <= 1048576) (k0:Nat) (hk9:k0 <= 99000000000000) :
  Calls prog 20 #[.slice A n c,.int .i64 (k0:Int)] w fun e w'=>e= .returned (.int .i64 ((k0:Int)+(n:Int)))/\Sl w' lo hi 9 1 A n c (strs (zeS k0 n))/\Only lo hi w w':=by
 go_enter func20,ntmps20;go_wp2
 go_loopw [1,5] (fun q i wr=>∃(k:Nat) (ys:List Value),k<=n/\i= .int .i64 k/\q= .int .i64 ((k0:Int)+(k:Int))/\Sl wr lo hi 9 1 A n c ys/\zdC ys (strs (zeS k0 n)) k/\Only lo hi w wr) (fun _ i _=>n-(RowKit.intOf i).toNat)
 case atStart=>exact⟨0,xs,Nat.zero_le _,rfl,by simp,h,zdC.zero _ _,Only.refl _ _ _⟩
 case round=>
  obtain⟨k,ys,hk,rfl,rfl,hsl,hfill,honly⟩:=hrel;have HS:=hid hsl;have HF:=hid hfill;have HO:=hid honly;have hlen:=hsl.len;have HN:=hid hlen;have hlen1:n<=ys.length:=by omega
  clear hsl hfill honly h hlen;by_cases hlt:k<n
  ·obtain⟨g,rfl,hg1,hg2,hg3⟩:=HS.out.lt (by omega)
   go_wp2_with fail
   rw[show((k0:Int)+(k:Int))=((k0+k:Nat):Int) from by omega];refine(zhV _ _ (by omega)).mono ?_;rintro e w1 ⟨rfl,b1⟩;have HS1:=hid (HS.out.on b1);have HO1:=hid (HO.out.trans (Only.of_below b1 _ _));clear b1;obtain⟨u0,hu0⟩:=zi4 (ys:=ys) (j:=k) (by omega);have hc0:=(HS1.out.cellAt k (by omega)).trans hu0;clear hu0;have hf0:=HS1.out.frozenAt k;have hi0:(0:Int)<=k:=by omega
   have hi1:(k:Int)<n:=by omega
   go_wp2
   go_roundw
   case rel=>
    refine⟨k+1,_,by omega,by go_num,?_,HS1.out.set_ k (.string (ze6 (k0+k))),?_,HO1.out.setCell (p:=⟨g,k,none⟩) hg1 hg2 (.string (ze6 (k0+k)))⟩
    ·simp;omega
    ·exact HF.out.step (zeQ (ziU hlt)) (by omega)
   case measure=>simp[RowKit.intOf];omega
  ·obtain rfl:k=n:=by omega
   go_wp2;go_ret;refine⟨rfl,?_,HO.out⟩;rw[<-HF.out.done (by have:=HN.out;omega) (by rw[za6,zlj])];exact HS.out
theorem zho (A:Option Addr) (n c B k0:Nat) (w:World) (h:zad w B 1 A n (strs (zeS k0 n))) (hn:n <= 1048576) (hk9:k0 <= 99000000000000) (hB:B <= w.heap.size) :
  Calls prog 22 #[.slice A n c,.int .i64 (k0:Int)] w fun e w'=>e= .returned (.int .i64 ((k0:Int)+(n:Int)))/\Below w.heap.size w w':=by
 go_enter func22,ntmps22;go_wp2
 go_loopw [1,5] (fun q i wr=>∃(k:Nat),k<=n/\i= .int .i64 k/\q= .int .i64 ((k0:Int)+(k:Int))/\Below w.heap.size w wr) (fun _ i _=>n-(RowKit.intOf i).toNat)
 case atStart=>exact⟨0,Nat.zero_le _,rfl,by simp,Below.refl _ _⟩
 case round=>
  obtain⟨k,hk,rfl,rfl,hbel⟩:=hrel;by_cases hlt:k<n
  ·obtain⟨b,off,rfl,hb,hcell⟩:=(h.on hB hbel).at_ (by omega);have c0:wr.cell? ⟨b,off+k,none⟩=some (.string (ze6 (k0+k))):=hcell _ _ (zeQ (ziU hlt));have HB:=hid hbel;have hlt':(k:Int)<n:=by omega
   have hi0:(0:Int)<=k:=by omega
   clear hcell hbel h
   go_wp2_with fail
   have hcall:∀W:World,Calls prog 58 #[.int .i64 ((k0:Int)+(k:Int))] W fun e w'=>e= .returned (.string (ze6 (k0+k)))/\Below W.heap.size W w':=by
    intro W;rw[show((k0:Int)+(k:Int))=((k0+k:Nat):Int) from by omega];exact zhV _ W (by omega)
   have HC1:=hid hcall;clear hcall
   go_region_held3 (fun W=>Below wr.heap.size wr W/\W.cell? ⟨b,off+k,none⟩=some (.string (ze6 (k0+k)))) (first|exact⟨(Below.refl _ _).drew,c0⟩|(go_split_ands;exact⟨zac (by assumption) hb1 lr,zaa hb1 (by assumption)⟩)) (first|(go_at_call 58;refine(HC1.out _).mono ?_;rintro e w1 ⟨rfl,hb1⟩))
   rename_i hS1;have HB1:=hid (zac HB.out hS1.1 lr);clear hS1 hb1 c0;go_wp2
   go_roundw
   case rel=>exact⟨k+1,by omega,by go_num,by simp;omega,HB1.out⟩
   case measure=>simp[RowKit.intOf];omega
  ·obtain rfl:k=n:=by omega
   go_wp2;go_ret;exact⟨rfl,hbel⟩
def zc6(w:World)(lo:Nat)(rs:List Rn)(cs:Array Value)(k:Nat):Prop:=
 k<=rs.length/\∃hs:List RnH,hs.length=k/\Fill cs (rns hs) (k*2)/\(∀(j:Nat) (h:RnH) (r:Rn),hs[j]?=some h->rs[j]?=some r->h.st=r.st/\h.m<=9223372036854775807/\Sl w lo w.heap.size 2 1 h.A h.m h.c (ints r.way))/\(∀(i j:Nat) (h h':RnH),i<j->hs[i]?=some h->hs[j]?=some h'->∀b,inB h.A b->¬inB h'.A b)
theorem zc6.zero(w:World)(lo:Nat)(rs:List Rn)(cs:Array Value):zc6 w lo rs cs 0:=⟨Nat.zero_le _,[],rfl,Fill.zero _ _,fun j h r h1 _=>by simp at h1,fun i j h h' _ h1=>by simp at h1⟩
theorem zc6.set_{w:World}{lo:Nat}{rs:List Rn}{cs:Array Value}{k:Nat}(h:zc6 w lo rs cs k){p:Addr}(hp:p.block<lo)(u:Value):zc6 (w.setCell p u) lo rs cs k:=by
 obtain⟨hk,hs,h1,h2,h3,h4⟩:=h;have hO:Only p.block (p.block+1) w (w.setCell p u):=(Only.refl _ _ _).setCell lr (Nat.lt_succ_self _) _;exact⟨hk,hs,h1,h2,fun j h r e1 e2=>⟨(h3 j h r e1 e2).1,(h3 j h r e1 e2).2.1,((h3 j h r e1 e2).2.2.apart hO (.inr (by omega))).wide lr hO.size⟩,h4⟩
theorem zc6.step {wr w:World} {lo:Nat} {rs:List Rn} {cs:Array Value} {k m c:Nat} {A:Option Addr} {r:Rn} (h:zc6 wr lo rs cs k) (hb:Below wr.heap.size wr w) (hl:lo <= wr.heap.size) (hr:rs[k]? = some r) (hm:m <= 9223372036854775807) (hd:Sl w wr.heap.size w.heap.size 2 1 A m c (ints r.way)) (hcs:k * 2 + 1 < cs.size) :
  zc6 w lo rs ((cs.setIfInBounds (k*2) (.slice A m c)).setIfInBounds (k*2+1) (.int .i64 r.st)) (k+1):=by
 obtain⟨hkr,hs,h1,h2,h3,h4⟩:=h;have hk:(hs++ [⟨A,m,c,r.st⟩])[k]?=some (⟨A,m,c,r.st⟩:RnH):=by rw[<-h1];simp
 have hF:Fill cs (rns (hs++ [⟨A,m,c,r.st⟩])) (k*2):=fun j hj=>by
  rw[h2 j hj,rns,rns,List.flatMap_append,List.getElem?_append_left (by have:=zc1 hs;unfold rns at this;omega)]
 obtain⟨e0,e1⟩:=zeP hk
 have hlast:∀(j:Nat) (y:RnH),¬j<hs.length->(hs++ [⟨A,m,c,r.st⟩])[j]?=some y->y=⟨A,m,c,r.st⟩/\j=k:=fun j y e g1=>by
  have hj:=(List.getElem?_eq_some_iff.1 g1).1;simp at hj;obtain rfl:j=k:=by omega
  rw[hk] at g1;exact⟨(Option.some.inj g1).symm,rfl⟩
 refine⟨(List.getElem?_eq_some_iff.1 hr).1,hs++ [⟨A,m,c,r.st⟩],by simp[h1],?_,fun j h r' g1 g2=>?_,fun i j h h' hij g1 g2 b b1 b2=>?_⟩
 ·rw[show(k+1)*2=k*2+1+1 from by omega];exact(hF.step e0 (by omega)).step e1 (by simp;omega)
 ·by_cases e:j<hs.length
  ·rw[List.getElem?_append_left e] at g1;exact⟨(h3 j h r' g1 g2).1,(h3 j h r' g1 g2).2.1,((h3 j h r' g1 g2).2.2.on hb).wide lr hb.size⟩
  ·obtain⟨rfl,rfl⟩:=hlast j h e g1;rw[hr] at g2;injection g2 with g2;subst g2;exact⟨rfl,hm,hd.wide hl lr⟩
 ·by_cases e:j<hs.length
  ·rw[List.getElem?_append_left e] at g2;rw[List.getElem?_append_left (by omega)] at g1;exact h4 i j h h' hij g1 g2 b b1 b2
  ·obtain⟨rfl,rfl⟩:=hlast j h' e g2;have hi:i<hs.length:=by omega
   rw[List.getElem?_append_left hi] at g1;have hir:i<rs.length:=by omega
   have q1:=(h3 i h _ g1 (List.getElem?_eq_getElem hir)).2.2.inB_lt b1;have q2:=hd.inB_lt b2;omega
theorem zc6.done{w:World}{lo lo':Nat}{rs:List Rn}{cs:Array Value}{k g:Nat}(h:zc6 w lo rs cs k)(hb:Blk w g 123 cs)(hc:cs.size=k*2)(hr:rs.length=k)(h1:lo'<=g)(h2:g<lo)(hk:k<=maxLen):∃rh,OwnR w lo' w.heap.size (some ⟨g,0,none⟩) k k rs rh:=by
 obtain⟨_,hs,g1,g2,g3,g4⟩:=h;have hg:=hb.lt;refine⟨hs,?_,hr,fun j h r e1 e2=>⟨(g3 j h r e1 e2).1,(g3 j h r e1 e2).2.1,(g3 j h r e1 e2).2.2.wide (by omega) lr⟩,fun i h hi b b1 b2=>?_,fun i j h h' hne e1 e2 b b1 b2=>?_⟩
 ·rw[g2.done hc (by rw[zc1];omega)] at hb;exact Sl.of_blk hb h1 hg (by rw[zc1];omega) hk
 ·have hir:i<rs.length:=by have:=(List.getElem?_eq_some_iff.1 hi).1;omega
  have q:=(g3 i h _ hi (List.getElem?_eq_getElem hir)).2.2.inB_lt b1;obtain⟨ad,e,rfl⟩:=b2;injection e with e;subst e;exact absurd h2 (by simpa using q.1)
 ·rcases Nat.lt_or_gt_of_ne hne with hl|hl
  ·exact g4 i j h h' hl e1 e2 b b1 b2
  ·exact g4 j i h' h hl e2 e1 b b2 b1
theorem zqp (A:Option Addr) (n c B:Nat) (rs:List Rn) (w:World) (h:zaC w B A n rs) (hB:B <= w.heap.size) (hn:n <= 1048576) (hsm:zbM rs) :
  Calls prog 51 #[.slice A n c] w fun e w'=>∃g rh,e= .returned (.slice (some ⟨g,0,none⟩) n n)/\OwnR w' w.heap.size w'.heap.size (some ⟨g,0,none⟩) n n rs rh/\Below w.heap.size w w':=by
 have hmk:=zoW n hn;have HSM:=hid hsm;clear hsm;go_enter func51,ntmps51;go_wp2;have hb0:=Blk.new w 123 (madeCells #[.slice none 0 0,.int .i64 0] (n*2))
 go_loopw [4] (fun i wr=>∃(k:Nat) (cs:Array Value),k<=n/\i= .int .i64 k/\Blk wr w.heap.size 123 cs/\cs.size=n*2/\zc6 wr (w.heap.size+1) rs cs k/\Below w.heap.size w wr) (fun i _=>n-(RowKit.intOf i).toNat)
 case atStart=>exact⟨0,_,Nat.zero_le _,rfl,hb0,size_madeCells _ _,zc6.zero _ _ _ _,bal _⟩
 case round=>
  obtain⟨k,cs,hk,rfl,hblk,hcs,hfill,hbel⟩:=hrel;clear hmk hb0;have HF:=hid hfill;have HC:=hid hcs;have HBk:=hid hblk;have hgl:=hblk.lt;clear hfill hcs hblk;by_cases hlt:k<n
  ·obtain⟨x,b,off,A',m,c',he,rfl,hb,c0,c1,hrd,hm⟩:=zcn (h.on hB hbel) hlt;have HE:=hid he;have hm2:m<=1048576:=by have:=HSM.out k x he;have:=zai hrd;omega
   have HR:=hid (hrd.more (B':=wr.heap.size) (Nat.le_trans hB hbel.size));have HB:=hid hbel;clear he hbel hrd
   go_wp2_with fail
   refine(zmc A' m c' _ x.st x.way _ HR.out lr hm2).mono ?_;rintro e w1 ⟨g',rfl,hr1,hb1⟩;have hblk1:=HBk.out.below hb1 hgl;have hs0:=hblk1.cellAt (k*2) (by have:=HC.out;omega);have f0:=hblk1.frozen (k*2);have hs1:=hblk1.cellAt (k*2+1) (by have:=HC.out;omega);have f1:=hblk1.frozen (k*2+1);have HB1:=hid hb1;have HR1:=hid hr1;have HBk1:=hid hblk1;clear hb1 hr1 hblk1;go_wp2
   go_roundw
   case rel=>
    refine⟨k+1,_,by omega,by go_num,(HBk1.out.set_ _ _).set_ _ _,by simp[HC.out],?_,((zac HB.out HB1.out lr).setCell lr _).setCell lr _⟩;refine((zc6.step HF.out HB1.out (by have:=HBk.out.lt;omega) HE.out (by omega) HR1.out (by have:=HC.out;omega)).set_ ?_ _).set_ ?_ _<;>exact Nat.lt_succ_self _
   case measure=>simp[RowKit.intOf];omega
  ·obtain rfl:k=n:=by omega
   go_wp2;go_ret;obtain⟨rh,ho⟩:=HF.out.done HBk.out HC.out h.len lr (Nat.lt_succ_self _) (by unfold maxLen;omega);exact⟨_,rh,rfl,ho,hbel⟩
theorem zk9 (h:DkH) (d:Dk) (B:Nat) (w:World) (hr:DkR w B h d) (hs:DkS h d) (hB:B <= w.heap.size) :
  Calls prog 16 #[.agg #[.int .i64 d.net.sta,.slice h.A1 h.n1 h.c1,.slice h.A2 h.n2 h.c2,.slice h.A3 h.n3 h.c3,.string d.log]] w fun e w'=>∃(h':DkH) (rh:List RnH),e= .returned (.agg #[.int .i64 d.net.sta,.slice h'.A1 h'.n1 h'.c1,.slice h'.A2 h'.n2 h'.c2,.slice h'.A3 h'.n3 h'.c3,.string d.log])/\OwnD w' w.heap.size w'.heap.size h' d rh/\DkS h' d/\Below w.heap.size w w':=by
 obtain⟨W,hW,hsz,k0,k1,k2,hb⟩:=zdf w #[.int .i64 d.net.sta,.slice h.A1 h.n1 h.c1,.slice h.A2 h.n2 h.c2,.slice h.A3 h.n3 h.c3,.string d.log] #[.int .i64 0,.slice none 0 0,.slice none 0 0,.slice none 0 0,.string ⟨#[]⟩] #[.int .i64 0,.slice none 0 0,.slice none 0 0,.slice none 0 0,.string ⟨#[]⟩] 46 32 32;have HW:=hid hW;have HS:=hid hsz;have HK0:=hid k0;have HK1:=hid k1;have HK2:=hid k2;have HB:=hid hb;have HR:=hid hr;have HD:=hid hs;clear hW hsz k0 k1 k2 hb hr hs;go_enter func16,ntmps16
 go_wp2_with fail
 rw[<-HW.out];refine(zmb h.A1 h.n1 h.c1 B d.net W (HR.out.tubes.on hB HB.out) (Nat.le_trans hB HB.out.size) HD.out.n1).mono ?_;rintro e w1 ⟨g1,rfl,s1,b1⟩;have a0:=(HK2.out.on b1).cellAt 0 (by simp);have f0:=(HK2.out.on b1).frozen 0;have a1:=(HK2.out.on b1).cellAt 1 (by simp);have f1:=(HK2.out.on b1).frozen 1;have a2:=(HK2.out.on b1).cellAt 2 (by simp);have f2:=(HK2.out.on b1).frozen 2;have a3:=(HK2.out.on b1).cellAt 3 (by simp);have f3:=(HK2.out.on b1).frozen 3;have a4:=(HK2.out.on b1).cellAt 4 (by simp);have f4:=(HK2.out.on b1).frozen 4;have o2:=(HK0.out.on b1).cellAt 2 (by simp);have o3:=(HK0.out.on b1).cellAt 3 (by simp);have o4:=(HK0.out.on b1).cellAt 4 (by simp)
 simp only[ly] at a0 a1 a2 a3 a4 o2 o3 o4;obtain⟨V1,hV1⟩:∃V1,V1=(w1.setCell ⟨w.heap.size+1+1,0,none⟩ (.int .i64 d.net.sta)).setCell ⟨w.heap.size+1+1,1,none⟩ (.slice (some ⟨g1,0,none⟩) h.n1 h.n1):=⟨_,rfl⟩
 have HO1:=hid (show Only w.heap.size W.heap.size w1 V1 by rw[hV1];have:=HS.out;exact((Only.refl _ _ _).setCell (by simp;omega) (by simp;omega) _).setCell (by simp;omega) (by simp;omega) _);have HL0:=hid (show Blk V1 w.heap.size _ _ by rw[hV1];exact((HK0.out.on b1).far (p:=⟨w.heap.size+1+1,0,none⟩) (by simp;omega) _).far (p:=⟨w.heap.size+1+1,1,none⟩) (by simp;omega) _);have HL1:=hid (show Blk V1 (w.heap.size+1) _ _ by rw[hV1];exact((HK1.out.on b1).far (p:=⟨w.heap.size+1+1,0,none⟩) (by simp) _).far (p:=⟨w.heap.size+1+1,1,none⟩) (by simp) _)
 have HL2:=hid (show Blk V1 (w.heap.size+1+1) 32 #[.int .i64 d.net.sta,.slice (some ⟨g1,0,none⟩) h.n1 h.n1,.slice none 0 0,.slice none 0 0,.string ⟨#[]⟩] by rw[hV1];exact((HK2.out.on b1).set_ 0 _).set_ 1 _);have HB1:=hid (zbN (zac HB.out b1 lr) HO1.out lr lr);have S1:=hid (s1.apart HO1.out (.inr lr));have HV1:=hid hV1;have HZ1:=hid b1.size;clear s1 b1 hV1
 go_wp2_with fail
 rw[<-HV1.out];clear a0 a1 a2 a3 a4 o2 o3 o4 f0 f1 f2 f3 f4;refine(zgb h.A2 h.n2 h.c2 B d.times V1 (HR.out.times.on hB HB1.out) (Nat.le_trans hB HB1.out.size) HD.out.n2).mono ?_;rintro e w2 ⟨g2,rfl,s2,b2⟩;have a0:=(HL2.out.on b2).cellAt 0 (by simp);have f0:=(HL2.out.on b2).frozen 0;have a1:=(HL2.out.on b2).cellAt 1 (by simp);have f1:=(HL2.out.on b2).frozen 1;have a2:=(HL2.out.on b2).cellAt 2 (by simp);have f2:=(HL2.out.on b2).frozen 2;have a3:=(HL2.out.on b2).cellAt 3 (by simp);have f3:=(HL2.out.on b2).frozen 3;have a4:=(HL2.out.on b2).cellAt 4 (by simp);have f4:=(HL2.out.on b2).frozen 4;have o2:=(HL0.out.on b2).cellAt 2 (by simp);have o3:=(HL0.out.on b2).cellAt 3 (by simp)
 have o4:=(HL0.out.on b2).cellAt 4 (by simp);simp only[ly] at a0 a1 a2 a3 a4 o2 o3 o4;obtain⟨V2,hV2⟩:∃V2,V2=w2.setCell ⟨w.heap.size+1+1,2,none⟩ (.slice (some ⟨g2,0,none⟩) h.n2 h.n2):=⟨_,rfl⟩
 have HO2:=hid (show Only w.heap.size W.heap.size w2 V2 by rw[hV2];have:=HS.out;exact(Only.refl _ _ _).setCell (by simp;omega) (by simp;omega) _);have HM0:=hid (show Blk V2 w.heap.size _ _ by rw[hV2];exact(HL0.out.on b2).far (p:=⟨w.heap.size+1+1,2,none⟩) (by simp;omega) _);have HM1:=hid (show Blk V2 (w.heap.size+1) _ _ by rw[hV2];exact(HL1.out.on b2).far (p:=⟨w.heap.size+1+1,2,none⟩) (by simp) _);have HM2:=hid (show Blk V2 (w.heap.size+1+1) 32 #[.int .i64 d.net.sta,.slice (some ⟨g1,0,none⟩) h.n1 h.n1,.slice (some ⟨g2,0,none⟩) h.n2 h.n2,.slice none 0 0,.string ⟨#[]⟩] by rw[hV2];exact(HL2.out.on b2).set_ 2 _);have HB2:=hid (zbN (zac HB1.out b2 lr) HO2.out lr lr)
 have S2:=hid (s2.apart HO2.out (.inr (by have:=HO1.out.size;have:=HZ1.out;omega)));have T2:=hid ((S1.out.on b2).apart HO2.out (.inr lr));have HV2:=hid hV2;have HZ2:=hid b2.size;clear s2 b2 hV2
 go_wp2_with fail
 rw[<-HV2.out];clear a0 a1 a2 a3 a4 o2 o3 o4 f0 f1 f2 f3 f4;refine(zqp h.A3 h.n3 h.c3 B d.runs V2 (HR.out.runs.on hB HB2.out) (Nat.le_trans hB HB2.out.size) HD.out.n3 HD.out.runs).mono ?_;rintro e w3 ⟨g3,rh3,rfl,s3,b3⟩;have a0:=(HM2.out.on b3).cellAt 0 (by simp);have f0:=(HM2.out.on b3).frozen 0;have a1:=(HM2.out.on b3).cellAt 1 (by simp);have f1:=(HM2.out.on b3).frozen 1;have a2:=(HM2.out.on b3).cellAt 2 (by simp);have f2:=(HM2.out.on b3).frozen 2;have a3:=(HM2.out.on b3).cellAt 3 (by simp);have f3:=(HM2.out.on b3).frozen 3;have a4:=(HM2.out.on b3).cellAt 4 (by simp);have f4:=(HM2.out.on b3).frozen 4;have o2:=(HM0.out.on b3).cellAt 2 (by simp);have o3:=(HM0.out.on b3).cellAt 3 (by simp)
 have o4:=(HM0.out.on b3).cellAt 4 (by simp);have e0:=(HM1.out.on b3).cellAt 0 (by simp);have i0:=(HM1.out.on b3).frozen 0;have e1:=(HM1.out.on b3).cellAt 1 (by simp);have i1:=(HM1.out.on b3).frozen 1;have e2:=(HM1.out.on b3).cellAt 2 (by simp);have i2:=(HM1.out.on b3).frozen 2;have e3:=(HM1.out.on b3).cellAt 3 (by simp);have i3:=(HM1.out.on b3).frozen 3;have e4:=(HM1.out.on b3).cellAt 4 (by simp);have i4:=(HM1.out.on b3).frozen 4;simp only[ly] at a0 a1 a2 a3 a4 o2 o3 o4 e0 e1 e2 e3 e4;have S3:=hid s3;have HB3:=hid b3;have T3:=hid (T2.out.on b3);have U3:=hid (S2.out.on b3);clear s3 b3;go_wp2
 obtain⟨WF,hWF⟩:∃WF,WF=(((((((w3.setCell ⟨w.heap.size+1+1,3,none⟩ (.slice (some ⟨g3,0,none⟩) h.n3 h.n3)).setCell ⟨w.heap.size+1+1,4,none⟩ (.string d.log)).setCell ⟨w.heap.size+1,0,none⟩ (.int .i64 d.net.sta)).setCell ⟨w.heap.size+1,1,none⟩ (.slice (some ⟨g1,0,none⟩) h.n1 h.n1)).setCell ⟨w.heap.size+1,2,none⟩ (.slice (some ⟨g2,0,none⟩) h.n2 h.n2)).setCell ⟨w.heap.size+1,3,none⟩ (.slice (some ⟨g3,0,none⟩) h.n3 h.n3)).setCell ⟨w.heap.size+1,4,none⟩ (.string d.log)):=⟨_,rfl⟩
 have KF:Blk WF (w.heap.size+1) 32 #[.int .i64 d.net.sta,.slice (some ⟨g1,0,none⟩) h.n1 h.n1,.slice (some ⟨g2,0,none⟩) h.n2 h.n2,.slice (some ⟨g3,0,none⟩) h.n3 h.n3,.string d.log]:=by
  rw[hWF];exact((((((((HM1.out.on HB3.out).far (p:=⟨w.heap.size+1+1,3,none⟩) (by simp) _).far (p:=⟨w.heap.size+1+1,4,none⟩) (by simp) _).set_ 0 _).set_ 1 _).set_ 2 _).set_ 3 _).set_ 4 _)
 have hO:Only w.heap.size W.heap.size w3 WF:=by
  rw[hWF];have:=HS.out;exact((((((((Only.refl _ _ _).setCell (by simp;omega) (by simp;omega) _).setCell (by simp;omega) (by simp;omega) _).setCell (by simp) (by simp;omega) _).setCell (by simp) (by simp;omega) _).setCell (by simp) (by simp;omega) _).setCell (by simp) (by simp;omega) _).setCell (by simp) (by simp;omega) _)
 rw[<-hWF];clear hWF a0 a1 a2 a3 a4 o2 o3 o4 e0 e1 e2 e3 e4 f0 f1 f2 f3 f4 i0 i1 i2 i3 i4;obtain⟨r0,r1,r2,r3,r4⟩:=zaq KF;refine bodyPost_ret (v:=.agg #[.int .i64 d.net.sta,.slice (some ⟨g1,0,none⟩) h.n1 h.n1,.slice (some ⟨g2,0,none⟩) h.n2 h.n2,.slice (some ⟨g3,0,none⟩) h.n3 h.n3,.string d.log]) (by simp[results,results16,go_sem,r0,r1,r2,r3,r4]) rfl ?_;have z1:=HZ1.out;have z6:=HZ2.out;have z2:=HO1.out.size;have z3:=HB3.out.size;have z4:=hO.size;have z5:=HO2.out.size;have q1:=T3.out.apart hO (.inr lr);have q2:=U3.out.apart hO (.inr (by omega));have z7:=HB.out.size
 have q3:=S3.out.off (S:=fun b=>w.heap.size<=b/\b<W.heap.size) ⟨hO.os,hO.tape,hO.output,hO.size,fun k hk hn=>hO.block k hk (by omega)⟩ (fun b hb hs=>by have:=(S3.out.inRn_lt hb).1;omega);refine⟨⟨some ⟨g1,0,none⟩,h.n1,h.n1,some ⟨g2,0,none⟩,h.n2,h.n2,some ⟨g3,0,none⟩,h.n3,h.n3⟩,rh3,rfl,⟨q1.wide (by omega) (by omega),q2.wide (by omega) (by omega),q3.wide (by omega) (by omega),fun b b1 b2=>?_,fun b b1 b2=>?_,fun b b1 b2=>?_⟩,⟨HD.out.n1,HD.out.n2,HD.out.n3,HD.out.runs,HD.out.log⟩,zbN (zac HB2.out HB3.out lr) hO lr lr⟩
 ·have y1:=(q1.inB_lt b1).2;have y2:=(q2.inB_lt b2).1;omega
 ·have y1:=(q1.inB_lt b1).2;have y2:=(q3.inRn_lt b2).1;omega
 ·have y1:=(q2.inB_lt b1).2;have y2:=(q3.inRn_lt b2).1;omega
theorem zpT (A:Option Addr) (n c lo hi:Nat) (k0:Int) (rs:List Rn) (rh:List RnH) (w:World) (h:OwnR w lo hi A n c rs rh) (hn:n <= 1048576) (hsm:zbM rs) (hk0:0 <= k0) (hk1:k0 <= 100000000) :
  Calls prog 57 #[.slice A n c,.int .i64 k0] w fun e w'=>e= .returned (.int .i64 (kR k0 rs n))/\∃rh',OwnR w' lo hi A n c (zdz k0 rs) rh'/\(∀t:Nat,(rh'[t]?).map (·.A)=(rh[t]?).map (·.A))/\Off (inRn A rh) w w':=by
 have HN:=hid h.len;have HSM:=hid hsm;go_enter func57,ntmps57;go_wp2
 go_loopw [1,5] (fun q i wr=>∃(j:Nat) (rs':List Rn) (rh':List RnH),j<=n/\i= .int .i64 j/\q= .int .i64 (kR k0 rs j)/\OwnR wr lo hi A n c rs' rh'/\(∀t:Nat,t<j->rs'[t]?=(zdz k0 rs)[t]?)/\(∀t:Nat,j<=t->rs'[t]?=rs[t]?)/\(∀t:Nat,(rh'[t]?).map (·.A)=(rh[t]?).map (·.A))/\Off (inRn A rh) w wr) (fun _ i _=>n-(RowKit.intOf i).toNat)
 case atStart=>exact⟨0,rs,rh,Nat.zero_le _,rfl,rfl,h,fun t ht=>by omega,fun t _=>rfl,fun t=>rfl,Off.refl _ _⟩
 case round=>
  obtain⟨j,rs',rh',hj,rfl,rfl,hown,hdone,hleft,hsame,hoff⟩:=hrel;have HO:=hid hown;have HD:=hid hdone;have HL:=hid hleft;have HS:=hid hsame;have HF:=hid hoff;clear hown hdone hleft hsame hoff h hsm;by_cases hlt:j<n
  ·obtain⟨g,rfl,hg1,hg2,hg3⟩:=HO.out.row.lt (by omega);have hx:rh'[j]?=some (rh'[j]'(by have:=HO.out.hlen;omega)):=List.getElem?_eq_getElem _;obtain⟨x,hxe⟩:∃x,rh'[j]'(by have:=HO.out.hlen;omega)=x:=⟨_,rfl⟩
   rw[hxe] at hx;obtain⟨r,hr⟩:=HO.out.get hx;have hr0:rs[j]?=some r:=by rw[<-HL.out j lr];exact hr
   obtain⟨hst,hm,hsl⟩:=HO.out.at_ j x r hx hr;have hxm:r.way.length=x.m:=by have:=hsl.len;rw[za4] at this;omega
   have hwl:wlen rs j=x.m:=by rw[zpr hr0,hxm]
   have hxs:x.m<=1048576:=by rw[<-hxm];exact HSM.out j r hr0
   have hkb:=zi3 (k:=k0) (fun i=>zeb HSM.out i) j;have HX:=hid hx;have HR:=hid hr;have HR0:=hid hr0;have HSL:=hid hsl;have HWL:=hid hwl;obtain⟨e0,e1⟩:=zeP hx;have c0:=(HO.out.row.cellAt (j*2) (by omega)).trans e0;have hkn:kR k0 rs (j+1)=kR k0 rs j+(x.m:Int)+1:=by rw[kR,hwl]
   have HKN:=hid hkn;obtain⟨kj,hkj⟩:∃q,kR k0 rs j=q:=⟨_,rfl⟩
   have HKJ:=hid hkj;rw[hkj] at hkb⊢;have hj0:(0:Int)<=j:=by omega
   have hjn:(j:Int)<n:=by omega
   have hkj1:0<=kj:=by omega
   have hkj2:kj<=4000000000000:=by omega
   clear hx hr hr0 hst hsl hxm hwl e0 e1 hkn hkj hxe
   go_wp2_with fail
   refine(zgm x.A x.m x.c lo hi kj _ _ HSL.out hxs hkj1 hkj2).mono ?_;rintro e w2 ⟨rfl,hsl2,hof2⟩;have HO2:=hid (HO.out.setWay HX.out HR.out hof2 hsl2);have HF2:=hid (HF.out.trans (hof2.mono fun b hb=>zfg HS.out (.inr ⟨j,x,HX.out,hb⟩)));obtain⟨e0,e1⟩:=zeP HX.out;have c1:=(HO2.out.row.cellAt (j*2+1) (by omega)).trans e1;have f1:=HO2.out.row.frozenAt (j*2+1);clear hsl2 hof2 c0 e0 e1;go_wp2
   go_roundw
   case rel=>
    have hil:=(List.getElem?_eq_some_iff.1 HR.out).1;have hset:(rs'.set j ⟨zbU kj x.m,r.st⟩)[j]?=some ⟨zbU kj x.m,r.st⟩:=List.getElem?_set_self hil;have hown3:=HO2.out.setStart HX.out hset (kj+(x.m:Int));refine⟨j+1,_,_,by omega,by go_num,by rw[HKN.out,HKJ.out],hown3,fun t ht=>?_,fun t ht=>?_,fun t=>(zlA HX.out t).trans (HS.out t),HF2.out.setCell (p:=⟨g,j*2+1,none⟩) (.inl (zdH g 0)) _⟩
    ·rw[List.set_set];by_cases e:j=t
     ·subst e;rw[List.getElem?_set_self hil,zhU (by have:=HN.out;omega),HWL.out,HKJ.out]
     ·rw[List.getElem?_set_ne e];exact HD.out t (by omega)
    ·rw[List.set_set,List.getElem?_set_ne (by omega)];exact HL.out t (by omega)
   case measure=>simp[RowKit.intOf];omega
  ·obtain rfl:j=n:=by omega
   have e:rs'=zdz k0 rs:=by
    apply List.ext_getElem?;intro t;by_cases ht:t<j
    ·exact HD.out t ht
    ·rw[HL.out t (by omega),List.getElem?_eq_none (by have:=HN.out;omega),List.getElem?_eq_none (by rw[zfO];have:=HN.out;omega)]
   go_wp2;go_ret;exact⟨rfl,rh',by rw[<-e];exact HO.out,HS.out,HF.out⟩
theorem znu (h:DkH) (d:Dk) (rh:List RnH) (lo hi:Nat) (k0:Int) (w:World) (hw:OwnD w lo hi h d rh) (hs:DkS h d) (hk0:0 <= k0) (hk1:k0 <= 10000000) :
  Calls prog 19 #[.agg #[.int .i64 d.net.sta,.slice h.A1 h.n1 h.c1,.slice h.A2 h.n2 h.c2,.slice h.A3 h.n3 h.c3,.string d.log],.int .i64 k0] w fun e w'=>e= .returned (.int .i64 (k3D k0 d))/\∃rh',OwnD w' lo hi h (zgl k0 d) rh'/\(∀b,inD h rh' b->inD h rh b)/\Off (inD h rh) w w':=by
 have ht1:d.net.tubes.length=h.n1:=by have:=hw.tubes.len;rw[zea] at this;omega
 have ht2:d.times.length=h.n2:=by have:=hw.times.len;rw[za4] at this;omega
 have ht3:=hw.runs.len;obtain⟨e1,q1,q2,e2,q3,q4⟩:=zm7 ht1 ht2 hs hk0 hk1;have HT1:=hid ht1;have HT2:=hid ht2;have HT3:=hid ht3;have hn1:=hs.n1;have hn2:=hs.n2;have hn3:=hs.n3;have HSR:=hid hs.runs;obtain⟨W,hW,y0,hb⟩:∃W,W=w.alloc (.cells #[.int .i64 d.net.sta,.slice h.A1 h.n1 h.c1,.slice h.A2 h.n2 h.c2,.slice h.A3 h.n3 h.c3,.string d.log] 32)/\Blk W w.heap.size 32 #[.int .i64 d.net.sta,.slice h.A1 h.n1 h.c1,.slice h.A2 h.n2 h.c2,.slice h.A3 h.n3 h.c3,.string d.log]/\Below w.heap.size w W:=⟨_,rfl,Blk.new _ _ _,bal _⟩
 have HW:=hid hW;have HB:=hid hb;have y0':=hid y0;have HO:=hid (hw.on hb);have hbox:∀b,inD h rh b->b<w.heap.size:=fun b hb=>(hw.low.inD_lt hb).2;have HX:=hid hbox;have c0:=y0.cellAt 0 (by simp);have c1:=y0.cellAt 1 (by simp);simp only[ly] at c0 c1;have E1:=hid e1;have E2:=hid e2;obtain⟨k1,hk1'⟩:∃q,k1D k0 d=q:=⟨_,rfl⟩
 obtain⟨k2,hk2'⟩:∃q,k2D k0 d=q:=⟨_,rfl⟩
 rw[hk1'] at q1 q2 E1 E2;rw[hk2'] at q3 q4 E2;have K1:=hid hk1';have K2:=hid hk2';clear hW hb y0 hw hs e1 e2 hbox ht1 ht2 ht3 hk1' hk2';go_enter func19,ntmps19
 go_upto_region 1 with fail
 rw[<-HW.out]
 go_wp2_with fail
 refine(zlB h.A1 h.n1 h.c1 lo hi d.net.sta k0 _ _ HO.out.tubes hn1 hk0 (by omega)).mono ?_;rintro e w1 ⟨rfl,s1,o1⟩;rw[<-E1.out];have S1:=hid s1;have T1:=hid (HO.out.times.off o1 fun b hb hb'=>HO.out.n12 b hb' hb);have R1:=hid (HO.out.runs.off o1 fun b hb hb'=>HO.out.n1r b hb' hb);have F1:=hid ((Off.of_below HB.out (inD h rh)).trans (o1.mono fun b hb=>.inl hb));have Y1:=hid (y0'.out.off o1 fun hb=>by have:=HX.out _ (.inl hb);omega);clear s1 o1 c0 c1;have c2:=Y1.out.cellAt 2 (by simp);simp only[ly] at c2
 go_wp2_with fail
 refine(zgm h.A2 h.n2 h.c2 lo hi k1 _ _ T1.out hn2 q1 (by omega)).mono ?_;rintro e w2 ⟨rfl,s2,o2⟩;rw[<-E2.out];have T2:=hid s2;have S2:=hid (S1.out.off o2 fun b hb hb'=>HO.out.n12 b hb hb');have R2:=hid (R1.out.off o2 fun b hb hb'=>HO.out.n2r b hb' hb);have F2:=hid (F1.out.trans (o2.mono fun b hb=>.inr (.inl hb)));have Y2:=hid (Y1.out.off o2 fun hb=>by have:=HX.out _ (.inr (.inl hb));omega);clear s2 o2 c2;have c3:=Y2.out.cellAt 3 (by simp);simp only[ly] at c3
 go_wp2_with fail
 refine(zpT h.A3 h.n3 h.c3 lo hi k2 d.runs rh _ R2.out hn3 HSR.out q3 (by omega)).mono ?_;rintro e w3 ⟨rfl,rh3,r3,m3,o3⟩;have HM3:=hid m3;have S3:=hid ((S2.out.off o3 fun b hb hb'=>HO.out.n1r b hb hb'));have T3:=hid ((T2.out.off o3 fun b hb hb'=>HO.out.n2r b hb hb'));have R3:=hid r3;have F3:=hid (F2.out.trans (o3.mono fun b hb=>.inr (.inr hb)));clear r3 o3 c3 m3;go_wp2;go_ret;refine⟨by rw[k3D,K2.out,HT3.out];rfl,rh3,⟨?_,?_,?_,HO.out.n12,fun b hb hc=>HO.out.n1r b hb (zfg HM3.out hc),fun b hb hc=>HO.out.n2r b hb (zfg HM3.out hc)⟩,fun b hb=>?_,F3.out⟩
 ·show Sl _ _ _ _ _ _ _ _ (tbs (zcm k0 d.net.tubes.length));rw[HT1.out];exact S3.out
 ·show Sl _ _ _ _ _ _ _ _ (ints (zbU (k1D k0 d) d.times.length));rw[HT2.out,K1.out];exact T3.out
 ·show OwnR _ _ _ _ _ _ (zdz (k2D k0 d) d.runs) _;rw[K2.out];exact R3.out
 ·rcases hb with hb|hb|hb
  ·exact .inl hb
  ·exact .inr (.inl hb)
  ·exact .inr (.inr (zfg HM3.out hb))
theorem zqR{h:DkH}{d:Dk}(h1:d.net.tubes.length=h.n1)(h2:d.times.length=h.n2)(h3:d.runs.length=h.n3)(hs:DkS h d):0<=k3D 1 d/\k3D 1 d<=90000000000000:=by
 obtain⟨_,_,_,_,q3,q4⟩:=zm7 h1 h2 hs (k0:=1) (by omega) (by omega);have hb:=zi3 (k:=k2D 1 d) (fun i=>zeb hs.runs i) d.runs.length;have hn:=hs.n3
 have hm:(1048577:Int)*(d.runs.length:Int)<=1048577*1048576:=by
  have:d.runs.length<=1048576:=by omega
  exact Int.mul_le_mul_of_nonneg_left (by omega) (by omega)
 unfold k3D;omega
theorem zr8{w:World}(h:TabP w):4<w.heap.size:=by
 have e:prog.globalNamed "internal/strconv.uint64pow10" =some 4:=by kernel_rfl
 unfold TabP Lib.TabIs World.var? at h;rw[e] at h;simp only[Option.bind_some] at h;rcases Nat.lt_or_ge 4 w.heap.size with h'|h'
 ·exact h'
 ·rw[Array.getElem?_eq_none h'] at h;cases h
theorem zaC.below9{w w':World}{B n:Nat}{A:Option Addr}{rs:List Rn}(hr:zaC w B A n rs)(hb:Below B w w'):zaC w' B A n rs:=by
 obtain⟨hs,h1,h2,h3⟩:=hr;exact⟨hs,h1.below hb,h2,fun k h r e1 e2=>⟨(h3 k h r e1 e2).1,(h3 k h r e1 e2).2.1,(h3 k h r e1 e2).2.2.below hb⟩⟩
theorem DkR.below9{w w':World}{B:Nat}{h:DkH}{d:Dk}(hr:DkR w B h d)(hb:Below B w w'):DkR w' B h d:=⟨hr.tubes.below hb,hr.times.below hb,hr.runs.below9 hb⟩
theorem Sl.alone9{w:World}{lo hi size n c:Nat}{t:TypeId}{A:Option Addr}{xs:List Value}(h:Sl w lo hi t size A n c xs)(hh:hi<=w.heap.size):∃g,lo<=g/\Sl w g (g+1) t size A n c xs/\∀b,b<w.heap.size->b=g->inB A b:=by
 rcases h.form with ⟨rfl,rfl,rfl⟩|⟨g,cur,rfl,h1,h2,h3,h4,h5,h6⟩
 ·have hx:=h.len;rw[Nat.zero_mul] at hx;obtain rfl:=List.eq_nil_of_length_eq_zero hx;exact⟨max lo w.heap.size,by omega,Sl.nil _ _ _ _ _,fun b hb e=>by omega⟩
 ·refine⟨g,h1,⟨⟨h.1.1,?_⟩,fun b hb=>by injection hb with hb;subst hb;exact Nat.lt_succ_self _⟩,fun b _ e=>by subst e;exact zdH _ _⟩;rcases h.1.2 with ⟨e,_⟩|⟨g',cap,cur',e,_,rest⟩
  ·injection e with e;cases e
  ·have e':=e;injection e' with e1 e2 e3;injection e1 with e1;injection e1 with e1;subst e1;exact .inr ⟨_,cap,cur',e,Nat.le_refl _,rest⟩
theorem zua{w:World}{lo hi:Nat}{h:DkH}{d:Dk}{rh:List RnH}{line:ByteArray}(hl:line.size<=1048576)(o:OwnD w lo hi h (cmdF d line).dk rh):DkS h (cmdF d line).dk:=by
 rcases hd:okDk d with _|_
 ·rw[zhy hd] at o⊢;obtain⟨h1,h2,h3⟩:=o.sizes;have q1:h.n1=0:=by rw[<-h1];rfl
  have q2:h.n2=0:=by rw[<-h2];rfl
  have q3:h.n3=0:=by rw[<-h3];rfl
  exact⟨by omega,by omega,by omega,fun k r hk=>by simp[dk00] at hk,by decide⟩
 ·by_cases hc:(cmdF d line).code=0
  ·exact zny o ((ziy hd line hl).2.1 hc).1
  ·rw[zmE hd hc] at o⊢;obtain⟨h1,h2,h3⟩:=o.sizes;have q1:h.n1=0:=by rw[<-h1];rfl
   have q2:h.n2=0:=by rw[<-h2];rfl
   have q3:h.n3=0:=by rw[<-h3];rfl
   exact⟨by omega,by omega,by omega,fun k r hk=>by simp[dk00] at hk,by decide⟩
theorem ztZ{d:Dk}{line:ByteArray}(hl:line.size<=1048576):(cmdF d line).lines.length<=4002:=by
 rcases hd:okDk d with _|_
 ·rw[zhy hd];decide
 ·exact(ziy hd line hl).2.2.1
end
section
open Go.RowKit
structure CS (w:World) (bx B3 lo6 hi6:Nat) (h0:DkH) (d0:Dk) (h3:DkH) (SA:Option Addr) (sn:Nat) (D:Dk) (ls:List ByteArray) (h6:DkH) (rh6:List RnH) (D6:Dk) (LA:Option Addr) (ln lc:Nat) (xs:List ByteArray):Prop where
 box:Blk w bx 46 #[.int .i64 d0.net.sta,.slice h0.A1 h0.n1 h0.c1,.slice h0.A2 h0.n2 h0.c2,.slice h0.A3 h0.n3 h0.c3,.string d0.log]
 dk:DkR w B3 h3 D
 rd:zad w B3 1 SA sn (strs ls)
 q:Blk w B3 32 #[.int .i64 D.net.sta,.slice h3.A1 h3.n1 h3.c1,.slice h3.A2 h3.n2 h3.c2,.slice h3.A3 h3.n3 h3.c3,.string D.log]
 own:OwnD w lo6 hi6 h6 D6 rh6
 row:Sl w lo6 hi6 9 1 LA ln lc (strs xs)
 ne:∀b,inB LA b->¬inD h6 rh6 b
 p:Blk w hi6 32 #[.int .i64 D.net.sta,.slice h6.A1 h6.n1 h6.c1,.slice h6.A2 h6.n2 h6.c2,.slice h6.A3 h6.n3 h6.c3,.string D.log]
 o1:bx<B3
 o2:B3<lo6
 o3:lo6<=hi6
section
variable {w w':World}{bx B3 lo6 hi6:Nat}{h0:DkH}{d0:Dk}{h3:DkH}{SA:Option Addr}{sn:Nat}{D:Dk}{ls:List ByteArray}{h6:DkH}{rh6 rh7:List RnH}{D6 D7:Dk}{LA:Option Addr}{ln lc:Nat}{xs ys:List ByteArray}{S:Nat->Prop}
theorem CS.on(k:CS w bx B3 lo6 hi6 h0 d0 h3 SA sn D ls h6 rh6 D6 LA ln lc xs)(hb:Below w.heap.size w w'):CS w' bx B3 lo6 hi6 h0 d0 h3 SA sn D ls h6 rh6 D6 LA ln lc xs:=
 ⟨k.box.on hb,k.dk.on (Nat.le_of_lt k.q.lt) hb,k.rd.on (Nat.le_of_lt k.q.lt) hb,k.q.on hb,k.own.on hb,k.row.on hb,k.ne,k.p.on hb,k.o1,k.o2,k.o3⟩
theorem CS.off(k:CS w bx B3 lo6 hi6 h0 d0 h3 SA sn D ls h6 rh6 D6 LA ln lc xs)(ho:Off S w w')(h1:∀b,S b->B3<b/\b<lo6):CS w' bx B3 lo6 hi6 h0 d0 h3 SA sn D ls h6 rh6 D6 LA ln lc xs:=by
 have hl:Below B3 w w':=ho.below (fun b hb=>Nat.le_of_lt (h1 b hb).1) (Nat.le_of_lt k.q.lt);exact⟨k.box.off ho fun hs=>by have:=(h1 _ hs).1;have:=k.o1;omega,k.dk.below9 hl,k.rd.below hl,k.q.off ho fun hs=>by have:=(h1 _ hs).1;omega,k.own.off ho fun b hb hs=>by have:=(h1 b hs).2;have:=(k.own.inD_lt hb).1;omega,k.row.off ho fun b hb hs=>by have:=(h1 b hs).2;have:=(k.row.inB_lt hb).1;omega,k.ne,k.p.off ho fun hs=>by have:=(h1 _ hs).2;have:=k.o3;omega,k.o1,k.o2,k.o3⟩
theorem CS.desk(k:CS w bx B3 lo6 hi6 h0 d0 h3 SA sn D ls h6 rh6 D6 LA ln lc xs)(ho:Off (inD h6 rh6) w w')(hd:OwnD w' lo6 hi6 h6 D7 rh7)(hm:∀b,inD h6 rh7 b->inD h6 rh6 b):CS w' bx B3 lo6 hi6 h0 d0 h3 SA sn D ls h6 rh7 D7 LA ln lc xs:=by
 have h1:∀b,inD h6 rh6 b->B3<b/\b<hi6:=fun b hb=>by have:=k.own.inD_lt hb;have:=k.o2;omega
 have hl:Below B3 w w':=ho.below (fun b hb=>Nat.le_of_lt (h1 b hb).1) (Nat.le_of_lt k.q.lt);exact⟨k.box.off ho fun hs=>by have:=(h1 _ hs).1;have:=k.o1;omega,k.dk.below9 hl,k.rd.below hl,k.q.off ho fun hs=>by have:=(h1 _ hs).1;omega,hd,k.row.off ho fun b hb hs=>k.ne b hb hs,fun b hb hs=>k.ne b hb (hm b hs),k.p.off ho fun hs=>by have:=(h1 _ hs).2;omega,k.o1,k.o2,k.o3⟩
theorem CS.lines(k:CS w bx B3 lo6 hi6 h0 d0 h3 SA sn D ls h6 rh6 D6 LA ln lc xs){g:Nat}(ho:Only g (g+1) w w')(hg:lo6<=g)(hn:∀b,b<w.heap.size->b=g->inB LA b)(hr:Sl w' g (g+1) 9 1 LA ln lc (strs ys))(hh:hi6<=w.heap.size):CS w' bx B3 lo6 hi6 h0 d0 h3 SA sn D ls h6 rh6 D6 LA ln lc ys:=by
 have hf:Off (fun b=>b=g) w w':=⟨ho.os,ho.tape,ho.output,ho.size,fun b hb hs=>ho.block b hb (by omega)⟩
 have hl:Below B3 w w':=hf.below (fun b hb=>by have:=k.o2;omega) (Nat.le_of_lt k.q.lt)
 have hrow:Sl w' lo6 hi6 9 1 LA ln lc (strs ys):=by
  rcases hr.form with ⟨rfl,rfl,rfl⟩|⟨g',cur,e,e1,e2,_⟩
  ·have hx:=hr.len;rw[Nat.zero_mul] at hx;rw[List.eq_nil_of_length_eq_zero hx];exact Sl.nil _ _ _ _ _
  ·obtain rfl:g'=g:=by omega
   have hlt:=(k.row.inB_lt (b:=g') (by rw[e];exact zdH _ _)).2;exact hr.wide hg hlt
 exact⟨k.box.off hf fun hs=>by have:=k.o1;have:=k.o2;omega,k.dk.below9 hl,k.rd.below hl,k.q.off hf fun hs=>by have:=k.o2;omega,k.own.off hf fun b hb hs=>k.ne b (hn b (Nat.lt_of_lt_of_le (k.own.inD_lt hb).2 hh) hs) hb,hrow,k.ne,k.p.off hf fun hs=>by
  have:=k.row.inB_lt (hn hi6 k.p.lt hs);omega,k.o1,k.o2,k.o3⟩
theorem CS.eqn(k:CS w bx B3 lo6 hi6 h0 d0 h3 SA sn D ls h6 rh6 D6 LA ln lc ls):sn=ln:=by
 have h1:=k.rd.1;have h2:=k.row.len;rw[za6] at h1 h2;omega
end
end
end Go.Proofs.YtjalgpioklcbfaaGreatDoor
