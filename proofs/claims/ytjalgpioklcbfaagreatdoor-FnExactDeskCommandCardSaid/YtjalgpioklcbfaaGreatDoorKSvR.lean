/- The order in which items of a queue are sent, as the reference does it. -/
import Derived.Test.YtjalgpioklcbfaaGreatDoorKSvJ
set_option maxHeartbeats 4000000
set_option maxRecDepth 100000
set_option linter.unusedVariables false
set_option linter.unusedSimpArgs false
namespace Go.Proofs.YtjalgpioklcbfaaGreatDoor
open Go.RowKit Go.Lib Go.Proofs.Tryz
theorem ziF (A:Option Addr) (n c B:Nat) (l:List Int) (x:Int) (w:World) (h:zad w B 1 A n (ints l)) (hn:n <= 1048576) :
  Calls prog 281 #[.slice A n c,.int .i64 x] w fun e w'=>e= .returned (.bool (hasI l x))/\w=w':=by
 have HL:=hid (zai h);go_enter func281,ntmps281;go_wp2
 go_loop [5] (fun i=>∃k:Nat,k<=n/\i= .int .i64 k/\za0 (fun y=>!(y==x)) l k) (fun i=>n-(RowKit.intOf i).toNat)
 case atStart=>exact⟨0,Nat.zero_le _,rfl,za0.zero _ _⟩
 case round=>
  obtain⟨k,hk,rfl,hall⟩:=hrel;have HA:=hid hall;clear hall;by_cases hlt:k<n
  ·obtain⟨y,b,off,he,rfl,hb,c0⟩:=zax h hlt;have HE:=hid he;clear he h;rcases ho:(y==x) with _|_
   ·have HT:=hid (show(!(y==x))=true by rw[ho];rfl);go_wp2
    go_round
    case rel=>exact⟨k+1,by omega,by go_num,HA.out.step (p:=fun y=>!(y==x)) HE.out HT.out⟩
    case measure=>simp[RowKit.intOf];omega
   ·have HF:=hid (show hasI l x=true by unfold hasI;exact List.any_eq_true.2 ⟨y,List.mem_of_getElem? HE.out,ho⟩);go_wp2;go_ret;exact⟨zae HF.out.symm,rfl⟩
  ·obtain rfl:k=n:=by omega
   have HF:=hid (show hasI l x=false by
    have h:=HA.out.done HL.out;unfold hasI;rw[List.any_eq_false];intro y hy;have:=List.all_eq_true.1 h y hy;simpa using this)
   go_wp2;go_ret;exact⟨zae HF.out.symm,rfl⟩
theorem zqU (A:Option Addr) (n c B:Nat) (l:List It) (w:World) (h:zad w B 3 A n (its l)) (hn:n <= 1048576) :
  Calls prog 237 #[.slice A n c] w fun e w'=>e= .returned (.bool (okQ l))/\w=w':=by
 have HL:=hid (zfB h);go_enter func237,ntmps237;go_wp2
 go_loop [3] (fun i=>∃k:Nat,k<=n/\i= .int .i64 k/\za0 okIt l k) (fun i=>n-(RowKit.intOf i).toNat)
 case atStart=>exact⟨0,Nat.zero_le _,rfl,za0.zero _ _⟩
 case round=>
  obtain⟨k,hk,rfl,hall⟩:=hrel;have HA:=hid hall;clear hall;by_cases hlt:k<n
  ·obtain⟨x,b,off,he,rfl,hb,c0,c1,c2⟩:=zfw h hlt;have HE:=hid he;clear he h
   go_wp2_with fail
   refine(za2 _ _ _ _).mono ?_;rintro e w1 ⟨rfl,rfl⟩;rcases h1:inR x.arr 0 10000 with _|_
   ·have HF:=hid (show okQ l=false by simp only[okQ,zcd (p:=okIt) HE.out (by simp[okIt,h1]),Bool.and_false]);go_wp2;go_ret;exact⟨zae HF.out.symm,rfl⟩
   go_wp2_with fail
   refine(za2 _ _ _ _).mono ?_;rintro e w1 ⟨rfl,rfl⟩;rcases h2:inR x.tick 1 1000 with _|_
   ·have HF:=hid (show okQ l=false by simp only[okQ,zcd (p:=okIt) HE.out (by simp[okIt,h1,h2]),Bool.and_false]);go_wp2;go_ret;exact⟨zae HF.out.symm,rfl⟩
   go_wp2_with fail
   refine(za2 _ _ _ _).mono ?_;rintro e w1 ⟨rfl,rfl⟩;rcases h3:inR x.cls 0 9 with _|_
   ·have HF:=hid (show okQ l=false by simp only[okQ,zcd (p:=okIt) HE.out (by simp[okIt,h1,h2,h3]),Bool.and_false]);go_wp2;go_ret;exact⟨zae HF.out.symm,rfl⟩
   have HT:=hid (show okIt x=true by simp[okIt,h1,h2,h3]);go_wp2
   go_round
   case rel=>exact⟨k+1,by omega,by go_num,HA.out.step HE.out HT.out⟩
   case measure=>simp[RowKit.intOf];omega
  ·obtain rfl:k=n:=by omega
   have HF:=hid (show okQ l=decide (k<=12) by simp only[okQ,HL.out,HA.out.done HL.out,Bool.and_true]);have HN:=hid (show decide ((k:Int)<=12)=decide (k<=12) by rw[decide_eq_decide];omega);go_wp2;go_ret;exact⟨zae (by rw[HF.out,<-HN.out]),rfl⟩
theorem zhP (x:It) (t:Int) (w:World) :
  Calls prog 309 #[.agg #[.int .i64 x.arr,.int .i64 x.tick,.int .i64 x.cls],.int .i64 t,.int .i64 0] w fun e w'=>e= .returned (.int .i64 x.cls)/\Below w.heap.size w w':=by
 obtain⟨W,hW,y0,hb⟩:∃W,W=w.alloc (.cells #[.int .i64 x.arr,.int .i64 x.tick,.int .i64 x.cls] 140)/\Blk W w.heap.size 140 #[.int .i64 x.arr,.int .i64 x.tick,.int .i64 x.cls]/\Below w.heap.size w W:=⟨_,rfl,Blk.new _ _ _,bal _⟩
 have HB:=hid hb;have c2:=y0.cellAt 2 (by simp);rw[hW] at c2;simp only[ly] at c2;have HW:=hid hW;clear hW hb y0;go_enter func309,ntmps309;go_wp2;go_ret;exact⟨rfl,by rw[<-HW.out];exact HB.out⟩
theorem zpY{l:List It}{o:List Int}{t:Int}{x:It}{r:List It}{i:Nat}{b:Int}(h:t<x.arr):za1 l o t (x::r) i b=za1 l o t r (i+1) b:=by
 rw[za1];by_cases hh:hasI o i=true
 ·rw[if_pos hh]
 ·rw[if_neg hh,if_pos h]
theorem zrg{l:List It}{o:List Int}{t:Int}{x:It}{r:List It}{i:Nat}{b:Int}(h:hasI o i=true):za1 l o t (x::r) i b=za1 l o t r (i+1) b:=by
 rw[za1,if_pos h]
theorem zpX{l:List It}{o:List Int}{t:Int}{x:It}{r:List It}{i:Nat}{b:Int}(h:¬t<x.arr)(h2:hasI o i=false):za1 l o t (x::r) i b=za1 l o t r (i+1) (if b<0\/zdF x (itAt l b)=true then (i:Int) else b):=by
 rw[za1,if_neg (by rw[h2];decide),if_neg h]
theorem zoz (A:Option Addr) (n c B:Nat) (l:List It) (O:Option Addr) (m d:Nat) (ord:List Int) (t:Int) (w:World) (h:zad w B 3 A n (its l)) (ho:zad w w.heap.size 1 O m (ints ord)) (hB:B <= w.heap.size) (hn:n <= 1048576) (hm:m <= 1048576) :
  Calls prog 280 #[.slice A n c,.slice O m d,.int .i64 t,.int .i64 0] w fun e w'=>e= .returned (.int .i64 (za1 l ord t l 0 (-1)))/\Below w.heap.size w w':=by
 have HL:=hid (zfB h);have HR:=hid h;have HO:=hid ho;clear h ho;go_enter func280,ntmps280;go_wp2
 go_loopw [9,10] (fun bs i wr=>∃(k:Nat) (b:Int),k<=n/\i= .int .i64 (k:Int)/\bs= .int .i64 b/\za1 l ord t (l.drop k) k b=za1 l ord t l 0 (-1)/\(b=-1\/∃q:Nat,b=q/\q<k)/\Below w.heap.size w wr) (fun _ i _=>n-(RowKit.intOf i).toNat)
 case atStart=>exact⟨0,-1,Nat.zero_le _,rfl,rfl,rfl,.inl rfl,Below.refl _ _⟩
 case round=>
  obtain⟨k,b,hk,rfl,rfl,hp,hbb,hbel⟩:=hrel;have HP:=hid hp;have HBB:=hid hbb;have HBr:=hid hbel;clear hp hbb hbel;have hki:(0:Int)<=k:=by omega
  by_cases hlt:k<n
  ·obtain⟨x,ba,oa,he,rfl,hba,c0,c1,c2⟩:=zfw (HR.out.on hB HBr.out) hlt;have hkn:(k:Int)<n:=by omega
   have HDR:=hid (show l.drop k=x::l.drop (k+1) by
    have hlen:=(List.getElem?_eq_some_iff.1 he).1;rw[List.drop_eq_getElem_cons hlen,(List.getElem?_eq_some_iff.1 he).2])
   clear he;by_cases hta:t<x.arr
   ·have HP2:=hid (show za1 l ord t (l.drop (k+1)) (k+1) b=za1 l ord t l 0 (-1) by have:=HP.out;rwa[HDR.out,zpY hta] at this);go_wp2
    go_roundw
    case rel=>exact⟨k+1,b,by omega,by go_num,rfl,HP2.out,HBB.out.imp id fun⟨q,h1,h2⟩=>⟨q,h1,by omega⟩,HBr.out⟩
    case measure=>simp[RowKit.intOf];omega
   have HEL:=hid (fun hh:hasI ord (k:Int)=false=>zpX (l:=l) (o:=ord) (t:=t) (x:=x) (r:=l.drop (k+1)) (i:=k) (b:=b) hta hh)
   go_wp2_with fail
   refine(ziF O m d w.heap.size ord (k:Int) wr (HO.out.on lr HBr.out) hm).mono ?_;rintro e w1 ⟨rfl,rfl⟩;rcases hh:hasI ord (k:Int) with _|_;rotate_left
   ·have HP2:=hid (show za1 l ord t (l.drop (k+1)) (k+1) b=za1 l ord t l 0 (-1) by have:=HP.out;rwa[HDR.out,zrg hh] at this);go_wp2
    go_roundw
    case rel=>exact⟨k+1,b,by omega,by go_num,rfl,HP2.out,HBB.out.imp id fun⟨q,h1,h2⟩=>⟨q,h1,by omega⟩,HBr.out⟩
    case measure=>simp[RowKit.intOf];omega
   have HPE:=hid (show za1 l ord t (l.drop (k+1)) (k+1) (if b<0\/zdF x (itAt l b)=true then (k:Int) else b)=za1 l ord t l 0 (-1) by have:=HP.out;rwa[HDR.out,HEL.out hh] at this);clear hh;by_cases hb0:b<0
   ·have HP2:=hid (show za1 l ord t (l.drop (k+1)) (k+1) (k:Int)=za1 l ord t l 0 (-1) by have:=HPE.out;rwa[if_pos (.inl hb0)] at this);have hd2:decide (0<=b)=false:=decide_eq_false (by omega);have hb1:¬0<=b:=by omega
    go_wp2
    go_roundw
    case rel=>exact⟨k+1,(k:Int),by omega,by go_num,rfl,HP2.out,.inr ⟨k,rfl,Nat.lt_succ_self _⟩,HBr.out⟩
    case measure=>simp[RowKit.intOf];omega
   obtain⟨q,rfl,hqk⟩:∃q:Nat,b=q/\q<k:=by
    rcases HBB.out with h|h
    ·exfalso;omega
    ·exact h
   obtain⟨y,b2,off2,hy,e2,hb2,r0,r1,r2⟩:=zfw (k:=q) (HR.out.on hB HBr.out) (by omega);injection e2 with e2;injection e2 with e2 e3;subst e2 e3;have hq0:(0:Int)<=q:=by omega
   have hqn:(q:Int)<n:=by omega
   have HIT:=hid (zgV hy);clear hy hb0
   go_wp2_with fail
   refine(zhP x t wr).mono ?_;rintro e w2 ⟨rfl,b2w⟩;have HB2:=hid (zac HBr.out b2w lr);replace c0:=zaa b2w c0;replace r0:=zaa b2w r0;replace r1:=zaa b2w r1;replace r2:=zaa b2w r2;clear b2w c1 c2
   go_wp2_with fail
   refine(zhP y t w2).mono ?_;rintro e w3 ⟨rfl,b3w⟩;have HB3:=hid (zac HB2.out b3w lr);replace c0:=zaa b3w c0;replace r0:=zaa b3w r0;clear b3w r1 r2;rcases hbt:zdF x y with _|_
   ·have HP2:=hid (show za1 l ord t (l.drop (k+1)) (k+1) (q:Int)=za1 l ord t l 0 (-1) by have:=HPE.out;rwa[HIT.out,hbt,if_neg (fun h=>h.elim (fun h=>by omega) (fun h=>by cases h))] at this)
    have hnb:¬x.cls<y.cls/\¬(x.cls=y.cls/\x.arr<y.arr):=by
     unfold zdF at hbt;simp only[Bool.or_eq_false_iff,decide_eq_false_iff_not,Bool.and_eq_false_iff,beq_eq_false_iff_ne] at hbt;exact⟨hbt.1,fun h=>hbt.2.elim (fun h2=>h2 h.1) (fun h2=>h2 h.2)⟩
    clear hbt;by_cases hc:y.cls<x.cls
    ·have hd3:decide (y.cls<x.cls)=true:=decide_eq_true hc;clear hnb
     go_wp2_with fail
     go_quiet (fail)
     go_wp2
     go_roundw
     case rel=>exact⟨k+1,(q:Int),by omega,by go_num,rfl,HP2.out,.inr ⟨q,rfl,by omega⟩,zan HB3.out _⟩
     case measure=>simp[RowKit.intOf];omega
    ·have hceq:x.cls=y.cls:=by omega
     have hd3:decide (y.cls<x.cls)=false:=decide_eq_false hc;have hd4:(x.cls==y.cls)=true:=by rw[beq_iff_eq];exact hceq
     have hge:y.arr<=x.arr:=by have:=hnb.2;omega
     clear hnb hceq
     go_wp2_with fail
     go_quiet (fail)
     go_wp2
     go_roundw
     case rel=>exact⟨k+1,(q:Int),by omega,by go_num,rfl,HP2.out,.inr ⟨q,rfl,by omega⟩,zan HB3.out _⟩
     case measure=>simp[RowKit.intOf];omega
   ·have HP2:=hid (show za1 l ord t (l.drop (k+1)) (k+1) (k:Int)=za1 l ord t l 0 (-1) by have:=HPE.out;rwa[HIT.out,hbt,if_pos (.inr rfl)] at this)
    have hyb:x.cls<y.cls\/(x.cls=y.cls/\x.arr<y.arr):=by
     unfold zdF at hbt;simpa using hbt
    clear hbt;by_cases hc:x.cls<y.cls
    ·have hd3:decide (y.cls<x.cls)=false:=decide_eq_false (by omega);have hd4:(x.cls==y.cls)=false:=by rw[beq_eq_false_iff_ne];omega
     have hc3:¬y.cls<x.cls:=by omega
     clear hyb
     go_wp2_with fail
     go_quiet (fail)
     go_wp2
     go_roundw
     case rel=>exact⟨k+1,(k:Int),by omega,by go_num,rfl,HP2.out,.inr ⟨k,rfl,Nat.lt_succ_self _⟩,zan HB3.out _⟩
     case measure=>simp[RowKit.intOf];omega
    ·have hceq:x.cls=y.cls/\x.arr<y.arr:=hyb.resolve_left hc;have hd3:decide (y.cls<x.cls)=false:=decide_eq_false (by omega);have hd4:(x.cls==y.cls)=true:=by rw[beq_iff_eq];exact hceq.1
     have hge:¬y.arr<=x.arr:=by omega
     have hd5:decide (y.arr<=x.arr)=false:=decide_eq_false hge;have hc3:¬y.cls<x.cls:=by omega
     clear hyb hceq
     go_wp2_with fail
     go_quiet (fail)
     go_wp2
     go_roundw
     case rel=>exact⟨k+1,(k:Int),by omega,by go_num,rfl,HP2.out,.inr ⟨k,rfl,Nat.lt_succ_self _⟩,zan HB3.out _⟩
     case measure=>simp[RowKit.intOf];omega
  ·obtain rfl:k=n:=by omega
   have HE:=hid (show za1 l ord t l 0 (-1)=b by rw[<-HP.out,List.drop_eq_nil_of_le (by rw[HL.out];exact Nat.le_refl _),za1]);have hkn:¬((k:Int)<k):=by omega
   go_wp2;go_ret;exact⟨za3 HE.out.symm,HBr.out⟩
theorem zpI (A:Option Addr) (n c B:Nat) (l:List It) (w:World) (h:zad w B 3 A n (its l)) (hB:B <= w.heap.size) (hok:okQ l = true) :
  Calls prog 238 #[.slice A n c,.int .i64 0] w fun e w'=>∃A' m d v,e= .returned (.tuple #[.slice A' m d,v])/\Sl w' w.heap.size w'.heap.size 2 1 A' m d (ints (svR l))/\Below w.heap.size w w':=by
 have hln:=zfB h;obtain⟨q1,q2,q3⟩:=zeN hok;have hn12:n<=12:=by omega
 have HOK:=hid hok;have HLN:=hid hln;have HQ:=hid (And.intro q2 q3);have hmk:=zfN n (by omega);have HR:=hid h;clear h hok hln q1 q2 q3;go_enter func238,ntmps238
 go_wp2_with fail
 obtain⟨U,hU,hzu,k0,k1,hb⟩:=zcW w #[] (madeCells #[.int .i64 0] n) 2 2;rw[<-hU];have HSU:=hid ((Sl.of_blk (xs:=[]) (size:=1) (n:=0) (lo:=w.heap.size) (hi:=U.heap.size) k0 lr (by omega) rfl (Nat.zero_le _):Sl U w.heap.size U.heap.size 2 1 (some ⟨w.heap.size,0,none⟩) 0 0 []));have HYU:=hid k1;have HBU:=hid hb;clear hU hzu k0 k1 hb hmk
 go_loopw [6,8] (fun o t wr=>∃(ord:List Int) (tk:Int) (A':Option Addr) (d':Nat) (cs:Array Value),o= .slice A' ord.length d'/\t= .int .i64 tk/\Sl wr w.heap.size wr.heap.size 2 1 A' ord.length d' (ints ord)/\Blk wr (w.heap.size+1) 2 cs/\cs.size=n/\(∀ad,A'=some ad->ad.block≠w.heap.size+1)/\Qs l ord tk/\Sv l ord tk (svR l)/\Below w.heap.size w wr) (fun o t _=>(n-lenV o)*30000+(30000-(RowKit.intOf t).toNat))
 case atStart=>exact⟨[],0,_,_,_,rfl,rfl,HSU.out,HYU.out,by simp[size_madeCells],fun ad had=>by injection had with had;subst had;show w.heap.size≠w.heap.size+1;omega,zjr l,zk7 HOK.out,HBU.out⟩
 case round=>
  obtain⟨ord,tk,A',d',cs,rfl,rfl,hsl,hys,hcs,hne,hqs,hsv,hbel⟩:=hrel;have HS:=hid hsl;have HYs:=hid hys;have HCS:=hid hcs;have HNE:=hid hne;have HQS:=hid hqs;have HSV:=hid hsv;have HBr:=hid hbel;obtain⟨m,hm⟩:∃z,ord.length=z:=⟨_,rfl⟩
  rw[hm] at HS⊢;have HM:=hid hm;have htl:=hqs.low;have hth:=hqs.high;have ht2:tk<=22000:=by have:=hqs.left;have:=HLN.out;omega
  have hmn:m<=n:=by have:=hqs.left;have:=HLN.out;omega
  clear hsl hys hcs hne hqs hsv hbel hm hth;by_cases hlt:m<n
  ·have hltn:(m:Int)<n:=by omega
   have HLT:=hid (show ord.length<l.length by rw[HLN.out,HM.out];exact hlt)
   go_wp2_with fail
   refine(zoz A n c B l A' m d' ord tk wr (HR.out.on hB HBr.out) (HS.out.reads lr) (Nat.le_trans hB HBr.out.size) (by omega) (by omega)).mono ?_;rintro e w1 ⟨rfl,b1⟩;have HS1:=hid (HS.out.on b1).low;have HY1:=hid (HYs.out.on b1);have HB1:=hid (zac HBr.out b1 lr);have hz1:w.heap.size<=w1.heap.size:=HB1.out.size;clear b1;by_cases hp:za1 l ord tk l 0 (-1)<0;rotate_left
   ·obtain⟨k,hpk,hkl,hq2,htick⟩:=Qs.step HOK.out HQS.out hp;have hs2:=HSV.out.to_step HLT.out hp;rw[hpk] at hq2 hs2 htick⊢;have hkn:k<n:=by rw[<-HLN.out];exact hkl
    obtain⟨x,ba,oa,hx,rfl,hba,c0,c1,c2⟩:=zfw (k:=k) (HR.out.on hB HB1.out) hkn;rw[zgV hx] at hq2 hs2 htick;have hxt:=HQ.out.2 x (List.mem_of_getElem? hx);have HQ2:=hid hq2;have HS2:=hid hs2;clear hpk hkl hq2 hs2 hx hp;have hk0:(0:Int)<=k:=by omega
    have hki:(k:Int)<n:=by omega
    go_wp2_with (at_builtin;refine zat rfl _ _ 29 rfl 2 _ 1 8 underlying29 zaX rfl (by decide) (by decide) HS1.out hz1 rfl [.int .i64 (k:Int)] w1.heap.size rfl rfl rfl (fun u hu=>by simp at hu;subst hu;rfl) (by omega) ?_;intro A9 d9 w9 hs9 b9 z9 f9 k9;have HS9:=hid hs9;have HB9:=hid b9;have HF9:=hid f9;have HK9:=hid k9;have y9:Blk w9 (w.heap.size+1) 2 cs:=(f9 _ HY1.out.lt (fun ad had=>HNE.out ad had)).trans HY1.out;have HY9:=hid y9;have hck:k<cs.size:=(by rw[HCS.out];exact hkn);have p0:=y9.cellAt k hck;have g0:=y9.frozen k;replace c1:=(b9.cell (p:=⟨ba,oa+k*3+1,none⟩) (by show ba<w.heap.size;omega)).trans c1;clear hs9 b9 z9 f9 k9 y9)
    go_roundw
    case rel=>
     have hO:Off (fun b=>b=w.heap.size+1) w9 (w9.setCell ⟨w.heap.size+1,k,none⟩ (.int .i64 tk)):=Off.setCell (S:=fun b=>b=w.heap.size+1) (Off.refl _ w9) (p:=⟨w.heap.size+1,k,none⟩) rfl _;refine⟨ord++ [(k:Int)],tk+x.tick,A9,d9,_,by rw[List.length_append,HM.out];rfl,by go_num,?_,HY9.out.set_ k _,by simp[HCS.out],?_,HQ2.out,HS2.out,?_⟩
     ·have h:=(HS9.out.off hO (fun b hb e=>by
       obtain⟨ad,e1,e2⟩:=hb;exact HK9.out _ (by have:=HY1.out.lt;exact this) (fun ad' e'=>HNE.out ad' e') ad e1 (by rw[e2,e]))).low
      rw[<-zbp,List.length_append,HM.out];exact h
     ·intro ad e1 e2;exact HK9.out _ HY1.out.lt (fun ad' e'=>HNE.out ad' e') ad e1 e2
     ·exact(HB1.out.trans HB9.out).trans (hO.below (fun b hb=>by omega) (by have:=HB9.out.size;omega))
    case measure=>simp only[lenV,RowKit.intOf];omega
   ·have hge:decide (0<=za1 l ord tk l 0 (-1))=false:=decide_eq_false (by omega);obtain⟨hq2,hn2,hall⟩:=Qs.idle HOK.out HQS.out HLT.out hp;have hs2:=HSV.out.to_idle HLT.out hp;have hre:=zjn l ord tk l 0 (-1) rfl (fun j h1 h2 h3=>hall j h1 h2 h3);rw[<-hre] at hq2 hs2 hn2;have HQ2:=hid hq2;have HS2:=hid hs2;obtain⟨pk,hpk⟩:∃z,za1 l ord tk l 0 (-1)=z:=⟨_,rfl⟩
    rw[hpk] at hge hp⊢;have hp0:¬0<=pk:=by omega
    clear hpk hre hall hq2 hs2
    go_wp2_with fail
    go_loop [10,11] (fun nx ix=>∃(k:Nat) (v:Int),k<=n/\ix= .int .i64 (k:Int)/\nx= .int .i64 v/\zcr ord (l.drop k) k v=zcr ord l 0 (-1)) (fun _ ix=>n-(RowKit.intOf ix).toNat)
    case atStart=>exact⟨0,-1,Nat.zero_le _,rfl,rfl,rfl⟩
    case round=>
     obtain⟨k,v,hk,rfl,rfl,hnx⟩:=hrel;have HNX:=hid hnx;clear hnx;have hk0:(0:Int)<=k:=by omega
     by_cases hkl:k<n
     ·obtain⟨x,ba,oa,he,rfl,hba,c0,c1,c2⟩:=zfw (k:=k) (HR.out.on hB HB1.out) hkl;have hkn:(k:Int)<n:=by omega
      have HNX2:=hid (show zcr ord (l.drop (k+1)) (k+1) (if hasI ord k=true then v else if v<0\/x.arr<v then x.arr else v)=zcr ord l 0 (-1) by
       have hlen:=(List.getElem?_eq_some_iff.1 he).1;have h:=HNX.out;rwa[List.drop_eq_getElem_cons hlen,(List.getElem?_eq_some_iff.1 he).2,zcr] at h)
      clear he
      go_wp2_with fail
      refine(ziF A' m d' w1.heap.size ord (k:Int) w1 (HS1.out.reads lr) (by omega)).mono ?_;rintro e w2 ⟨rfl,rfl⟩;rcases hh:hasI ord (k:Int) with _|_;rotate_left
      ·have HN3:=hid (show zcr ord (l.drop (k+1)) (k+1) v=zcr ord l 0 (-1) by have:=HNX2.out;rwa[if_pos hh] at this);clear hh;go_wp2
       go_round
       case rel=>exact⟨k+1,v,by omega,by go_num,rfl,HN3.out⟩
       case measure=>simp[RowKit.intOf];omega
      have HN3:=hid (show zcr ord (l.drop (k+1)) (k+1) (if v<0\/x.arr<v then x.arr else v)=zcr ord l 0 (-1) by have:=HNX2.out;rwa[if_neg (by rw[hh];decide)] at this);clear hh;by_cases hv:v<0
      ·have hd1:decide (v<0)=true:=decide_eq_true hv;have HN4:=hid (show zcr ord (l.drop (k+1)) (k+1) x.arr=zcr ord l 0 (-1) by have:=HN3.out;rwa[if_pos (.inl hv)] at this);go_wp2
       go_round
       case rel=>exact⟨k+1,x.arr,by omega,by go_num,rfl,HN4.out⟩
       case measure=>simp[RowKit.intOf];omega
      ·have hd1:decide (v<0)=false:=decide_eq_false hv;by_cases hv2:x.arr<v
       ·have hd2:decide (x.arr<v)=true:=decide_eq_true hv2;have HN4:=hid (show zcr ord (l.drop (k+1)) (k+1) x.arr=zcr ord l 0 (-1) by have:=HN3.out;rwa[if_pos (.inr hv2)] at this);go_wp2
        go_round
        case rel=>exact⟨k+1,x.arr,by omega,by go_num,rfl,HN4.out⟩
        case measure=>simp[RowKit.intOf];omega
       ·have hd2:decide (x.arr<v)=false:=decide_eq_false hv2;have HN4:=hid (show zcr ord (l.drop (k+1)) (k+1) v=zcr ord l 0 (-1) by have:=HN3.out;rwa[if_neg (fun h=>h.elim hv hv2)] at this);go_wp2
        go_round
        case rel=>exact⟨k+1,v,by omega,by go_num,rfl,HN4.out⟩
        case measure=>simp[RowKit.intOf];omega
     ·obtain rfl:k=n:=by omega
      have HNE2:=hid (show v=zcr ord l 0 (-1) by have:=HNX.out;rw[List.drop_eq_nil_of_le (by rw[HLN.out];exact Nat.le_refl _),zcr] at this;exact this);have hkn:¬((k:Int)<k):=by omega
      go_wp2
      go_roundw
      case rel=>exact⟨ord,v,A',d',cs,by rw[HM.out],rfl,by rw[HM.out];exact HS1.out,HY1.out,HCS.out,HNE.out,by rw[HNE2.out];exact HQ2.out,by rw[HNE2.out];exact HS2.out,HB1.out⟩
      case measure=>rw[HNE2.out];simp only[lenV,RowKit.intOf];omega
  ·have hltn:¬((m:Int)<n):=by omega
   have HEND:=hid (show svR l=ord from HSV.out.at_end (by rw[HM.out,HLN.out];exact hlt));go_wp2;go_ret2;exact⟨A',m,d',⟨_,rfl⟩,by rw[HEND.out];exact HS.out,HBr.out⟩
theorem zld (A:Option Addr) (n c B:Nat) (l:List It) (w:World) (h:zad w B 3 A n (its l)) (hB:B <= w.heap.size) (hn:n <= 1048576) :
  Calls prog 180 #[.slice A n c] w fun e w'=>∃A' m d,e= .returned (.tuple #[.slice A' m d,.int .i64 (srvC l).2])/\Sl w' w.heap.size w'.heap.size 2 1 A' m d (ints (srvC l).1)/\Below w.heap.size w w':=by
 have HR:=hid h;go_enter func180,ntmps180
 go_wp2_with fail
 refine(zqU A n c B l w h hn).mono ?_;rintro e w1 ⟨rfl,rfl⟩;rcases hok:okQ l with _|_
 ·have HX:=hid (show srvC l=([],1) by unfold srvC;rw[if_pos hok]);go_wp2;go_ret2;exact⟨none,0,0,by rw[HX.out];rfl,by rw[HX.out];exact Sl.nil _ _ _ _ _,Below.refl _ _⟩
 ·have HX:=hid (show srvC l=(svR l,0) by unfold srvC;rw[if_neg (by rw[hok];decide)])
  go_wp2_with fail
  refine(zpI A n c B l w HR.out hB hok).mono ?_;rintro e w2 ⟨A',m,d,v,rfl,s2,b2⟩;have HS:=hid s2;have HB2:=hid b2;clear s2 b2;go_wp2;go_ret2;exact⟨A',m,d,by rw[HX.out];rfl,by rw[HX.out];exact HS.out,HB2.out⟩
end Go.Proofs.YtjalgpioklcbfaaGreatDoor
