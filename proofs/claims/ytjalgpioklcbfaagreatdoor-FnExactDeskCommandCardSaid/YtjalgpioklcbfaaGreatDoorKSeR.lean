/- The search for a carrier, as the reference does it. -/
import Derived.Test.YtjalgpioklcbfaaGreatDoorKSeI
set_option maxHeartbeats 4000000
set_option maxRecDepth 100000
set_option linter.unusedVariables false
set_option linter.unusedSimpArgs false
namespace Go.Proofs.YtjalgpioklcbfaaGreatDoor
open Go.RowKit Go.Lib Go.Proofs.Tryz
theorem zpF(a b:Int)(w:World):Calls prog 311 #[.int .i64 a,.int .i64 b] w fun e w'=>e= .returned (.int .i64 (max a b))/\w=w':=by
 by_cases h:b<a
 ·have HO:=hid (show max a b=a by omega);go_enter func311,ntmps311;go_wp2;go_ret;exact⟨za3 HO.out.symm,rfl⟩
 ·have HO:=hid (show max a b=b by omega);go_enter func311,ntmps311;go_wp2;go_ret;exact⟨za3 HO.out.symm,rfl⟩
theorem zqT (A:Option Addr) (n c B:Nat) (l:List Int) (w:World) (h:zad w B 1 A n (ints l)) (hn:n <= 1048576) :
  Calls prog 283 #[.slice A n c] w fun e w'=>e= .returned (.bool (okOp l))/\w=w':=by
 have HL:=hid (zai h);go_enter func283,ntmps283;go_wp2
 go_loop [3] (fun i=>∃k:Nat,k<=n/\i= .int .i64 k/\za0 (fun x=>inR x 1 1000) l k) (fun i=>n-(RowKit.intOf i).toNat)
 case atStart=>exact⟨0,Nat.zero_le _,rfl,za0.zero _ _⟩
 case round=>
  obtain⟨k,hk,rfl,hall⟩:=hrel;have HA:=hid hall;clear hall;by_cases hlt:k<n
  ·obtain⟨x,b,off,he,rfl,hb,c0⟩:=zax h hlt;have HE:=hid he;clear he h
   go_wp2_with fail
   refine(za2 _ _ _ _).mono ?_;rintro e w1 ⟨rfl,rfl⟩;rcases ho:inR x 1 1000 with _|_
   ·have HF:=hid (show okOp l=false by simp only[okOp,zcd (p:=fun x=>inR x 1 1000) HE.out ho,Bool.false_and]);go_wp2;go_ret;exact⟨zae HF.out.symm,rfl⟩
   ·have HT:=hid ho;go_wp2
    go_round
    case rel=>exact⟨k+1,by omega,by go_num,HA.out.step (p:=fun x=>inR x 1 1000) HE.out HT.out⟩
    case measure=>simp[RowKit.intOf];omega
  ·obtain rfl:k=n:=by omega
   have HF:=hid (show okOp l=decide (k<=9) by simp only[okOp,HL.out,HA.out.done HL.out,Bool.true_and]);have HN:=hid (show decide ((k:Int)<=9)=decide (k<=9) by rw[decide_eq_decide];omega);go_wp2;go_ret;exact⟨zae (by rw[HF.out,<-HN.out]),rfl⟩
theorem zow (A:Option Addr) (n c B:Nat) (l:List Int) (x:Int) (w:World) (h:zad w B 1 A n (ints l)) (hn:n <= 1048576) :
  Calls prog 240 #[.slice A n c,.int .i64 x,.int .i64 x] w fun e w'=>e= .returned (.int .i64 (seaC l x).2.2)/\w=w':=by
 have HL:=hid (zai h);go_enter func240,ntmps240
 go_wp2_with fail
 refine(zqT A n c B l w h hn).mono ?_;rintro e w1 ⟨rfl,rfl⟩;rcases h1:okOp l with _|_
 ·have HF:=hid (show(seaC l x).2.2=1 by unfold seaC;rw[if_pos h1]);go_wp2;go_ret;exact⟨za3 HF.out.symm,rfl⟩
 go_wp2_with fail
 refine(za2 _ _ _ _).mono ?_;rintro e w1 ⟨rfl,rfl⟩;rcases h2:inR x 0 n with _|_
 ·have HF:=hid (show(seaC l x).2.2=2 by unfold seaC;rw[if_neg (by rw[h1];decide),HL.out,if_pos h2]);go_wp2;go_ret;exact⟨za3 HF.out.symm,rfl⟩
 have HF:=hid (show(seaC l x).2.2=0 by unfold seaC;rw[if_neg (by rw[h1];decide),HL.out,if_neg (by rw[h2];decide)]);have h3:inR x 0 x=true:=zam.2 ⟨(zam.1 h2).1,Int.le_refl _⟩
 go_wp2_with fail
 refine(za2 _ _ _ _).mono ?_;rintro e w1 ⟨rfl,rfl⟩;rw[h3];go_wp2;go_ret;exact⟨za3 HF.out.symm,rfl⟩
theorem znh (A:Option Addr) (n c B:Nat) (ps:List Int) (hok:okOp ps = true) (hln:ps.length = n):∀ (f lo hi:Nat),hi - lo < f -> lo <= hi -> hi <= n -> ∀ w:World,zad w B 1 A n (ints ps) -> B <= w.heap.size ->
  Calls prog 284 #[.slice A n c,.int .i64 (lo:Int),.int .i64 (hi:Int)] w fun e w'=>e= .returned (.tuple #[.int .i64 (zas ps lo hi).1,.int .i64 (zas ps lo hi).2])/\Below w.heap.size w w':=by
 intro f
 induction f with
 |zero=>intro lo hi hf;omega
 |succ f ih=>
  intro lo hi hf hlh hhn w h hB;have hn9:n<=9:=by unfold okOp at hok;simp only[Bool.and_eq_true,decide_eq_true_eq] at hok;omega
  have HOK:=hid hok;have HLN:=hid hln;have HIH:=hid ih;have HWL:=hid (zg5 ps lo hi);have HR:=hid h;clear h hok hln ih;go_enter func284,ntmps284
  go_wp2_with fail
  go_loopw [8,9,10] (fun bst lst kk wr=>∃(k:Nat) (acc:Int×Int),lo<=k/\k<=hi/\kk= .int .i64 (k:Int)/\bst= .int .i64 acc.2/\lst= .int .i64 acc.1/\lpW (fun a b=>(zas ps a b).1) ps lo hi (hi-k) k acc=zas ps lo hi/\(-1<=acc.2/\acc.2<=9/\0<=acc.1/\acc.1<=10000)/\Below w.heap.size w wr) (fun _ _ kk _=>hi-(RowKit.intOf kk).toNat)
  case atStart=>
   refine⟨lo,(0,-1),Nat.le_refl _,hlh,rfl,rfl,rfl,?_,by simp,Below.refl _ _⟩;rw[HWL.out,show((hi:Int)-lo).toNat=hi-lo by omega]
  case round=>
   obtain⟨k,acc,hk1,hk2,rfl,rfl,rfl,hlp,hbd,hbel⟩:=hrel;have HLP:=hid hlp;have HBr:=hid hbel;clear hlp hbel;have hk0:(0:Int)<=k:=by omega
   have hk9:(k:Int)<=9:=by omega
   by_cases hlt:k<hi
   ·obtain⟨w1d,w1a,w1b⟩:=zcY HOK.out (lo:=(lo:Int)) (hi:=(k:Int)) (by omega) (by omega) (by rw[HLN.out];omega);obtain⟨w2d,w2a,w2b⟩:=zcY HOK.out (lo:=(k:Int)+1) (hi:=(hi:Int)) (by omega) (by omega) (by rw[HLN.out];omega);have hat:=zfC HOK.out (k:Int) (by omega) (by rw[HLN.out];omega);have h1:=HIH.out lo k (by omega) hk1 (by omega);have h2:=HIH.out (k+1) hi (by omega) (by omega) hhn;rw[show((k+1:Nat):Int)=(k:Int)+1 by omega] at h2;rw[show hi-k=(hi-(k+1))+1 by omega,znt] at HLP;obtain⟨p1,hp1⟩:∃z,(zas ps lo k).1=z:=⟨_,rfl⟩
    obtain⟨r1,hr1⟩:∃z,(zas ps lo k).2=z:=⟨_,rfl⟩
    obtain⟨p2,hp2⟩:∃z,(zas ps ((k:Int)+1) hi).1=z:=⟨_,rfl⟩
    obtain⟨r2,hr2⟩:∃z,(zas ps ((k:Int)+1) hi).2=z:=⟨_,rfl⟩
    simp only[hp1,hp2] at HLP;rw[hp1] at w1a w1b h1;rw[hp2] at w2a w2b h2;rw[hr1] at h1;rw[hr2] at h2;have H1:=hid h1;have H2:=hid h2;have hp1b:p1<=9000:=by omega
    have hp2b:p2<=9000:=by omega
    have hkh:(k:Int)<hi:=by omega
    have hkn:(k:Int)<n:=by omega
    obtain⟨a1,a2⟩:=acc;simp only at hbd HLP⊢;obtain⟨bd1,bd2,bd3,bd4⟩:=hbd;obtain⟨pv,b,off,he,rfl,hb,cp⟩:=zax (HR.out.on hB HBr.out) (k:=k) (by omega);obtain rfl:at0 ps (k:Int)=pv:=by rw[zen (by rw[HLN.out];omega)] at he;injection he
    obtain⟨pk,hpk⟩:∃z,at0 ps (k:Int)=z:=⟨_,rfl⟩
    rw[hpk] at cp hat HLP;clear h1 h2 hp1 hp2 hr1 hr2 w1d w2d he hpk
    have hwk:IntKind.i64.wrap ((k:Int)+1)=(k:Int)+1:=by
     unfold IntKind.wrap;simp[IntKind.bits,IntKind.signed];omega
    go_wp2_with fail
    refine(H1.out wr (HR.out.on hB HBr.out) (Nat.le_trans hB HBr.out.size)).mono ?_;rintro e w1 ⟨rfl,b1⟩;have HB1:=hid (zac HBr.out b1 lr);replace cp:=zaa b1 cp;clear b1
    go_wp2_with fail
    refine(H2.out w1 (HR.out.on hB HB1.out) (Nat.le_trans hB HB1.out.size)).mono ?_;rintro e w2 ⟨rfl,b2⟩;have HB2:=hid (zac HB1.out b2 lr);replace cp:=zaa b2 cp;clear b2;obtain⟨mx,hmx⟩:∃z,max p1 p2=z:=⟨_,rfl⟩
    have hmxb:mx<=9000:=by omega
    have hmx0:0<=mx:=by omega
    rw[hmx] at HLP
    have hws:IntKind.i64.wrap (pk+mx)=pk+mx:=by
     unfold IntKind.wrap;simp[IntKind.bits,IntKind.signed];omega
    have hmq:∀V:World,Calls prog 311 #[.int .i64 p1,.int .i64 p2] V fun e w'=>e= .returned (.int .i64 mx)/\w'=V:=fun V=>(zpF p1 p2 V).mono fun e w' hh=>⟨by rw[<-hmx];exact hh.1,hh.2.symm⟩
    clear hmx
    go_wp2_with fail
    go_quiet ((go_at_call 311;exact Calls.quiet_of_same (hmq _)))
    rename_i nq;by_cases ha:a2<0
    ·have hda:decide (a2<0)=true:=decide_eq_true ha;have HN:=hid (show lpW (fun a b=>(zas ps a b).1) ps lo hi (hi-(k+1)) (k+1) (pk+mx,(k:Int))=zas ps lo hi by have:=HLP.out;rwa[if_pos (.inl ha)] at this);go_wp2
     go_roundw
     case rel=>exact⟨k+1,(pk+mx,(k:Int)),by omega,by omega,by go_num,rfl,rfl,HN.out,⟨by show-1<=(k:Int);omega,by show(k:Int)<=9;omega,by show 0<=pk+mx;omega,by show pk+mx<=10000;omega⟩,zan HB2.out _⟩
     case measure=>simp[RowKit.intOf];omega
    ·have hda:decide (a2<0)=false:=decide_eq_false ha;by_cases hc:pk+mx<a1
     ·have hdc:decide (pk+mx<a1)=true:=decide_eq_true hc;have HN:=hid (show lpW (fun a b=>(zas ps a b).1) ps lo hi (hi-(k+1)) (k+1) (pk+mx,(k:Int))=zas ps lo hi by have:=HLP.out;rwa[if_pos (.inr hc)] at this);go_wp2
      go_roundw
      case rel=>exact⟨k+1,(pk+mx,(k:Int)),by omega,by omega,by go_num,rfl,rfl,HN.out,⟨by show-1<=(k:Int);omega,by show(k:Int)<=9;omega,by show 0<=pk+mx;omega,by show pk+mx<=10000;omega⟩,zan HB2.out _⟩
      case measure=>simp[RowKit.intOf];omega
     ·have hdc:decide (pk+mx<a1)=false:=decide_eq_false hc;have HN:=hid (show lpW (fun a b=>(zas ps a b).1) ps lo hi (hi-(k+1)) (k+1) (a1,a2)=zas ps lo hi by have:=HLP.out;rwa[if_neg (fun h=>h.elim ha hc)] at this);go_wp2
      go_roundw
      case rel=>exact⟨k+1,(a1,a2),by omega,by omega,by go_num,rfl,rfl,HN.out,⟨bd1,bd2,bd3,bd4⟩,zan HB2.out _⟩
      case measure=>simp[RowKit.intOf];omega
   ·obtain rfl:k=hi:=by omega
    have HO:=hid (show acc=zas ps lo k by have:=HLP.out;rw[Nat.sub_self] at this;exact this);go_wp2;go_ret2;exact⟨by rw[<-HO.out];rfl,HBr.out⟩
theorem zox (A:Option Addr) (n c B:Nat) (ps:List Int) (sec:Int) (V:Option Addr) (vc:Nat) (w:World) (h:zad w B 1 A n (ints ps)) (hB:B <= w.heap.size) (hok:okOp ps = true) :
  Calls prog 241 #[.slice A n c,.slice V 0 vc,.int .i64 sec] w fun e w'=>∃A' m d,e= .returned (.tuple #[.slice A' m d,.int .i64 (zb3 ps (zbb ps sec 0 n))])/\Sl w' w.heap.size w'.heap.size 2 1 A' m d (ints (zbb ps sec 0 n))/\Below w.heap.size w w':=by
 have hn9:n<=9:=by have:=zai h;unfold okOp at hok;simp only[Bool.and_eq_true,decide_eq_true_eq] at hok;omega
 have HLN:=hid (zai h);have HOK:=hid hok;have HR:=hid h;have HS0:=hid (Sl.made w 2 1);have HB0:=hid ((Below.refl w.heap.size w).alloc lr (.cells #[] 2));clear h hok;go_enter func241,ntmps241
 go_wp2_with fail
 go_loopw [8,9,10,11] (fun lw hg o sm wr=>∃(lo hi:Nat) (done:List Int) (A':Option Addr) (m d:Nat),o= .slice A' m d/\sm= .int .i64 (zb3 ps done)/\lw= .int .i64 (lo:Int)/\hg= .int .i64 (hi:Int)/\lo<=hi/\hi<=n/\done++zbb ps sec lo hi=zbb ps sec 0 n/\(0<=zb3 ps done/\zb3 ps done<=1000*(done.length:Int))/\Sl wr w.heap.size wr.heap.size 2 1 A' m d (ints done)/\Below w.heap.size w wr) (fun lw hg _ _ _=>((RowKit.intOf hg)-(RowKit.intOf lw)).toNat)
 case atStart=>exact⟨0,n,[],_,_,_,rfl,rfl,rfl,rfl,Nat.zero_le _,Nat.le_refl _,rfl,by simp[zb3],HS0.out.low,HB0.out⟩
 case round=>
  obtain⟨lo,hi,done,A',m,d,rfl,rfl,rfl,rfl,hlh,hhn,hdone,hsum,hsl,hbel⟩:=hrel;have HS:=hid hsl;have HD:=hid hdone;have HBr:=hid hbel
  have hm9:done.length<=9:=by
   have h2:=congrArg List.length hdone;have h3:(zbb ps sec 0 n).length<=_:=ze0 ps sec _ 0 n;rw[List.length_append] at h2;omega
  have hmm:m=done.length:=by have:=hsl.len;rw[za4] at this;omega
  clear hsl hdone hbel;have hlo0:(0:Int)<=lo:=by omega
  have hhi9:(hi:Int)<=9:=by omega
  by_cases hlt:lo<hi
  ·have hstep:=zjG HOK.out (sec:=sec) (lo:=(lo:Int)) (hi:=(hi:Int)) (by omega) (by rw[HLN.out];omega) (by omega);obtain⟨wd,wa,wb⟩:=zcY HOK.out (lo:=(lo:Int)) (hi:=(hi:Int)) (by omega) (by omega) (by rw[HLN.out];omega);have wd:=wd (by omega);have hp:=znh A n c B ps HOK.out HLN.out (hi-lo+1) lo hi (by omega) hlh hhn wr (HR.out.on hB HBr.out) (Nat.le_trans hB HBr.out.size);obtain⟨k,hk⟩:=Int.eq_ofNat_of_zero_le (show 0<=(zas ps lo hi).2 by omega);obtain⟨pc,hpc⟩:∃z,(zas ps lo hi).1=z:=⟨_,rfl⟩
   rw[hk] at hstep wd hp;rw[hpc] at hp;have HP:=hid hp;have HSTEP:=hid hstep;have hll:(lo:Int)<hi:=by omega
   have hkl:lo<=k:=by omega
   clear hp hstep hk hpc wa wb
   go_wp2_with fail
   refine HP.out.mono ?_;rintro e w2 ⟨rfl,b2⟩;have HB2:=hid (zac HBr.out b2 lr);have HS2:=hid (HS.out.on b2).low;have hz2:w.heap.size<=w2.heap.size:=HB2.out.size;obtain⟨pv,b,off,he,rfl,hb,cp⟩:=zax (HR.out.on hB HB2.out) (k:=k) (by omega);obtain rfl:at0 ps (k:Int)=pv:=by rw[zen (by rw[HLN.out];omega)] at he;injection he
   have hat:=zfC HOK.out (k:Int) (by omega) (by rw[HLN.out];omega);obtain⟨pk,hpk⟩:∃z,at0 ps (k:Int)=z:=⟨_,rfl⟩
   have HPK:=hid hpk;rw[hpk] at cp hat;obtain⟨sm,hsm⟩:∃z,zb3 ps done=z:=⟨_,rfl⟩
   have HSM:=hid hsm;rw[hsm] at hsum⊢
   have hwr:IntKind.i64.wrap (sm+pk)=sm+pk:=by
    unfold IntKind.wrap;simp[IntKind.bits,IntKind.signed];omega
   have hwk:IntKind.i64.wrap ((k:Int)+1)=(k:Int)+1:=by
    unfold IntKind.wrap;simp[IntKind.bits,IntKind.signed];omega
   have hk0:(0:Int)<=k:=by omega
   have hkn:(k:Int)<n:=by omega
   have hm10:m<=9:=by omega
   have hbw:b<w.heap.size:=by omega
   clear b2 he hpk hsm hmm;by_cases hsk:sec<=k
   ·have hds:decide (sec<=(k:Int))=true:=decide_eq_true hsk;have HE:=hid (show zbb ps sec lo hi=(k:Int)::zbb ps sec lo k by rw[HSTEP.out,if_pos hsk])
    go_wp2_with (at_builtin;refine zat rfl _ _ 29 rfl 2 _ 1 8 underlying29 zaX rfl (by decide) (by decide) HS2.out hz2 rfl [.int .i64 (k:Int)] w2.heap.size rfl rfl rfl (fun u hu=>by simp at hu;subst hu;rfl) (by omega) ?_;intro A2 d2 w9 hs9 b9 z9 f9 k9;have HS9:=hid hs9;have HB9:=hid b9;replace cp:=(b9.cell (p:=⟨b,off+k,none⟩) hbw).trans cp;clear hs9 b9 z9 f9 k9)
    go_roundw
    case rel=>
     refine⟨lo,k,done++ [(k:Int)],A2,m+1,d2,rfl,by rw[zc4,HSM.out,HPK.out],rfl,rfl,hkl,by omega,?_,?_,?_,?_⟩
     ·rw[List.append_assoc,<-HD.out,HE.out];rfl
     ·rw[zc4,HSM.out,HPK.out,List.length_append,List.length_singleton];omega
     ·rw[<-zbp];exact HS9.out
     ·exact HB2.out.trans HB9.out
    case measure=>simp[RowKit.intOf];omega
   ·have hds:decide (sec<=(k:Int))=false:=decide_eq_false hsk;have HE:=hid (show zbb ps sec lo hi=(k:Int)::zbb ps sec ((k+1:Nat):Int) hi by rw[HSTEP.out,if_neg hsk];rfl)
    go_wp2_with (at_builtin;refine zat rfl _ _ 29 rfl 2 _ 1 8 underlying29 zaX rfl (by decide) (by decide) HS2.out hz2 rfl [.int .i64 (k:Int)] w2.heap.size rfl rfl rfl (fun u hu=>by simp at hu;subst hu;rfl) (by omega) ?_;intro A2 d2 w9 hs9 b9 z9 f9 k9;have HS9:=hid hs9;have HB9:=hid b9;replace cp:=(b9.cell (p:=⟨b,off+k,none⟩) hbw).trans cp;clear hs9 b9 z9 f9 k9)
    go_roundw
    case rel=>
     refine⟨k+1,hi,done++ [(k:Int)],A2,m+1,d2,rfl,by rw[zc4,HSM.out,HPK.out],by go_num,rfl,by omega,hhn,?_,?_,?_,?_⟩
     ·rw[List.append_assoc,<-HD.out,HE.out];rfl
     ·rw[zc4,HSM.out,HPK.out,List.length_append,List.length_singleton];omega
     ·rw[<-zbp];exact HS9.out
     ·exact HB2.out.trans HB9.out
    case measure=>simp[RowKit.intOf];omega
  ·have HE:=hid (show done=zbb ps sec 0 n by have:=HD.out;rw[zlu (by omega),List.append_nil] at this;exact this);go_wp2;go_ret2;exact⟨A',m,d,by rw[<-HE.out];rfl,by rw[<-HE.out];exact HS.out,HBr.out⟩
theorem zlc (A:Option Addr) (n c B:Nat) (l:List Int) (x:Int) (w:World) (h:zad w B 1 A n (ints l)) (hB:B <= w.heap.size) (hn:n <= 1048576) :
  Calls prog 183 #[.slice A n c,.int .i64 x] w fun e w'=>∃A' m d,e= .returned (.tuple #[.slice A' m d,.int .i64 (seaC l x).2.1,.int .i64 (seaC l x).2.2])/\Sl w' w.heap.size w'.heap.size 2 1 A' m d (ints (seaC l x).1)/\Below w.heap.size w w':=by
 have HR:=hid h;have HLN:=hid (zai h);have HC:=hid (zow A n c B l x w h hn)
 have HN0:=hid (fun hc:(seaC l x).2.2≠0=>(show seaC l x=([],0,(seaC l x).2.2) by
  unfold seaC at hc⊢
  split
  ·rfl
  ·split
   ·rfl
   ·rename_i h1 h2;rw[if_neg h1,if_neg h2] at hc;exact absurd rfl hc))
 have HN1:=hid (fun hc:(seaC l x).2.2=0=>(show okOp l=true/\seaC l x=(zbb l x 0 l.length,zb3 l (zbb l x 0 l.length),0) by
  unfold seaC at hc⊢
  split
  ·rename_i h1;rw[if_pos h1] at hc;cases hc
  ·split
   ·rename_i h1 h2;rw[if_neg h1,if_pos h2] at hc;cases hc
   ·rename_i h1 h2;exact⟨by simpa using h1,rfl⟩))
 obtain⟨sc,hsc⟩:∃z,seaC l x=z:=⟨_,rfl⟩
 rw[hsc] at HC HN0 HN1⊢;clear h hsc;go_enter func183,ntmps183
 go_wp2_with fail
 refine HC.out.mono ?_;rintro e w1 ⟨rfl,rfl⟩;by_cases hc:sc.2.2=0
 ·obtain⟨hok,hs⟩:=HN1.out hc;have HS:=hid hs;rw[hc];clear hc hs;have b1:Below w.heap.size w (w.alloc (.cells #[] 2)):=bal _;have HB1:=hid b1;clear b1
  go_wp2_with fail
  refine(zox A n c B l x (some ⟨w.heap.size,0,none⟩) 0 _ (HR.out.on hB HB1.out) (Nat.le_trans hB HB1.out.size) hok).mono ?_;rintro e w2 ⟨A',m,d,rfl,s2,b2⟩;have HS2:=hid s2;have HB2:=hid (zac HB1.out b2 lr);clear s2 b2;go_wp2;go_ret3;rw[HS.out,HLN.out];exact⟨A',m,d,rfl,HS2.out.wide HB1.out.size lr,HB2.out⟩
 ·have HS:=hid (HN0.out hc);have hcb:(sc.2.2 !=0)=true:=by rw[bne_iff_ne];exact hc
  clear hc;go_wp2;go_ret3;rw[HS.out];exact⟨none,0,0,rfl,Sl.nil _ _ _ _ _,Below.refl _ _⟩
end Go.Proofs.YtjalgpioklcbfaaGreatDoor
