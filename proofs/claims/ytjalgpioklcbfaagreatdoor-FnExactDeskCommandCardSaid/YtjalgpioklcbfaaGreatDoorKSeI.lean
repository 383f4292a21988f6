/- The search for a carrier, as the program does it. -/
import Derived.Test.YtjalgpioklcbfaaGreatDoorMgDesksAK
set_option maxHeartbeats 4000000
set_option maxRecDepth 100000
set_option linter.unusedVariables false
set_option linter.unusedSimpArgs false
namespace Go.Proofs.YtjalgpioklcbfaaGreatDoor
open Go.RowKit Go.Lib Go.Proofs.Tryz
theorem ziA (A:Option Addr) (n c B:Nat) (l:List Int) (w:World) (h:zad w B 1 A n (ints l)) (hB:B <= w.heap.size) (hn:n <= 1048576) :
  Calls prog 213 #[.slice A n c] w fun e w'=>e= .returned (.bool (okOp l))/\Below w.heap.size w w':=by
 have hl:=zai h;by_cases h9:n<=9
 ·have hd:decide ((n:Int)<=9)=true:=decide_eq_true (by omega);have HO:=hid (show okOp l=l.all fun x=>inR x 1 1000 by simp[okOp,hl,h9]);go_enter func213,ntmps213
  go_wp2_with fail
  refine(zeY A n c B l 1 1000 w h hB hn).mono ?_;rintro e w1 ⟨rfl,b1⟩;go_wp2;go_ret;exact⟨zae (by rw[HO.out];try simp),b1⟩
 ·have hd:decide ((n:Int)<=9)=false:=decide_eq_false (by omega);have HO:=hid (show okOp l=false by simp[okOp,hl,h9]);go_enter func213,ntmps213;go_wp2;go_ret;exact⟨zae HO.out.symm,Below.refl _ _⟩
theorem zhp (A:Option Addr) (n c:Nat) (x:Int) (w:World) (hn:n <= 1048576) :
  Calls prog 214 #[.slice A n c,.int .i64 x] w fun e w'=>e= .returned (.bool (inR x 0 (n:Int)))/\w'=w:=by
 go_enter func214,ntmps214
 go_wp2_with fail
 refine(zaG _ _ _ _).mono ?_;rintro e w1 ⟨rfl,rfl⟩;go_wp2;go_ret;exact⟨rfl,rfl⟩
def zdx(l:List Int)(x:Int):Int:=if okOp l=false then 1 else if inR x 0 l.length=false then 2 else 0
theorem zju (A:Option Addr) (n c B:Nat) (l:List Int) (x:Int) (w:World) (h:zad w B 1 A n (ints l)) (hB:B <= w.heap.size) (hn:n <= 1048576) :
  Calls prog 154 #[.slice A n c,.int .i64 x,.int .i64 x] w fun e w'=>e= .returned (.int .i64 (zdx l x))/\Below w.heap.size w w':=by
 have hl:=zai h;go_enter func154,ntmps154
 go_wp2_with fail
 refine(ziA A n c B l w h hB hn).mono ?_;rintro e w1 ⟨rfl,b1⟩;have HB:=hid b1;clear b1;rcases ho:okOp l with _|_
 ·have HO:=hid (show zdx l x=1 by unfold zdx;rw[ho];rfl);go_wp2;go_ret;exact⟨by rw[HO.out];rfl,HB.out⟩
 ·have HO:=hid (show zdx l x=if inR x 0 (n:Int)=false then 2 else 0 by unfold zdx;rw[ho,hl];rfl);clear ho hl
  go_wp2_with fail
  refine(zhp A n c x w1 hn).mono ?_;rintro e wq ⟨rfl,hww⟩;rw[hww];clear hww;rcases hi:inR x 0 (n:Int) with _|_
  ·have HP:=hid (show zdx l x=2 by rw[HO.out,hi];rfl);go_wp2;go_ret;exact⟨by rw[HP.out];rfl,HB.out⟩
  ·have HP:=hid (show zdx l x=0 by rw[HO.out,hi];rfl)
   go_wp2_with fail
   refine(zhp A n c x w1 hn).mono ?_;rintro e wq ⟨rfl,hww⟩;rw[hww,hi];clear hww hi;go_wp2;go_ret;exact⟨by rw[HP.out];rfl,HB.out⟩
theorem znt(pr:Int->Int->Int)(ps:List Int)(lo hi:Int)(d:Nat)(k:Int)(acc:Int×Int):lpW pr ps lo hi (d+1) k acc=lpW pr ps lo hi d (k+1) (if acc.2<0\/at0 ps k+max (pr lo k) (pr (k+1) hi)<acc.1 then (at0 ps k+max (pr lo k) (pr (k+1) hi),k) else acc):=rfl
theorem zrl (A:Option Addr) (n c B:Nat) (ps:List Int) (hok:okOp ps = true) (hln:ps.length = n):∀ (f lo hi:Nat),hi - lo < f -> lo <= hi -> hi <= n -> ∀ w:World,zad w B 1 A n (ints ps) -> B <= w.heap.size ->
  Calls prog 215 #[.agg #[.slice A n c,.slice none 0 0],.int .i64 (lo:Int),.int .i64 (hi:Int)] w fun e w'=>e= .returned (.tuple #[.int .i64 (zas ps lo hi).1,.int .i64 (zas ps lo hi).2])/\Below w.heap.size w w':=by
 intro f
 induction f with
 |zero=>intro lo hi hf;omega
 |succ f ih=>
  intro lo hi hf hlh hhn w h hB;have hn9:n<=9:=by unfold okOp at hok;simp only[Bool.and_eq_true,decide_eq_true_eq] at hok;omega
  have HOK:=hid hok;have HLN:=hid hln;have HIH:=hid ih;have HWL:=hid (zg5 ps lo hi);obtain⟨W,hW,y0,hb⟩:∃W,W=w.alloc (.cells #[.slice A n c,.slice none 0 0] 201)/\Blk W w.heap.size 201 #[.slice A n c,.slice none 0 0]/\Below w.heap.size w W:=⟨_,rfl,Blk.new _ _ _,bal _⟩
  have HW:=hid hW;have HB:=hid hb;have HY:=hid y0;have HR:=hid h;clear hW hb y0 h hok hln ih;go_enter func215,ntmps215
  go_upto_region 1 with fail
  rw[<-HW.out]
  go_wp2_with fail
  go_loopw [8,9,10] (fun bst lst kk wr=>∃(k:Nat) (acc:Int×Int),lo<=k/\k<=hi/\kk= .int .i64 (k:Int)/\bst= .int .i64 acc.2/\lst= .int .i64 acc.1/\lpW (fun a b=>(zas ps a b).1) ps lo hi (hi-k) k acc=zas ps lo hi/\(-1<=acc.2/\acc.2<=9/\0<=acc.1/\acc.1<=10000)/\Blk wr w.heap.size 201 #[.slice A n c,.slice none 0 0]/\Below w.heap.size w wr) (fun _ _ kk _=>hi-(RowKit.intOf kk).toNat)
  case atStart=>
   refine⟨lo,(0,-1),Nat.le_refl _,hlh,rfl,rfl,rfl,?_,by simp,HY.out,HB.out⟩;rw[HWL.out,show((hi:Int)-lo).toNat=hi-lo by omega]
  case round=>
   obtain⟨k,acc,hk1,hk2,rfl,rfl,rfl,hlp,hbd,hy,hbel⟩:=hrel;have HLP:=hid hlp;have HYr:=hid hy;have HBr:=hid hbel;clear hlp hy hbel;have hk0:(0:Int)<=k:=by omega
   have hk9:(k:Int)<=9:=by omega
   by_cases hlt:k<hi
   ·obtain⟨w1d,w1a,w1b⟩:=zcY HOK.out (lo:=(lo:Int)) (hi:=(k:Int)) (by omega) (by omega) (by rw[HLN.out];omega);obtain⟨w2d,w2a,w2b⟩:=zcY HOK.out (lo:=(k:Int)+1) (hi:=(hi:Int)) (by omega) (by omega) (by rw[HLN.out];omega);have hat:=zfC HOK.out (k:Int) (by omega) (by rw[HLN.out];omega);have h1:=HIH.out lo k (by omega) hk1 (by omega);have h2:=HIH.out (k+1) hi (by omega) (by omega) hhn;rw[show((k+1:Nat):Int)=(k:Int)+1 by omega] at h2;rw[show hi-k=(hi-(k+1))+1 by omega,znt] at HLP;obtain⟨p1,hp1⟩:∃z,(zas ps lo k).1=z:=⟨_,rfl⟩
    obtain⟨r1,hr1⟩:∃z,(zas ps lo k).2=z:=⟨_,rfl⟩
    obtain⟨p2,hp2⟩:∃z,(zas ps ((k:Int)+1) hi).1=z:=⟨_,rfl⟩
    obtain⟨r2,hr2⟩:∃z,(zas ps ((k:Int)+1) hi).2=z:=⟨_,rfl⟩
    simp only[hp1,hp2] at HLP;rw[hp1] at w1a w1b h1;rw[hp2] at w2a w2b h2;rw[hr1] at h1;rw[hr2] at h2;have H1:=hid h1;have H2:=hid h2;have hp1b:p1<=9000:=by omega
    have hp2b:p2<=9000:=by omega
    have hkh:(k:Int)<hi:=by omega
    have hkn:(k:Int)<n:=by omega
    obtain⟨a1,a2⟩:=acc;simp only at hbd HLP⊢;obtain⟨bd1,bd2,bd3,bd4⟩:=hbd;have c0:=HYr.out.cellAt 0 (by simp);have c1:=HYr.out.cellAt 1 (by simp);simp only[ly] at c0 c1;clear h1 h2 hp1 hp2 hr1 hr2 w1d w2d
    go_wp2_with fail
    refine(H1.out wr (HR.out.on hB HBr.out) (Nat.le_trans hB HBr.out.size)).mono ?_;rintro e w1 ⟨rfl,b1⟩;have HB1:=hid (zac HBr.out b1 lr);have HY1:=hid (HYr.out.on b1);replace c0:=zaa b1 c0;replace c1:=zaa b1 c1;clear b1
    go_wp2_with fail
    refine(H2.out w1 (HR.out.on hB HB1.out) (Nat.le_trans hB HB1.out.size)).mono ?_;rintro e w2 ⟨rfl,b2⟩;have HB2:=hid (zac HB1.out b2 lr);have HY2:=hid (HY1.out.on b2);replace c0:=zaa b2 c0;replace c1:=zaa b2 c1;obtain⟨pv,b,off,he,rfl,hb,cp⟩:=zax (HR.out.on hB HB2.out) (k:=k) (by omega);obtain rfl:at0 ps (k:Int)=pv:=by rw[zen (by rw[HLN.out];omega)] at he;injection he
    obtain⟨pk,hpk⟩:∃z,at0 ps (k:Int)=z:=⟨_,rfl⟩
    rw[hpk] at cp hat HLP;clear b2 he hpk;have hmxb:max p1 p2<=9000:=by omega
    have hmx0:0<=max p1 p2:=by omega
    by_cases ha:a2<0
    ·have hda:decide (a2<0)=true:=decide_eq_true ha;have HN:=hid (show lpW (fun a b=>(zas ps a b).1) ps lo hi (hi-(k+1)) (k+1) (pk+max p1 p2,(k:Int))=zas ps lo hi by have:=HLP.out;rwa[if_pos (.inl ha)] at this);go_wp2
     go_roundw
     case rel=>exact⟨k+1,(pk+max p1 p2,(k:Int)),by omega,by omega,by go_num,rfl,rfl,HN.out,⟨by show-1<=(k:Int);omega,by show(k:Int)<=9;omega,by show 0<=pk+max p1 p2;omega,by show pk+max p1 p2<=10000;omega⟩,HY2.out,HB2.out⟩
     case measure=>simp[RowKit.intOf];omega
    ·have hda:decide (a2<0)=false:=decide_eq_false ha;by_cases hc:pk+max p1 p2<a1
     ·have hdc:decide (pk+max p1 p2<a1)=true:=decide_eq_true hc;have HN:=hid (show lpW (fun a b=>(zas ps a b).1) ps lo hi (hi-(k+1)) (k+1) (pk+max p1 p2,(k:Int))=zas ps lo hi by have:=HLP.out;rwa[if_pos (.inr hc)] at this);go_wp2
      go_roundw
      case rel=>exact⟨k+1,(pk+max p1 p2,(k:Int)),by omega,by omega,by go_num,rfl,rfl,HN.out,⟨by show-1<=(k:Int);omega,by show(k:Int)<=9;omega,by show 0<=pk+max p1 p2;omega,by show pk+max p1 p2<=10000;omega⟩,HY2.out,HB2.out⟩
      case measure=>simp[RowKit.intOf];omega
     ·have hdc:decide (pk+max p1 p2<a1)=false:=decide_eq_false hc;have HN:=hid (show lpW (fun a b=>(zas ps a b).1) ps lo hi (hi-(k+1)) (k+1) (a1,a2)=zas ps lo hi by have:=HLP.out;rwa[if_neg (by omega)] at this);go_wp2
      go_roundw
      case rel=>exact⟨k+1,(a1,a2),by omega,by omega,by go_num,rfl,rfl,HN.out,⟨bd1,bd2,bd3,bd4⟩,HY2.out,HB2.out⟩
      case measure=>simp[RowKit.intOf];omega
   ·obtain rfl:k=hi:=by omega
    have HO:=hid (show acc=zas ps lo k by have:=HLP.out;rw[Nat.sub_self] at this;exact this);go_wp2;go_ret2;exact⟨by rw[<-HO.out];rfl,HBr.out⟩
theorem zc4(ps:List Int):∀(l:List Int) (k:Int),zb3 ps (l++ [k])=zb3 ps l+at0 ps k
 | [],k=>by simp[zb3]
 |x::l,k=>by rw[List.cons_append,zb3,zb3,zc4 ps l k];omega
theorem zsk (A:Option Addr) (n c B:Nat) (ps:List Int) (sec:Int) (w:World) (h:zad w B 1 A n (ints ps)) (hB:B <= w.heap.size) (hok:okOp ps = true) :
  Calls prog 155 #[.agg #[.slice A n c,.slice none 0 0],.int .i64 sec] w fun e w'=>∃A' m d,e= .returned (.tuple #[.slice A' m d,.int .i64 (zb3 ps (zbb ps sec 0 n))])/\Sl w' w.heap.size w'.heap.size 2 1 A' m d (ints (zbb ps sec 0 n))/\Below w.heap.size w w':=by
 have hln:=zai h;have hn9:n<=9:=by unfold okOp at hok;simp only[Bool.and_eq_true,decide_eq_true_eq] at hok;omega
 have HOK:=hid hok;have HLN:=hid hln;obtain⟨W0,hW,y0,hb⟩:∃W,W=w.alloc (.cells #[.slice A n c,.slice none 0 0] 201)/\Blk W w.heap.size 201 #[.slice A n c,.slice none 0 0]/\Below w.heap.size w W:=⟨_,rfl,Blk.new _ _ _,bal _⟩
 have HW:=hid hW;have HB:=hid hb;have HY:=hid y0;have HR:=hid h;have c0:=y0.cellAt 0 (by simp);simp only[List.getElem_toArray,List.getElem_cons_zero] at c0;have HS0:=hid (((Acc.made W0 2 1).sl (lo:=W0.heap.size) lr lr).drew);have HZ0:=hid (show W0.heap.size=w.heap.size+1 by rw[hW];simp);clear hW hb y0 h hok hln;go_enter func155,ntmps155
 go_upto_region 1 with fail
 rw[<-HW.out];refine ez (fun W=>Below W0.heap.size W0 W/\W.cell? ⟨w.heap.size,0,none⟩=some (.slice A n c)) ?_ fun hHeld=>?_
 ·exact⟨(Below.refl _ _).drew,c0⟩
 refine dq 1 rfl (h:=dq 2 rfl (h:=dq 3 rfl (h:=?_)));refine rd 0 rfl fun K hK=>?_;go_simp;refine ke hK ?_ ?_
 ·exact⟨zac hHeld.1 (bal _) lr,zaa (bal _) hHeld.2⟩
 clear hK K hHeld;intro hHeld;refine dq 4 rfl (h:=dq 5 rfl (h:=dq 6 rfl (h:=dq 7 rfl (h:=?_))));refine dn ?_;have HBs:=hid hHeld.1;clear hHeld c0
 go_wp2_with fail
 go_loopw [6,7,8,9] (fun o sm lw hg wr=>∃(lo hi:Nat) (done:List Int) (A':Option Addr) (m d:Nat),o= .slice A' m d/\sm= .int .i64 (zb3 ps done)/\lw= .int .i64 (lo:Int)/\hg= .int .i64 (hi:Int)/\lo<=hi/\hi<=n/\done++zbb ps sec lo hi=zbb ps sec 0 n/\(0<=zb3 ps done/\zb3 ps done<=1000*(done.length:Int))/\Sl wr W0.heap.size wr.heap.size 2 1 A' m d (ints done)/\Below W0.heap.size W0 wr) (fun _ _ lw hg _=>(RowKit.intOf hg).toNat-(RowKit.intOf lw).toNat)
 case atStart=>exact⟨0,n,[],_,_,_,rfl,rfl,rfl,rfl,Nat.zero_le _,Nat.le_refl _,rfl,by simp[zb3],HS0.out.low,HBs.out⟩
 case round=>
  obtain⟨lo,hi,done,A',m,d,rfl,rfl,rfl,rfl,hlh,hhn,hdone,hsum,hsl,hbel⟩:=hrel;have HS:=hid hsl;have HD:=hid hdone;have HBr:=hid (zac HB.out hbel lr);have HW0:=hid hbel
  have hm9:done.length<=9:=by
   have h2:=congrArg List.length hdone;have h3:(zbb ps sec 0 n).length<=_:=ze0 ps sec _ 0 n;rw[List.length_append] at h2;omega
  have hmm:m=done.length:=by have:=hsl.len;rw[za4] at this;omega
  have c0:=(HY.out.on hbel).cellAt 0 (by simp);have c1:=(HY.out.on hbel).cellAt 1 (by simp);simp only[ly] at c0 c1;clear hsl hdone hbel;have hlo0:(0:Int)<=lo:=by omega
  have hhi9:(hi:Int)<=9:=by omega
  by_cases hlt:lo<hi
  ·have hstep:=zjG HOK.out (sec:=sec) (lo:=(lo:Int)) (hi:=(hi:Int)) (by omega) (by rw[HLN.out];omega) (by omega);obtain⟨wd,wa,wb⟩:=zcY HOK.out (lo:=(lo:Int)) (hi:=(hi:Int)) (by omega) (by omega) (by rw[HLN.out];omega);have wd:=wd (by omega);have hp:=zrl A n c B ps HOK.out HLN.out (hi-lo+1) lo hi (by omega) hlh hhn wr (HR.out.on hB HBr.out) (Nat.le_trans hB HBr.out.size);obtain⟨k,hk⟩:=Int.eq_ofNat_of_zero_le (show 0<=(zas ps lo hi).2 by omega);obtain⟨pc,hpc⟩:∃z,(zas ps lo hi).1=z:=⟨_,rfl⟩
   rw[hk] at hstep wd hp;rw[hpc] at hp;have HP:=hid hp;have HSTEP:=hid hstep;have hll:(lo:Int)<hi:=by omega
   have hkl:lo<=k:=by omega
   clear hp hstep hk hpc wa wb
   go_wp2_with fail
   refine HP.out.mono ?_;rintro e w2 ⟨rfl,b2⟩;have HB2:=hid (zac HBr.out b2 lr);have HS2:=hid (HS.out.on b2);have HW2:=hid (zac HW0.out b2 lr);have hz2:W0.heap.size<=w2.heap.size:=HW2.out.size;have HNE:=hid (HS.out.loNe (g:=w.heap.size) (by rw[HZ0.out];exact Nat.lt_succ_self _));have hgw:w.heap.size<w2.heap.size:=by have:=HZ0.out;omega
   replace c0:=zaa b2 c0;obtain⟨pv,b,off,he,rfl,hb,cp⟩:=zax (HR.out.on hB HB2.out) (k:=k) (by omega);obtain rfl:at0 ps (k:Int)=pv:=by rw[zen (by rw[HLN.out];omega)] at he;injection he
   have hat:=zfC HOK.out (k:Int) (by omega) (by rw[HLN.out];omega);have hbw:b<W0.heap.size:=by have:=HZ0.out;omega
   obtain⟨pk,hpk⟩:∃z,at0 ps (k:Int)=z:=⟨_,rfl⟩
   have HPK:=hid hpk;rw[hpk] at cp hat;obtain⟨sm,hsm⟩:∃z,zb3 ps done=z:=⟨_,rfl⟩
   have HSM:=hid hsm;rw[hsm] at hsum⊢
   have hwr:IntKind.i64.wrap (sm+pk)=sm+pk:=by
    unfold IntKind.wrap;simp[IntKind.bits,IntKind.signed];omega
   have hk0:(0:Int)<=k:=by omega
   have hkn:(k:Int)<n:=by omega
   have hm10:m<=9:=by omega
   clear b2 c1 he hpk hsm hmm
   go_wp2_with fail
   refine ez (fun W=>W.cell? ⟨w.heap.size,0,none⟩=some (.slice (some ⟨b,off,none⟩) n c)/\W.cell? ⟨b,off+k,none⟩=some (.int .i64 pk)) ?_ fun hHeld=>?_
   ·exact⟨c0,cp⟩
   refine dq 0 rfl (h:=dq 1 rfl (h:=dq 4 rfl (h:=dq 5 rfl (h:=dq 6 rfl (h:=dq 7 rfl (h:=dq 8 rfl (h:=dq 9 rfl (h:=?_))))))));refine dq 10 rfl (h:=?_);refine rd 2 rfl fun K hK=>?_;go_simp;refine ke hK ?_ ?_
   ·exact⟨zaa (bal _) hHeld.1,zaa (bal _) hHeld.2⟩
   clear hK K hHeld;intro hHeld;refine rd 3 rfl fun K hK=>?_;refine zbH rfl _ _ 29 rfl 2 _ 1 8 underlying29 zaX rfl (by decide) (by decide) HS2.out.drew hz2 rfl [.int .i64 (k:Int)] w2.heap.size rfl rfl rfl (fun u hu=>by simp at hu;subst hu;rfl) (by omega) ?_;intro A2 d2 w9 hs9 b9 f9 k9;refine ke hK ?_ ?_
   ·refine⟨?_,?_⟩
    ·rw[World.cell?_of_block (f9 w.heap.size hgw HNE.out)];exact c0
    ·rw[World.cell?_of_block (b9.block b hbw)];exact cp
   clear hK K hHeld;intro hHeld;refine dq 11 rfl (h:=dq 12 rfl (h:=?_));refine dn ?_;have HS9:=hid hs9;have HB9:=hid b9;clear hHeld hs9 b9 f9 k9 c0 cp;by_cases hsk:sec<=k
   ·have hds:decide (sec<=(k:Int))=true:=decide_eq_true hsk;have HE:=hid (show zbb ps sec lo hi=(k:Int)::zbb ps sec lo k by rw[HSTEP.out,if_pos hsk]);go_wp2
    go_roundw
    case rel=>
     refine⟨lo,k,done++ [(k:Int)],A2,m+1,d2,rfl,by rw[zc4,HSM.out,HPK.out],rfl,rfl,hkl,by omega,?_,?_,?_,?_⟩
     ·rw[List.append_assoc,<-HD.out,HE.out];rfl
     ·rw[zc4,HSM.out,HPK.out,List.length_append,List.length_singleton];omega
     ·rw[<-zbp];exact HS9.out
     ·exact HW2.out.drew.trans HB9.out
    case measure=>simp[RowKit.intOf];omega
   ·have hds:decide (sec<=(k:Int))=false:=decide_eq_false hsk;have HE:=hid (show zbb ps sec lo hi=(k:Int)::zbb ps sec ((k+1:Nat):Int) hi by rw[HSTEP.out,if_neg hsk];rfl);go_wp2
    go_roundw
    case rel=>
     refine⟨k+1,hi,done++ [(k:Int)],A2,m+1,d2,rfl,by rw[zc4,HSM.out,HPK.out],by go_num,rfl,by omega,hhn,?_,?_,?_,?_⟩
     ·rw[List.append_assoc,<-HD.out,HE.out];rfl
     ·rw[zc4,HSM.out,HPK.out,List.length_append,List.length_singleton];omega
     ·rw[<-zbp];exact HS9.out
     ·exact HW2.out.drew.trans HB9.out
    case measure=>simp[RowKit.intOf];omega
  ·have HE:=hid (show done=zbb ps sec 0 n by have:=HD.out;rw[zlu (by omega),List.append_nil] at this;exact this);go_wp2;go_ret2;exact⟨A',m,d,by rw[<-HE.out];rfl,by rw[<-HE.out];exact HS.out.wide (by rw[HZ0.out];exact Nat.le_succ _) lr,HBr.out⟩
theorem zrs{l:List Int}{x:Int}(h:zdx l x≠0):seaC l x=([],0,zdx l x):=by
 unfold zdx at h⊢;unfold seaC
 split
 ·rfl
 ·rename_i h1;rw[if_neg h1] at h
  split
  ·rfl
  ·rename_i h2;rw[if_neg h2] at h;exact absurd rfl h
theorem ztz{l:List Int}{x:Int}(h:zdx l x=0):okOp l=true/\seaC l x=(zbb l x 0 l.length,zb3 l (zbb l x 0 l.length),0):=by
 unfold zdx at h
 split at h
 ·cases h
 ·rename_i h1
  split at h
  ·cases h
  ·rename_i h2;refine⟨by simpa using h1,?_⟩;unfold seaC;rw[if_neg h1,if_neg h2]
theorem zkU (A:Option Addr) (n c B:Nat) (l:List Int) (x:Int) (w:World) (h:zad w B 1 A n (ints l)) (hB:B <= w.heap.size) (hn:n <= 1048576) :
  Calls prog 88 #[.slice A n c,.int .i64 x] w fun e w'=>∃A' m d,e= .returned (.tuple #[.slice A' m d,.int .i64 (seaC l x).2.1,.int .i64 (seaC l x).2.2])/\Sl w' w.heap.size w'.heap.size 2 1 A' m d (ints (seaC l x).1)/\Below w.heap.size w w':=by
 have HLN:=hid (zai h);go_enter func88,ntmps88
 go_wp2_with fail
 refine(zju A n c B l x w h hB hn).mono ?_;rintro e w1 ⟨rfl,b1⟩;have HB1:=hid b1;have HR1:=hid (h.on hB b1);clear b1 h;by_cases hc:zdx l x=0
 ·obtain⟨ho,hs⟩:=ztz hc;rw[HLN.out] at hs;have HO:=hid hs;have HOK:=hid ho;rw[hc];clear hc hs ho
  go_wp2_with fail
  refine(zsk A n c B l x w1 HR1.out (Nat.le_trans hB HB1.out.size) HOK.out).mono ?_;rintro e w2 ⟨A',m,d,rfl,s2,b2⟩;have HS:=hid s2;have HB2:=hid (zac HB1.out b2 lr);clear b2 s2;obtain⟨sm,hsm⟩:∃z,zb3 l (zbb l x 0 n)=z:=⟨_,rfl⟩
  have HSM:=hid hsm;rw[hsm];clear hsm;go_wp2;go_ret3;exact⟨A',m,d,by rw[HO.out,HSM.out];rfl,by rw[HO.out];exact HS.out.wide HB1.out.size lr,HB2.out⟩
 ·have hne:(zdx l x !=0)=true:=by simpa using hc
  have HO:=hid (zrs hc);obtain⟨v,hv⟩:∃v,zdx l x=v:=⟨_,rfl⟩
  rw[hv] at hne HO⊢;clear hc hv;go_wp2;go_ret3;exact⟨none,0,0,by rw[HO.out];rfl,by rw[HO.out];exact Sl.nil _ _ _ _ _,HB1.out⟩
end Go.Proofs.YtjalgpioklcbfaaGreatDoor
