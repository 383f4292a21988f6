/- Steps of the proof. -/
import Derived.Test.YtjalgpioklcbfaaGreatDoorKFsR
import Derived.Test.YtjalgpioklcbfaaGreatDoorKGrw
import Derived.Test.YtjalgpioklcbfaaGreatDoorKFaS
import Derived.Test.YtjalgpioklcbfaaGreatDoorKSeI
import Derived.Test.YtjalgpioklcbfaaGreatDoorKLogC
set_option maxHeartbeats 4000000
set_option maxRecDepth 100000
set_option linter.unusedVariables false
set_option linter.unusedSimpArgs false
namespace Go.Proofs.YtjalgpioklcbfaaGreatDoor
section
open Go.RowKit Go.Lib Go.Proofs.Tryz
theorem zkA{dgE dgA:Nat->Int}(h:∀k,0<=dgE k/\dgE k<=1){l:List Sn}(hl:l[0]?=some sn0):∀k,(zbg dgE dgA l k)[0]?=some sn0
 |0=>hl
 |k+1=>by
  have hb:=(zfQ h k).1;have hp:(0:Int)<2^k:=Int.pow_pos (by decide);rw[zbg];unfold zct;rw[List.getElem?_set_ne (by omega)];exact zkA h hl k
theorem znY{dgE dgA:Nat->Int}{l:List Sn}(hl:∀s∈l,s.okS):∀k,∀s∈zbg dgE dgA l k,s.okS
 |0=>hl
 |k+1=>zs7 (znY hl k) _ _ _
theorem znC(d:Nat):∀(ts:List Tl) (l:List Sn),l[0]?=some sn0->(∀s∈l,s.okS)->(ts.foldl (fun l t=>zbg (dgF d t.2) (dgF d t.1) l d) l)[0]?=some sn0/\∀s∈ts.foldl (fun l t=>zbg (dgF d t.2) (dgF d t.1) l d) l,s.okS
 | [],l,h0,h1=>⟨h0,h1⟩
 |t::ts,l,h0,h1=>znC d ts _ (zkA (zez d t.2) h0 d) (znY h1 d)
theorem zrt(d:Nat)(ts:List Tl):(zaO d ts)[0]?=some sn0/\∀s∈zaO d ts,s.okS:=by
 refine znC d ts _ ?_ ?_
 ·rw[List.getElem?_replicate,if_pos (Nat.pow_pos (by decide))]
 ·intro s hs;rw[List.eq_of_mem_replicate hs];exact zrx
theorem zqj{s:Sn}(h:s.okS)(hw:zbm s=true)(h3:zbo s≠3)(k:Int):(if s.a0=true then [(k,(0:Int))] else if s.a1=true then [(k,1)] else [])=[(k,zbo s-1)]:=by
 obtain⟨l0,l1,a0,a1⟩:=s
 revert h hw h3
 unfold Sn.okS
 cases l0<;>cases l1<;>cases a0<;>cases a1<;>simp[zbm,zbo]
theorem zqi{s:Sn}(hw:zbm s=false)(k:Int):(if s.a0=true then [(k,(0:Int))] else if s.a1=true then [(k,1)] else [])=[]:=by
 obtain⟨l0,l1,a0,a1⟩:=s
 revert hw
 cases a0<;>cases a1<;>simp[zbm]
theorem zmu (d:Nat) (A:Option Addr) (n c B:Nat) (l:List Tl) (w:World) (h:zad w B 2 A n (tls l)) (hB:B <= w.heap.size) (hok:okTr (d:Int) l = true) :
  Calls prog 287 #[.int .i64 (d:Int),.slice A n c] w fun e w'=>∃A' q' d',e= .returned (.tuple #[.slice A' q' d',.bool (!(zaO d l).any zbw)])/\Sl w' w.heap.size w'.heap.size 137 2 A' q' d' (tls (if (zaO d l).any zbw=true then [] else outI (zaO d l) 0))/\Below w.heap.size w w':=by
 obtain⟨h1,hd,hl16,hts⟩:=zn0 hok;have HC:=hid (zni d A n c B l w h hB hok);have HZ:=hid (zrt d l);have HL:=hid (zeu d l)
 have h2d:2^d<=16/\1<=2^d:=by
  have:d=1\/d=2\/d=3\/d=4:=by omega
  rcases this with rfl|rfl|rfl|rfl<;>exact⟨by decide,by decide⟩
 obtain⟨N,hN⟩:∃N,2^d=N:=⟨_,rfl⟩
 obtain⟨sl,hsl⟩:∃z,zaO d l=z:=⟨_,rfl⟩
 rw[hN] at h2d HL HC;rw[hsl] at HL HC HZ;rw[hsl];obtain⟨bad,hbad⟩:∃z,sl.any zbw=z:=⟨_,rfl⟩
 obtain⟨R,hR⟩:∃z,(if sl.any zbw=true then [] else outI sl 0)=z:=⟨_,rfl⟩
 rw[hR,hbad];have HBAD:=hid hbad;have HRR:=hid hR;clear h hok hts hl16 hN hsl hbad hR;obtain⟨hN1,hN2⟩:=h2d;go_enter func287,ntmps287
 go_wp2_with fail
 refine HC.out.mono ?_;rintro e w1 ⟨g1,g2,rfl,y1,y2,hg1,hg2,b1⟩;have HY1:=hid y1;have HY2:=hid y2;have HB1:=hid b1;have HA1:=hid (Acc.made w1 137 2)
 have HO0:=hid (show outI (sl.take 1) 0=[] by
  cases sl with
  |nil=>rfl
  |cons s r=>
   have:=HZ.out.1;simp at this;subst this;simp[outI,sn0])
 have HT1:=hid (show za0 (fun s=>!zbw s) sl 1 from(za0.zero _ _).step HZ.out.1 rfl);clear y1 y2 b1 hg1 hg2
 go_wp2_with fail
 go_loopw [8,9] (fun o i wr=>∃(k:Nat) (A1:Option Addr) (q1 d1:Nat),k<=N/\1<=k/\i= .int .i64 (k:Int)/\o= .slice A1 q1 d1/\q1<=k/\za0 (fun s=>!zbw s) sl k/\Acc w1.heap.size w1.heap.size 137 2 w1 wr A1 q1 d1 (tls (outI (sl.take k) 0))) (fun _ i _=>N-(RowKit.intOf i).toNat)
 case atStart=>exact⟨1,_,_,_,hN2,Nat.le_refl _,rfl,rfl,Nat.zero_le _,HT1.out,by rw[HO0.out];exact HA1.out⟩
 case round=>
  obtain⟨k,A1,q1,d1,hk,hk1,rfl,rfl,hq1,hall,hacc⟩:=hrel;have HA:=hid hacc;have HT:=hid hall;have HBr:=hid (hacc.below lr lr);clear hacc hall;have hk0:(0:Int)<=k:=by omega
  by_cases hlt:k<N
  ·have hkn:(k:Int)<N:=by omega
   obtain⟨s,hs⟩:∃s,sl[k]?=some s:=⟨_,List.getElem?_eq_getElem (by rw[HL.out];exact hlt)⟩
   have HS:=hid hs;have HOK:=hid (HZ.out.2 s (List.mem_of_getElem? hs));have ca:=znI (HY1.out.on HBr.out) hs;have cb:=zmj (HY2.out.on HBr.out) hs;have HSN:=hid (zib sl 0 k s hs);have hbd:=znH s;clear hs;rcases hw:zbm s with _|_
   ·rw[hw] at cb;have HSX:=hid (show outI (sl.take (k+1)) 0=outI (sl.take k) 0 by rw[HSN.out,Nat.zero_add,zqi hw,List.append_nil]);have HCL:=hid (show zbw s=false by rw[zjd HOK.out,hw,Bool.false_and]);clear hw;go_wp2
    go_roundw
    case rel=>exact⟨k+1,A1,q1,d1,by omega,by omega,by go_num,rfl,by omega,HT.out.step HS.out (by rw[HCL.out];rfl),by rw[HSX.out];exact HA.out⟩
    case measure=>simp[RowKit.intOf];omega
   ·rw[hw] at cb;have HW:=hid hw;clear hw;by_cases h3:zbo s=3
    ·have HAN:=hid (show sl.any zbw=true from List.any_eq_true.2 ⟨s,List.mem_of_getElem? HS.out,by rw[zjd HOK.out,HW.out,h3];rfl⟩);rw[h3] at ca;clear h3 hbd;go_wp2;go_ret2;exact⟨none,0,0,by rw[<-HBAD.out,HAN.out];rfl,by rw[<-HRR.out,if_pos HAN.out];exact Sl.nil _ _ _ _ _,HB1.out.trans (HBr.out.mono HB1.out.size)⟩
    ·have HSX:=hid (show outI (sl.take (k+1)) 0=outI (sl.take k) 0++ [((k:Int),zbo s-1)] by rw[HSN.out,Nat.zero_add,zqj HOK.out HW.out h3]);have HCL:=hid (show zbw s=false by rw[zjd HOK.out,HW.out,Bool.true_and];exact beq_false_of_ne h3);obtain⟨v,hv⟩:∃z,zbo s=z:=⟨_,rfl⟩
     rw[hv] at ca hbd h3 HSX;clear hv
     go_wp2_with (at_builtin;refine zcH rfl _ _ 133 rfl 137 _ 2 16 underlying133 zjm rfl (by decide) (by decide) HA.out lr rfl _ rfl (zcL ((k:Int),v-1)) rfl rfl (zir _) (by omega) ?_;intro A3 d3 w9 hacc2;have HA9:=hid hacc2;clear hacc2)
     go_roundw
     case rel=>exact⟨k+1,A3,q1+1,d3,by omega,by omega,by go_num,rfl,by omega,HT.out.step HS.out (by rw[HCL.out];rfl),by rw[HSX.out,<-zga];exact HA9.out⟩
     case measure=>simp[RowKit.intOf];omega
  ·obtain rfl:N=k:=by omega
   have HE:=hid (show sl.take N=sl by rw[<-HL.out,List.take_length])
   have HAN:=hid (show sl.any zbw=false by
    have:=HT.out.done HL.out;rw[<-Bool.not_eq_true,List.any_eq_true];rintro ⟨s,hs,hc⟩;have:=List.all_eq_true.1 this s hs;rw[hc] at this
    cases this)
   go_wp2;go_ret2;refine⟨A1,q1,d1,by rw[<-HBAD.out,HAN.out];rfl,?_,HB1.out.trans (HBr.out.mono HB1.out.size)⟩;rw[<-HRR.out,if_neg (by rw[HAN.out];decide),<-HE.out];exact HA.out.sl HB1.out.size HB1.out.size
theorem zoy (D:Int) (A:Option Addr) (n c B:Nat) (l:List Tl) (w:World) (h:zad w B 2 A n (tls l)) (hB:B <= w.heap.size) (hn:n <= 1048576) :
  Calls prog 242 #[.int .i64 D,.slice A n c] w fun e w'=>∃A' q' d',e= .returned (.tuple #[.slice A' q' d',.int .i64 (za5 D l).2])/\Sl w' w.heap.size w'.heap.size 137 2 A' q' d' (tls (za5 D l).1)/\Below w.heap.size w w':=by
 have HR:=hid h;have HT:=hid (zmv D A n c l B w h hn);clear h;rcases e1:okTr D l with _|_
 ·have HO:=hid (show za5 D l=([],1) by unfold za5;rw[if_pos e1]);rw[e1] at HT;clear e1;go_enter func242,ntmps242
  go_wp2_with fail
  refine HT.out.mono ?_;rintro e w1 ⟨rfl,rfl⟩;go_wp2;go_ret2;exact⟨none,0,0,by rw[HO.out];rfl,by rw[HO.out];exact Sl.nil _ _ _ _ _,Below.refl _ _⟩
 have hD:1<=D/\D<=4:=by
  have e2:=e1;unfold okTr at e2;rw[Bool.and_eq_true] at e2;exact zam.1 e2.1
 obtain⟨d,hd⟩:=Int.eq_ofNat_of_zero_le (show 0<=D by omega);subst hd;have HS1:=hid (show za5 (d:Int) l=if (zaO d l).any zbw=true then ([],9) else (outI (zaO d l) 0,0) by unfold za5;rw[if_neg (by rw[e1];decide),Int.toNat_natCast]);have HF:=hid (zmu d A n c B l w HR.out hB e1);rw[e1] at HT;clear e1 hD;obtain⟨sl,hsl⟩:∃z,zaO d l=z:=⟨_,rfl⟩
 rw[hsl] at HS1 HF;clear hsl;rcases e2:sl.any zbw with _|_
 ·have HO:=hid (show za5 (d:Int) l=(outI sl 0,0) by rw[HS1.out,if_neg (by rw[e2];decide)]);have HF2:=hid (show Calls prog 287 #[.int .i64 (d:Int),.slice A n c] w fun e w'=>∃A' q' d',e= .returned (.tuple #[.slice A' q' d',.bool true])/\Sl w' w.heap.size w'.heap.size 137 2 A' q' d' (tls (outI sl 0))/\Below w.heap.size w w' by have:=HF.out;rw[e2] at this;exact this);clear e2 HF;go_enter func242,ntmps242
  go_wp2_with fail
  refine HT.out.mono ?_;rintro e w1 ⟨rfl,hw⟩;rw[hw];clear hw w1
  go_wp2_with fail
  refine HF2.out.mono ?_;rintro e w1 ⟨A',q',d',rfl,s1,b1⟩;have HS:=hid s1;have HB:=hid b1;clear s1 b1;go_wp2;go_ret2;exact⟨A',q',d',by rw[HO.out];rfl,by rw[HO.out];exact HS.out,HB.out⟩
 ·have HO:=hid (show za5 (d:Int) l=([],9) by rw[HS1.out,if_pos e2]);have HF2:=hid (show Calls prog 287 #[.int .i64 (d:Int),.slice A n c] w fun e w'=>∃A' q' d',e= .returned (.tuple #[.slice A' q' d',.bool false])/\Sl w' w.heap.size w'.heap.size 137 2 A' q' d' (tls [])/\Below w.heap.size w w' by have:=HF.out;rw[e2] at this;exact this);clear e2 HF;go_enter func242,ntmps242
  go_wp2_with fail
  refine HT.out.mono ?_;rintro e w1 ⟨rfl,hw⟩;rw[hw];clear hw w1
  go_wp2_with fail
  refine HF2.out.mono ?_;rintro e w1 ⟨A',q',d',rfl,s1,b1⟩;have HB:=hid b1;clear s1 b1;go_wp2;go_ret2;exact⟨none,0,0,by rw[HO.out];rfl,by rw[HO.out];exact Sl.nil _ _ _ _ _,HB.out⟩
theorem zm2 (D:Int) (A:Option Addr) (n c B:Nat) (l:List Tl) (w:World) (h:zad w B 2 A n (tls l)) (hB:B <= w.heap.size) (hn:n <= 1048576) :
  Calls prog 184 #[.int .i64 D,.slice A n c] w fun e w'=>∃A' q' d',e= .returned (.tuple #[.slice A' q' d',.int .i64 (za5 D l).2])/\Sl w' w.heap.size w'.heap.size 137 2 A' q' d' (tls (za5 D l).1)/\Below w.heap.size w w':=by
 have HC:=hid (zoy D A n c B l w h hB hn);clear h;go_enter func184,ntmps184
 go_wp2_with fail
 refine HC.out.mono ?_;rintro e w1 ⟨A',q',d',rfl,s1,b1⟩;have HS:=hid s1;have HB:=hid b1;clear s1 b1;go_wp2;go_ret2;exact⟨A',q',d',rfl,HS.out,HB.out⟩
def zd6(A:Option Addr):Prop:=∀ad,A=some ad->ad.spot=none
theorem zaR (A:Option Addr) (n c B:Nat) (l:List Int) (w:World) (hA:zd6 A) (h:zad w B 1 A n (ints l)) (hn:n <= 1048576) :
  Calls prog 75 #[.slice A n c] w fun e w'=>∃A' d',e= .returned (.slice A' n d')/\Sl w' w.heap.size w'.heap.size 2 1 A' n d' (ints l)/\Below w.heap.size w w':=by
 cases A with
 |none=>
  have h0:n=0:=by
   by_cases h1:0<n
   ·obtain⟨ad,e,_⟩:=h.2 h1;cases e
   ·omega
  subst h0;have HL:=hid (show ints l=[] from List.eq_nil_of_length_eq_zero (by have:=h.1;omega));clear h;have hq:=fun w=>Lib.run_eql_slice_nil (P:=prog) w 29 _ none 0 c 0 0 underlying29;simp only[Option.isNone_none] at hq;go_enter func75,ntmps75;go_wp2;go_ret;exact⟨none,0,rfl,by rw[HL.out];exact Sl.nil _ _ _ _ _,Below.refl _ _⟩
 |some ad=>
  obtain⟨b,off,sp⟩:=ad;obtain rfl:sp=none:=hA _ rfl
  have HC:=hid (show∀j u,(ints l)[j]?=some u->w.cell? ⟨b,off+j,none⟩=some u by
   by_cases h1:0<n
   ·obtain⟨b',off',e,_,hc⟩:=h.at_ h1;injection e with e;injection e with e1 e2;subst e1;subst e2;exact hc
   ·intro j u hu;have:=(List.getElem?_eq_some_iff.1 hu).1;rw[h.1] at this;omega)
  have HL:=hid h.1;have acc0:=Acc.made w 2 1;have HA:=hid acc0;clear h acc0;have hBm:=(Below.refl w.heap.size w).alloc lr (.cells #[] 2);have HBM:=hid hBm;clear hBm;have hq:=fun w=>Lib.run_eql_slice_nil (P:=prog) w 29 _ (some ⟨b,off,none⟩) n c 0 0 underlying29;simp only[Option.isNone_some] at hq;go_enter func75,ntmps75
  go_wp2_with (at_builtin;refine zbI rfl _ _ 29 rfl 2 _ 1 8 underlying29 zaX rfl (by decide) (by decide) HA.out lr rfl b off n c (ints l) rfl HL.out (fun j u hu=>zaa HBM.out (HC.out j u hu)) (fun u hu=>by simp[ints] at hu;obtain⟨z,_,rfl⟩:=hu;rfl) (by omega) ?_;intro A3 d3 w9 hacc2;have HA9:=hid hacc2;clear hacc2)
  go_ret;have h9:=HA9.out;rw[Nat.zero_add,List.nil_append] at h9;exact⟨A3,d3,by rfl,h9.sl lr lr,h9.below lr lr⟩
theorem zbO (A:Option Addr) (n c B:Nat) (l:List Tb) (w:World) (hA:zd6 A) (h:zad w B 3 A n (tbs l)) (hn:n <= 1048576) :
  Calls prog 74 #[.slice A n c] w fun e w'=>∃A' d',e= .returned (.slice A' n d')/\Sl w' w.heap.size w'.heap.size 101 3 A' n d' (tbs l)/\Below w.heap.size w w':=by
 cases A with
 |none=>
  have h0:n=0:=by
   by_cases h1:0<n
   ·obtain⟨ad,e,_⟩:=h.2 h1;cases e
   ·omega
  subst h0;have HL:=hid (show tbs l=[] from List.eq_nil_of_length_eq_zero (by have:=h.1;omega));clear h;have hq:=fun w=>Lib.run_eql_slice_nil (P:=prog) w 26 _ none 0 c 0 0 underlying26;simp only[Option.isNone_none] at hq;go_enter func74,ntmps74;go_wp2;go_ret;exact⟨none,0,rfl,by rw[HL.out];exact Sl.nil _ _ _ _ _,Below.refl _ _⟩
 |some ad=>
  obtain⟨b,off,sp⟩:=ad;obtain rfl:sp=none:=hA _ rfl
  have HC:=hid (show∀j u,(tbs l)[j]?=some u->w.cell? ⟨b,off+j,none⟩=some u by
   by_cases h1:0<n
   ·obtain⟨b',off',e,_,hc⟩:=h.at_ h1;injection e with e;injection e with e1 e2;subst e1;subst e2;exact hc
   ·intro j u hu;have:=(List.getElem?_eq_some_iff.1 hu).1;rw[h.1] at this;omega)
  have HL:=hid h.1;have acc0:=Acc.made w 101 3;have HA:=hid acc0;clear h acc0;have hBm:=(Below.refl w.heap.size w).alloc lr (.cells #[] 101);have HBM:=hid hBm;clear hBm;have hq:=fun w=>Lib.run_eql_slice_nil (P:=prog) w 26 _ (some ⟨b,off,none⟩) n c 0 0 underlying26;simp only[Option.isNone_some] at hq;go_enter func74,ntmps74
  go_wp2_with (at_builtin;refine zbI rfl _ _ 26 rfl 101 _ 3 24 underlying26 zcf rfl (by decide) (by decide) HA.out lr rfl b off n c (tbs l) rfl HL.out (fun j u hu=>zaa HBM.out (HC.out j u hu)) (fun u hu=>by simp only[tbs,List.mem_flatMap] at hu;obtain⟨t,_,hu⟩:=hu;exact zcO t u hu) (by omega) ?_;intro A3 d3 w9 hacc2;have HA9:=hid hacc2;clear hacc2)
  go_ret;have h9:=HA9.out;rw[Nat.zero_add,List.nil_append] at h9;exact⟨A3,d3,by rfl,h9.sl lr lr,h9.below lr lr⟩
theorem zad.cells{w:World}{B size n b off:Nat}{xs:List Value}(h:zad w B size (some ⟨b,off,none⟩) n xs):∀j u,xs[j]?=some u->w.cell? ⟨b,off+j,none⟩=some u:=by
 by_cases h1:0<n
 ·obtain⟨b',off',e,_,hc⟩:=h.at_ h1;injection e with e;injection e with e1 e2;subst e1;subst e2;exact hc
 ·intro j u hu;have h2:=(List.getElem?_eq_some_iff.1 hu).1;have h3:=h.1;obtain rfl:n=0:=by omega
  omega
theorem zop (n:Nat) (w:World) (h0:0 < n) (hn:n <= 1048576) :
  Calls prog 149 #[.slice none 0 0,.int .i64 (n:Int)] w fun e w'=>∃A c,e= .returned (.slice A 0 c)/\Acc w.heap.size w.heap.size 2 1 w w' A 0 c []:=by
 obtain⟨i,hi,hz,hsize,hby⟩:=info_parts zaX;have hg:=Any8.slices_Grow_grow Tryz.growI i (.int .i64 0) hi hz (by omega) none 0 0 n [] w (by omega) (by omega) (by rw[hby];omega) (by omega) (by simp) (fun _=>rfl) (fun a ha=>by cases ha);refine hg.mono ?_;rintro e w' ⟨rfl,rfl⟩;have hge:=grownCap_ge w n 0 (Tryz.growI_ren.t 25);have hle:=grownCap_le_maxLen w (0+n) 0 2 (by unfold maxLen;omega);refine⟨_,_,rfl,⟨⟨rfl,.inr ⟨w.heap.size,_,_,rfl,Nat.zero_le _,heap_alloc_new _ _,Nat.zero_le _,hle,?_,by simp⟩⟩,fun a ha=>by injection ha with ha;subst ha;exact .inl rfl,rfl,rfl,rfl,by simp,fun k hk _=>?_⟩⟩
 ·rw[Array.size_append,Array.size_append,size_zeroCells,size_zeroCells];simp[Value.cells];omega
 ·exact Below.heap_alloc _ _ _ hk
theorem zof (g b1 o1 n1 c1 b2 o2 n2 c2 B:Nat) (l1 l2:List Int) (w:World) (hy:Blk w g 29 #[.slice (some ⟨b1,o1,none⟩) n1 c1,.slice (some ⟨b2,o2,none⟩) n2 c2]) (h1:zad w B 1 (some ⟨b1,o1,none⟩) n1 (ints l1)) (h2:zad w B 1 (some ⟨b2,o2,none⟩) n2 (ints l2)) (hB:B <= w.heap.size) (hn1:n1 <= 1000) (hn2:n2 <= 1000) (h0:0 < n1) :
  Calls prog 85 #[.slice (some ⟨g,0,none⟩) 2 2] w fun e w'=>∃A c,e= .returned (.slice A (n1+n2) c)/\Sl w' w.heap.size w'.heap.size 2 1 A (n1+n2) c (ints (l1++l2))/\Below w.heap.size w w':=by
 have k0:=hy.cellAt 0 (by simp);have k1:=hy.cellAt 1 (by simp);simp only[ly] at k0 k1;have HY:=hid hy;have H1:=hid h1;have H2:=hid h2;have HI:=hid (show ints (l1++l2)=ints l1++ints l2 by simp[ints]);clear hy h1 h2;go_enter func85,ntmps85
 go_wp2_with fail
 go_loopw [3,11] (fun s i wr=>wr=w/\∃k:Nat,k<=2/\i= .int .i64 (k:Int)/\s= .int .i64 (if k=0 then 0 else if k=1 then (n1:Int) else ((n1+n2:Nat):Int))) (fun _ i _=>2-(RowKit.intOf i).toNat)
 case atStart=>exact⟨rfl,0,by omega,rfl,rfl⟩
 case round=>
  rename World=>wr
  obtain⟨hw,k,hk,rfl,rfl⟩:=hrel;subst hw;have:k=0\/k=1\/k=2:=by omega
  rcases this with rfl|rfl|rfl
  ·go_wp2
   go_roundw
   case rel=>exact⟨trivial,1,by omega,rfl,by simp⟩
   case measure=>simp[RowKit.intOf]
  ·have e1:IntKind.i64.wrap ((n1:Int)+n2)=(n1:Int)+n2:=by unfold IntKind.wrap;simp[IntKind.bits,IntKind.signed];omega
   go_wp2
   go_roundw
   case rel=>exact⟨trivial,2,by omega,rfl,by simp⟩
   case measure=>simp[RowKit.intOf]
  ·clear k0 k1
   go_wp2_with fail
   refine(zop (n1+n2) wr (by omega) (by omega)).mono ?_;rintro e w1 ⟨A,c,rfl,acc0⟩;have HA:=hid acc0;have hb:=acc0.below (B:=wr.heap.size) lr lr;clear acc0 hb
   go_wp2_with fail
   go_loopw [6,27] (fun o i wx=>∃(k:Nat) (A':Option Addr) (q d':Nat),k<=2/\i= .int .i64 (k:Int)/\o= .slice A' q d'/\q=(if k=0 then 0 else if k=1 then n1 else n1+n2)/\Acc wr.heap.size wr.heap.size 2 1 wr wx A' q d' (if k=0 then [] else if k=1 then ints l1 else ints l1++ints l2)) (fun _ i _=>2-(RowKit.intOf i).toNat)
   case atStart=>exact⟨0,_,_,_,by omega,rfl,rfl,rfl,HA.out⟩
   case round=>
    rename World=>wx
    obtain⟨k,A',q,d',hk,rfl,rfl,hq,hacc⟩:=hrel;have hn12:n1+n2<=2000:=by omega
    have HX:=hid hacc;have hb:=hacc.below (B:=wr.heap.size) lr lr;have HBx:=hid hb;have c0:=(HY.out.on hb).cellAt 0 (by simp);have c1:=(HY.out.on hb).cellAt 1 (by simp);simp only[ly] at c0 c1;clear hacc hb;have:k=0\/k=1\/k=2:=by omega
    rcases this with rfl|rfl|rfl
    ·simp only[if_true] at hq HX;subst hq;have HC:=hid (H1.out.on hB HBx.out).cells
     go_wp2_with (at_builtin;refine zbI rfl _ _ 29 rfl 2 _ 1 8 underlying29 zaX rfl (by decide) (by decide) HX.out lr rfl b1 o1 n1 _ (ints l1) rfl H1.out.1 HC.out (fun u hu=>by simp[ints] at hu;obtain⟨z,_,rfl⟩:=hu;rfl) (by omega) ?_;intro A3 d3 w9 hacc2;have HA9:=hid hacc2;clear hacc2)
     go_roundw
     case rel=>exact⟨1,A3,_,d3,by omega,rfl,rfl,by simp,by simpa using HA9.out⟩
     case measure=>simp[RowKit.intOf]
    ·have HX1:=hid (show Acc wr.heap.size wr.heap.size 2 1 wr wx A' n1 d' (ints l1) by have h:=HX.out;have e:=hq;simp only[Nat.one_ne_zero,if_false,if_true] at h e;subst e;exact h);obtain rfl:q=n1:=by simpa using hq
     clear HX hq;have HC:=hid (H2.out.on hB HBx.out).cells
     go_wp2_with (at_builtin;refine zbI rfl _ _ 29 rfl 2 _ 1 8 underlying29 zaX rfl (by decide) (by decide) HX1.out lr rfl b2 o2 n2 _ (ints l2) rfl H2.out.1 HC.out (fun u hu=>by simp[ints] at hu;obtain⟨z,_,rfl⟩:=hu;rfl) (by omega) ?_;intro A3 d3 w9 hacc2;have HA9:=hid hacc2;clear hacc2)
     go_roundw
     case rel=>exact⟨2,A3,_,d3,by omega,rfl,rfl,by simp,by simpa using HA9.out⟩
     case measure=>simp[RowKit.intOf]
    ·have HX1:=hid (show Acc wr.heap.size wr.heap.size 2 1 wr wx A' (n1+n2) d' (ints l1++ints l2) by have h:=HX.out;have e:=hq;simp at h e;subst e;exact h);obtain rfl:q=n1+n2:=by simpa using hq
     clear HX hq c0 c1;go_wp2;go_ret;exact⟨A',d',rfl,by rw[HI.out];exact HX1.out.sl lr lr,HX1.out.below lr lr⟩
theorem zrE (x:En) (w:World) (hd:i64b x.day) (hv:i64b x.val) (ht:TabP w) (hz:x.what.size <= 1048576) :
  Calls prog 95 #[.agg #[.int .i64 x.day,.string x.what,.int .i64 x.val]] w fun e w'=>e= .returned (.string (zab (itoa x.day)++⟨#[32]⟩++x.what++⟨#[32]⟩++zab (itoa x.val)))/\Below w.heap.size w w':=by
 obtain⟨W,hW,y0,hb⟩:∃W,W=w.alloc (.cells #[.int .i64 x.day,.string x.what,.int .i64 x.val] 145)/\Blk W w.heap.size 145 #[.int .i64 x.day,.string x.what,.int .i64 x.val]/\Below w.heap.size w W:=⟨_,rfl,Blk.new _ _ _,bal _⟩
 have HW:=hid hW;have HB:=hid hb;have HT:=hid (zaw ht hb);have p0:=y0.cellAt 0 (by simp);have p1:=y0.cellAt 1 (by simp);have p2:=y0.cellAt 2 (by simp);simp only[ly] at p0 p1 p2;have hs1:(zab (itoa x.day)).size<=20:=by rw[zaj];exact zaz hd.1 hd.2
 have hs3:(zab (itoa x.val)).size<=20:=by rw[zaj];exact zaz hv.1 hv.2
 have n1:¬(9223372036854775807<(zab (itoa x.day)).size+1):=by omega
 have n2:¬(9223372036854775807<(zab (itoa x.day)).size+1+x.what.size):=by omega
 have n3:¬(9223372036854775807<(zab (itoa x.day)).size+1+x.what.size+1):=by omega
 have n4:¬(9223372036854775807<(zab (itoa x.day)).size+1+x.what.size+1+(zab (itoa x.val)).size):=by omega
 clear hW hb y0 ht;go_enter func95,ntmps95
 go_upto_region 1 with fail
 rw[<-HW.out];refine ez (fun V=>Below W.heap.size W V) ?_ fun hHeld=>?_
 ·exact(Below.refl _ _).drew
 refine dq 0 rfl (h:=dq 1 rfl (hy:=by intro w hSw;(try dsimp only at hSw);(have e0:=zaa hSw p0);go_simp;try with_reducible rfl) (h:=dq 4 rfl (h:=dq 5 rfl (hy:=by intro w hSw;(try dsimp only at hSw);(have e1:=zaa hSw p1);go_simp;try with_reducible rfl) (h:=dq 8 rfl (h:=dq 9 rfl (hy:=by intro w hSw;(try dsimp only at hSw);(have e2:=zaa hSw p2);go_simp;try with_reducible rfl) (h:=?_))))));refine rd 2 rfl fun K hK=>?_;go_simp;refine(zaL x.day _ hd.1 hd.2 (zaw HT.out hHeld)).mono ?_;rintro e v5 ⟨rfl,b5⟩
 go_wp2_with fail
 refine ke hK ?_ ?_
 ·exact zac hHeld b5 lr
 clear hK K hHeld;intro hHeld;refine dq 3 rfl (h:=dq 6 rfl (h:=dq 7 rfl (h:=?_)));refine rd 10 rfl fun K hK=>?_;go_simp;refine(zaL x.val _ hv.1 hv.2 (zaw HT.out hHeld)).mono ?_;rintro e v6 ⟨rfl,b6⟩
 go_wp2_with fail
 refine ke hK ?_ ?_
 ·exact zac hHeld b6 lr
 clear hK K hHeld;intro hHeld;refine dq 11 rfl (h:=dq 12 rfl (h:=?_));refine dn ?_;have HF:=hid hHeld;clear hHeld;go_wp2;go_ret;exact⟨rfl,zac HB.out HF.out lr⟩
theorem zkp (A:Option Addr) (n c lo:Nat) (xs:List ByteArray) (w:World) (h:Sl w lo w.heap.size 9 1 A n c (strs xs)) (hlo:lo <= w.heap.size) (hn:n <= 1048576) (ht:TabP w) :
  Calls prog 86 #[.slice A n c] w fun e w'=>∃A' c',e= .returned (.slice A' (n+1) c')/\Sl w' lo w'.heap.size 9 1 A' (n+1) c' (strs (xs++ [⟨#[111,107,32]⟩++zab (itoa (n:Int))]))/\Below lo w w'/\Off (inB A) w w':=by
 have HS:=hid h;have HT:=hid ht;clear h ht;have hs1:(zab (itoa (n:Int))).size<=20:=by rw[zaj];exact zaz (by omega) (by omega)
 have n1:¬(9223372036854775807<3+(zab (itoa (n:Int))).size):=by omega
 go_enter func86,ntmps86
 go_wp2_with fail
 refine(zaL n w (by omega) (by omega) HT.out).mono ?_;rintro e w1 ⟨rfl,b1⟩;have HB1:=hid b1;have HS1:=hid (HS.out.on b1).low;have hlo1:lo<=w1.heap.size:=Nat.le_trans hlo b1.size;clear b1
 go_wp2_with (at_builtin;refine zat rfl _ _ 24 rfl 9 _ 1 16 underlying24 zbu rfl (by decide) (by decide) HS1.out hlo1 rfl [.string ((⟨#[111,107,32]⟩:ByteArray)++zab (itoa (n:Int)))] w1.heap.size rfl rfl rfl (fun u hu=>by simp at hu;subst hu;rfl) (by omega) ?_;intro A2 d2 w9 hs9 b9 z9 f9 k9;have HS9:=hid hs9;have HB9:=hid b9;have HF9:=hid f9;clear hs9 b9 z9 f9 k9)
 go_ret;exact⟨A2,d2,rfl,by rw[zhf];exact HS9.out,(HB1.out.mono hlo).trans HB9.out,(Off.of_below HB1.out _).trans (zb5 HB9.out HF9.out)⟩
def hitP(f t:Int)(p:Pr):Bool:=decide (f<t)&&(decide (p.e<t)&&decide (f<p.l))
theorem zhE{f t:Int}{p:Pr}:hitP f t p=true↔f<t/\p.e<t/\f<p.l:=by simp[hitP]
theorem zte{ts:List Int}{rs:List Rn}{tube f t:Int}{L:List Pr}(hok:zap ts rs=true)(h:zed L (zef ts rs tube)):L.any (hitP f t)=(zef ts rs tube).any (fun s=>decide (max s.enter f<min s.leave t)):=by
 rw[Bool.eq_iff_iff,List.any_eq_true,List.any_eq_true];constructor
 ·rintro ⟨p,hp,hh⟩;obtain⟨s,hs,e1,e2⟩:=(h p.e p.l).1 ⟨p,hp,rfl,rfl⟩;have hb:=zj1 hok (List.mem_filter.1 hs).1;have hh:=zhE.1 hh;exact⟨s,hs,decide_eq_true (by omega)⟩
 ·rintro ⟨s,hs,hh⟩;obtain⟨p,hp,e1,e2⟩:=(h s.enter s.leave).2 ⟨s,hs,rfl,rfl⟩;have hh:=of_decide_eq_true hh;exact⟨p,hp,zhE.2 (by omega)⟩
theorem znM (Q:Option Addr) (m d:Nat) (ts:List Int) (RA:Option Addr) (rn rc:Nat) (rs:List Rn) (B:Nat) (tube f t:Int) (w:World) (ht:zad w B 1 Q m (ints ts)) (hr:zaC w B RA rn rs) (hB:B <= w.heap.size) (hm:m <= 1048576) (hrn:rn <= 1048576) (hsm:zbM rs) :
  Calls prog 175 #[.slice Q m d,.slice RA rn rc,.int .i64 tube,.int .i64 f,.int .i64 t] w fun e w'=>e= .returned (.tuple #[.bool (zbA ts rs tube f t).1,.int .i64 (zbA ts rs tube f t).2])/\Below w.heap.size w w':=by
 have HTC:=hid (zov Q m d ts RA rn rc rs B tube w ht hr hm hrn hsm);have HRT:=hid ht;have HRR:=hid hr;clear ht hr hsm;by_cases hc:zbC ts rs tube=0;rotate_left
 ·have HO:=hid (zoS (f:=f) (t:=t) hc);obtain⟨v,hv⟩:∃z,zbC ts rs tube=z:=⟨_,rfl⟩
  rw[hv] at HTC hc HO;have d1:(v==0)=false:=by simpa using hc
  have d2:(v !=0)=true:=by simpa using hc
  clear hv hc;go_enter func175,ntmps175
  go_wp2_with fail
  refine HTC.out.mono ?_;rintro e w1 ⟨rfl,hw⟩;rw[hw];clear hw w1;go_wp2;go_ret2;exact⟨by rw[HO.out];rfl,Below.refl _ _⟩
 rw[hc] at HTC;have HC:=hid hc;clear hc;rcases e3:inR f 0 100000 with _|_
 ·have HO:=hid (zi0 (f:=f) (t:=t) HC.out (by rw[e3];rfl));go_enter func175,ntmps175
  go_wp2_with fail
  refine HTC.out.mono ?_;rintro e w1 ⟨rfl,hw⟩;rw[hw];clear hw w1
  go_wp2_with fail
  refine(zdl _ _).mono ?_;rintro e w2 ⟨rfl,rfl⟩;rw[e3];clear e3;go_wp2;go_ret2;exact⟨by rw[HO.out];rfl,Below.refl _ _⟩
 have H3:=hid e3;clear e3;rcases e4:inR t f 200000 with _|_
 ·have HO:=hid (zi0 (f:=f) (t:=t) HC.out (by rw[H3.out,e4];rfl));go_enter func175,ntmps175
  go_wp2_with fail
  refine HTC.out.mono ?_;rintro e w1 ⟨rfl,hw⟩;rw[hw];clear hw w1
  go_wp2_with fail
  refine(zdl _ _).mono ?_;rintro e w2 ⟨rfl,rfl⟩;rw[H3.out]
  go_wp2_with fail
  refine(za2 _ _ _ _).mono ?_;rintro e w3 ⟨rfl,rfl⟩;rw[e4];clear e4;go_wp2;go_ret2;exact⟨by rw[HO.out];rfl,Below.refl _ _⟩
 have HO:=hid (zoT (f:=f) (t:=t) HC.out (by rw[H3.out,e4];rfl));have H4:=hid e4;clear e4;go_enter func175,ntmps175
 go_wp2_with fail
 refine HTC.out.mono ?_;rintro e w1 ⟨rfl,hw⟩;rw[hw];clear hw w1
 go_wp2_with fail
 refine(zdl _ _).mono ?_;rintro e w2 ⟨rfl,rfl⟩;rw[H3.out]
 go_wp2_with fail
 refine(za2 _ _ _ _).mono ?_;rintro e w3 ⟨rfl,rfl⟩;rw[H4.out]
 go_wp2_with fail
 refine(zqS Q m d ts RA rn rc rs B tube w HRT.out HRR.out hB (zfV HC.out).1).mono ?_;rintro e w5 ⟨g5,q5,d5,L,rfl,p5,s5,hq5,b5⟩;have HP:=hid p5;have HL:=hid p5.len;have HAN:=hid (zte (f:=f) (t:=t) (zfV HC.out).1 s5);have HB5:=hid b5;clear p5 s5 b5
 go_wp2_with fail
 go_loopw [14] (fun i wr=>∃k:Nat,k<=q5/\i= .int .i64 (k:Int)/\za0 (fun p=>!hitP f t p) L k/\Below w5.heap.size w5 wr) (fun i _=>q5-(RowKit.intOf i).toNat)
 case atStart=>exact⟨0,Nat.zero_le _,rfl,za0.zero _ _,Below.refl _ _⟩
 case round=>
  obtain⟨k,hk,rfl,hall,hbel⟩:=hrel;have HA:=hid hall;have HBr:=hid hbel;clear hall hbel;have hk0:(0:Int)<=k:=by omega
  by_cases hlt:k<q5
  ·have hkn:(k:Int)<q5:=by omega
   obtain⟨p,he,k0,k1,k2⟩:=zsI (HP.out.on HBr.out) hlt;have HE:=hid he;have HM:=hid (zhE (f:=f) (t:=t) (p:=p));have HNX:=hid (fun hf:hitP f t p=false=>HA.out.step HE.out (show(!hitP f t p)=true by rw[hf];rfl));obtain⟨pg,pe,pl⟩:=p;simp only at k0 k1 k2;clear he;by_cases m1:f<t;rotate_left
   ·have HF:=hid (show hitP f t ⟨pg,pe,pl⟩=false by rw[<-Bool.not_eq_true];intro hc;exact m1 (HM.out.1 hc).1);have d1:decide (f<t)=false:=decide_eq_false m1;clear m1;go_wp2
    go_roundw
    case rel=>exact⟨k+1,by omega,by go_num,HNX.out HF.out,HBr.out⟩
    case measure=>simp[RowKit.intOf];omega
   have d1:decide (f<t)=true:=decide_eq_true m1;by_cases m2:pe<t;rotate_left
   ·have HF:=hid (show hitP f t ⟨pg,pe,pl⟩=false by rw[<-Bool.not_eq_true];intro hc;exact m2 (HM.out.1 hc).2.1);have d2:decide (pe<t)=false:=decide_eq_false m2;clear m1 m2;go_wp2
    go_roundw
    case rel=>exact⟨k+1,by omega,by go_num,HNX.out HF.out,HBr.out⟩
    case measure=>simp[RowKit.intOf];omega
   have d2:decide (pe<t)=true:=decide_eq_true m2;by_cases m3:f<pl;rotate_left
   ·have HF:=hid (show hitP f t ⟨pg,pe,pl⟩=false by rw[<-Bool.not_eq_true];intro hc;exact m3 (HM.out.1 hc).2.2);have d3:decide (f<pl)=false:=decide_eq_false m3;clear m1 m2 m3;go_wp2
    go_roundw
    case rel=>exact⟨k+1,by omega,by go_num,HNX.out HF.out,HBr.out⟩
    case measure=>simp[RowKit.intOf];omega
   have d3:decide (f<pl)=true:=decide_eq_true m3
   have HP2:=hid (show zbA ts rs tube f t=(false,0) by
    rw[HO.out,<-HAN.out,List.any_eq_true.2 ⟨_,List.mem_of_getElem? HE.out,HM.out.2 ⟨m1,m2,m3⟩⟩];rfl)
   clear m1 m2 m3;go_wp2;go_ret2;exact⟨by rw[HP2.out];rfl,zac HB5.out HBr.out lr⟩
  ·obtain rfl:k=q5:=by omega
   have HP2:=hid (show zbA ts rs tube f t=(true,0) by
    rw[HO.out,<-HAN.out,zfp (HA.out.done HL.out)];rfl)
   go_wp2;go_ret2;exact⟨by rw[HP2.out];rfl,zac HB5.out HBr.out lr⟩
theorem zeJ:(prog.info? 123).map (fun i=>(i.zero,i.size,i.bytes))=some (some (.agg #[.slice none 0 0,.int .i64 0]),2,32):=by kernel_rfl
theorem zfE(A:Option Addr)(m c:Nat)(v:Int):∀u∈[Value.slice A m c,.int .i64 v],u.oneCell'=true:=by
 intro u hu;simp at hu;rcases hu with rfl|rfl<;>rfl
theorem zn7(l:List RnH)(x:RnH):rns l++ [.slice x.A x.m x.c,.int .i64 x.st]=rns (l++ [x]):=by simp[rns,zd7]
theorem OwnR.snoc {w5 w7:World} {lo z:Nat} {A A5 A7:Option Addr} {n c m d5 d7:Nat} {rs:List Rn} {rh:List RnH} {r:Rn}
  (h:OwnR w5 lo z A n c rs rh) (hz:z<=w5.heap.size) (hlz:lo<=z) (s5:Sl w5 z w5.heap.size 2 1 A5 m d5 (ints r.way)) (hm:m<=9223372036854775807)
  (s7:Sl w7 lo w7.heap.size 123 2 A7 (n+1) d7 (rns rh++ [.slice A5 m d5,.int .i64 r.st])) (b7:Below lo w5 w7)
  (f7:∀g,g<w5.heap.size->(∀ad,A=some ad->ad.block≠g)->w7.heap[g]?=w5.heap[g]?)
  (k7:∀g,g<w5.heap.size->(∀ad,A=some ad->ad.block≠g)->∀ad,A7=some ad->ad.block≠g):
  OwnR w7 lo w7.heap.size A7 (n+1) d7 (rs++ [r]) (rh++ [⟨A5,m,d5,r.st⟩]):=by
 have ho:=zb5 b7 f7
 have hA5:∀b,inB A5 b->¬inB A b:=fun b hb hb'=>by
  have h1:=s5.inB_lt hb;have h2:=h.row.inB_lt hb';omega
 have old:∀(i:Nat) (x:RnH),rh[i]?=some x->∀b,inB x.A b->b<z:=fun i x hx b hb=>(h.inRn_lt (.inr ⟨i,x,hx,hb⟩)).2
 have cases_:∀(i:Nat) (x:RnH),(rh++ [(⟨A5,m,d5,r.st⟩:RnH)])[i]?=some x->rh[i]?=some x\/(i=n/\x=⟨A5,m,d5,r.st⟩):=fun i x hx=>by
  rw[List.getElem?_append] at hx
  split at hx
  ·exact .inl hx
  ·right;rename_i hi;have hl:=h.hlen
   have:i-rh.length=0:=by
    by_cases e:i-rh.length=0
    ·exact e
    ·rw[List.getElem?_eq_none (by simp;omega)] at hx;cases hx
   rw[this] at hx;simp at hx;exact⟨by omega,hx.symm⟩
 refine⟨by rw[<-zn7];exact s7,by rw[List.length_append,h.len];rfl,fun i x q hx hq=>?_,fun i x hx b hb=>?_,fun i j x y hne hx hy b hb=>?_⟩
 ·rcases cases_ i x hx with hx|⟨rfl,rfl⟩
  ·have hi:=(List.getElem?_eq_some_iff.1 hx).1;rw[List.getElem?_append_left (by rw[h.len,<-h.hlen];exact hi)] at hq;have:=h.at_ i x q hx hq;exact⟨this.1,this.2.1,((this.2.2.off ho fun b hb=>h.ne i x hx b hb)).low⟩
  ·rw[List.getElem?_append_right (by rw[h.len];exact Nat.le_refl _),h.len,Nat.sub_self] at hq;simp at hq;subst hq;exact⟨rfl,hm,((s5.off ho hA5).wide hlz lr).low⟩
 ·intro ⟨ad,e,hh⟩;rcases cases_ i x hx with hx|⟨rfl,rfl⟩
  ·obtain⟨q,hq⟩:=h.get hx;exact k7 b ((h.at_ i x q hx hq).2.2.inB_heap hb) (fun ad' e' hh'=>h.ne i x hx b hb ⟨ad',e',hh'⟩) ad e hh
  ·exact k7 b (s5.inB_heap hb) (fun ad' e' hh'=>hA5 b hb ⟨ad',e',hh'⟩) ad e hh
 ·rcases cases_ i x hx with hx|⟨rfl,rfl⟩
  ·rcases cases_ j y hy with hy|⟨rfl,rfl⟩
   ·exact h.ne2 i j x y hne hx hy b hb
   ·intro hb';have h1:=old i x hx b hb;have h2:=s5.inB_lt hb';omega
  ·rcases cases_ j y hy with hy|⟨rfl,rfl⟩
   ·intro hb';have h1:=old j y hy b hb';have h2:=s5.inB_lt hb;omega
   ·exact absurd rfl hne
theorem zmK (A:Option Addr) (n c B:Nat) (rs:List Rn) (w:World) (h:zaC w B A n rs) (hB:B <= w.heap.size) (hn:n <= 1048576) (hw:∀ r ∈ rs,1 <= r.way.length /\ r.way.length <= 1048576) :
  Calls prog 76 #[.slice A n c] w fun e w'=>∃A' c' rh,e= .returned (.slice A' n c')/\OwnR w' w.heap.size w'.heap.size A' n c' rs rh/\Below w.heap.size w w':=by
 have HR:=hid h;have HW:=hid hw;have HL:=hid h.len;have s0:=(Acc.made w 123 2).sl (lo:=w.heap.size) lr lr;have HO0:=hid (show OwnR (w.alloc (.cells #[] 123)) w.heap.size (w.alloc (.cells #[] 123)).heap.size (some ⟨w.heap.size,0,none⟩) 0 0 (rs.take 0) [] from⟨s0,by simp,fun i x r hx=>by simp at hx,fun i x hx=>by simp at hx,fun i j x x' _ hx=>by simp at hx⟩);have HB0:=hid ((Below.refl w.heap.size w).alloc lr (.cells #[] 123));clear h hw s0;go_enter func76,ntmps76
 go_wp2_with fail
 go_loopw [3,9] (fun o i wr=>∃(k:Nat) (A':Option Addr) (d':Nat) (rh:List RnH),k<=n/\i= .int .i64 (k:Int)/\o= .slice A' k d'/\OwnR wr w.heap.size wr.heap.size A' k d' (rs.take k) rh/\Below w.heap.size w wr) (fun _ i _=>n-(RowKit.intOf i).toNat)
 case atStart=>exact⟨0,_,_,_,Nat.zero_le _,rfl,rfl,HO0.out,HB0.out⟩
 case round=>
  obtain⟨k,A',d',rh,hk,rfl,rfl,hown,hbel⟩:=hrel;have HO:=hid hown;have HBr:=hid hbel;clear hown hbel;have hk0:(0:Int)<=k:=by omega
  by_cases hlt:k<n
  ·obtain⟨r,b,off,A2,m2,c2,he,rfl,hb,c0,c1,hrr,hm2x⟩:=zcn (HR.out.on hB HBr.out) hlt;have hwr:=HW.out r (List.mem_of_getElem? he);have hml:=zai hrr;have hm2:m2<=1048576:=by omega
   have HTK:=hid (show rs.take (k+1)=rs.take k++ [r] by rw[List.take_add_one,he];rfl)
   have HPL:=hid (show zd6 A2 by
    obtain⟨b',off',e,_,_⟩:=hrr.at_ (by omega);intro ad had;rw[e] at had;injection had with had;rw[<-had])
   have hkn:(k:Int)<n:=by omega
   obtain⟨way,st⟩:=r;simp only at c1 hrr hml hwr;have HRW:=hid hrr;clear he hrr
   go_upto_region 5 with fail
   obtain⟨u,hu⟩:∃y,wr.alloc (.cells #[.slice A2 m2 c2,.int .i64 st] 123)=y:=⟨_,rfl⟩
   have yu:Blk u wr.heap.size 123 #[.slice A2 m2 c2,.int .i64 st]:=by rw[<-hu];exact Blk.new _ _ _
   have bu:Below wr.heap.size wr u:=by rw[<-hu];exact bal _
   rw[hu];have p0:u.drew.cell? ⟨wr.heap.size,0,none⟩=some (.slice A2 m2 c2):=yu.drew.cellAt 0 (by simp);have p1:u.drew.cell? ⟨wr.heap.size,1,none⟩=some (.int .i64 st):=yu.drew.cellAt 1 (by simp);have HOu:=hid (HO.out.on bu);have HBu:=hid (zac HBr.out bu lr);have HRu:=hid (HRW.out.on (Nat.le_trans hB HBr.out.size) bu);have HLu:=hid yu.lt;have HNA:=hid (show∀ad,A'=some ad->ad.block≠wr.heap.size from fun ad had e=>by have:=(HO.out.row.inB_lt ⟨ad,had,rfl⟩).2;omega);clear hu yu bu c0 c1;refine ez (fun V=>V.cell? ⟨wr.heap.size,0,none⟩=some (.slice A2 m2 c2)/\V.cell? ⟨wr.heap.size,1,none⟩=some (.int .i64 st)) ?_ fun hHeld=>?_
   ·exact⟨p0,p1⟩
   refine dq 0 rfl (h:=dq 1 rfl (h:=dq 2 rfl (h:=dq 4 rfl (h:=dq 5 rfl (h:=?_)))));refine rd 3 rfl fun K hK=>?_;go_simp;refine(zaR A2 m2 c2 B way u.drew HPL.out (HRu.out.keep fun _ _=>rfl) hm2).mono ?_;rintro e w5 ⟨A5,d5,rfl,s5,b5⟩;have b5u:=(show Below u.heap.size u w5 from(Below.refl _ _).drew.trans b5)
   have HS5:=hid s5;have HB5:=hid b5u;have HO5:=hid (HOu.out.on b5u).low;have hz5:w.heap.size<=w5.heap.size:=(HBu.out.trans (b5u.mono HBu.out.size)).size;clear s5 b5 b5u
   go_wp2_with fail
   refine ke hK ?_ ?_
   ·exact⟨zaa HB5.out hHeld.1,zaa HB5.out hHeld.2⟩
   clear hK K hHeld;intro hHeld;refine dq 6 rfl (h:=?_);refine rd 7 rfl fun K hK=>?_;go_simp;refine ke hK ?_ ?_
   ·exact⟨zaa (bal _) hHeld.1,zaa (bal _) hHeld.2⟩
   clear hK K hHeld;intro hHeld;refine rd 8 rfl fun K hK=>?_;refine zbH rfl _ _ 30 rfl 123 _ 2 32 underlying30 zeJ rfl (by decide) (by decide) HO5.out.row hz5 rfl [.slice A5 m2 d5,.int .i64 st] w5.heap.size rfl rfl rfl (zfE A5 m2 d5 st) (by omega) ?_;intro A7 d7 w7 hs7 b7 f7 k7;refine ke hK ?_ ?_
   ·have hg:=f7 wr.heap.size (Nat.lt_of_lt_of_le HLu.out HB5.out.size) HNA.out;exact⟨(World.cell?_of_block hg).trans (zaa HB5.out p0),(World.cell?_of_block hg).trans (zaa HB5.out p1)⟩
   clear hK K hHeld;intro hHeld;refine dq 9 rfl (h:=?_);refine dn ?_;have HOF:=hid (OwnR.snoc (r:=⟨way,st⟩) (HOu.out.on HB5.out) (Nat.le_trans (Nat.le_of_lt HLu.out) HB5.out.size) HBr.out.size (HS5.out.wide (Nat.le_of_lt HLu.out) lr) (by omega) hs7 b7 f7 k7);have HBF:=hid ((HBu.out.trans (HB5.out.mono HBu.out.size)).trans b7);clear hHeld p0 p1 hs7 b7 f7 k7;go_wp2
   go_roundw
   case rel=>exact⟨k+1,A7,d7,_,by omega,by go_num,rfl,by rw[HTK.out];exact HOF.out,HBF.out⟩
   case measure=>simp[RowKit.intOf];omega
  ·obtain rfl:n=k:=by omega
   have HT:=hid (show rs.take n=rs by rw[<-HL.out,List.take_length]);go_wp2;go_ret;exact⟨A',d',rh,rfl,by have h:=HO.out;rw[HT.out] at h;exact h,HBr.out⟩
theorem zkX:(prog.info? 2).map (fun i=>(i.zero,i.size,i.bytes))=some (some (.int .i64 0),1,8):=by kernel_rfl
theorem zqO(l:List Int):∀u∈ints l,u.oneCell'=true:=by
 intro u hu;obtain⟨x,_,rfl⟩:=List.mem_map.1 hu
 rfl
theorem zgX (A:Option Addr) (n c B:Nat) (l:List Int) (w:World) (h:zad w B 1 A n (ints l)) (hB:B <= w.heap.size) (hn:n <= 1048576) :
  Calls prog 117 #[.slice A n c] w fun e w'=>∃A' d',e= .returned (.slice A' n d')/\Sl w' w.heap.size w'.heap.size 2 1 A' n d' (ints l)/\Below w.heap.size w w':=by
 have s0:=(Acc.made w 2 1).sl (lo:=w.heap.size) lr lr;have b0:Below w.heap.size w (w.alloc (.cells #[] 2)):=bal _;have HS0:=hid s0;have HB0:=hid b0;have HR:=hid (h.on hB b0);clear s0 b0 h;go_enter func117,ntmps117
 go_wp2_with (at_builtin;refine zdg rfl _ _ 29 rfl 2 _ 1 8 underlying29 zkX rfl (by decide) (by decide) HS0.out HB0.out.size rfl A n c (ints l) rfl HR.out.1 (fun hn=>HR.out.cellsAt hn) (zqO l) (by omega) ?_;intro A2 d2 w9 hs9 b9 f9 k9;have HS9:=hid hs9;have HB9:=hid b9;clear hs9 b9 f9 k9)
 go_ret;exact⟨A2,d2,rfl,by have h9:=HS9.out;rw[Nat.zero_add,List.nil_append] at h9;exact h9,HB0.out.trans HB9.out⟩
theorem zkc (A:Option Addr) (n c B:Nat) (rs:List Rn) (w:World) (h:zaC w B A n rs) (hB:B <= w.heap.size) (hn:n <= 1048576) (hw:∀ r ∈ rs,r.way.length <= 1048576) :
  Calls prog 118 #[.slice A n c] w fun e w'=>∃A' c' rh,e= .returned (.slice A' n c')/\OwnR w' w.heap.size w'.heap.size A' n c' rs rh/\Below w.heap.size w w':=by
 have HR:=hid h;have HW:=hid hw;have HL:=hid h.len;have s0:=(Acc.made w 123 2).sl (lo:=w.heap.size) lr lr;have HO0:=hid (show OwnR (w.alloc (.cells #[] 123)) w.heap.size (w.alloc (.cells #[] 123)).heap.size (some ⟨w.heap.size,0,none⟩) 0 0 (rs.take 0) [] from⟨s0,by simp,fun i x r hx=>by simp at hx,fun i x hx=>by simp at hx,fun i j x x' _ hx=>by simp at hx⟩);have HB0:=hid ((Below.refl w.heap.size w).alloc lr (.cells #[] 123));clear h hw s0;go_enter func118,ntmps118
 go_wp2_with fail
 go_loopw [3,4] (fun o i wr=>∃(k:Nat) (A':Option Addr) (d':Nat) (rh:List RnH),k<=n/\i= .int .i64 (k:Int)/\o= .slice A' k d'/\OwnR wr w.heap.size wr.heap.size A' k d' (rs.take k) rh/\Below w.heap.size w wr) (fun _ i _=>n-(RowKit.intOf i).toNat)
 case atStart=>exact⟨0,_,_,_,Nat.zero_le _,rfl,rfl,HO0.out,HB0.out⟩
 case round=>
  obtain⟨k,A',d',rh,hk,rfl,rfl,hown,hbel⟩:=hrel;have HO:=hid hown;have HBr:=hid hbel;clear hown hbel;have hk0:(0:Int)<=k:=by omega
  by_cases hlt:k<n
  ·obtain⟨r,b,off,A2,m2,c2,he,rfl,hb,c0,c1,hrr,hm2x⟩:=zcn (HR.out.on hB HBr.out) hlt;have hwr:=HW.out r (List.mem_of_getElem? he);have hml:=zai hrr;have hm2:m2<=1048576:=by omega
   have HTK:=hid (show rs.take (k+1)=rs.take k++ [r] by rw[List.take_add_one,he];rfl);have hkn:(k:Int)<n:=by omega
   obtain⟨way,st⟩:=r;simp only at c1 hrr hml hwr;have HRW:=hid hrr;have HBZ:=hid (Nat.le_trans hB HBr.out.size);clear he hrr
   go_upto_region 5 with fail
   refine ez (fun V=>V.cell? ⟨b,off+k*2,none⟩=some (.slice A2 m2 c2)/\V.cell? ⟨b,off+k*2+1,none⟩=some (.int .i64 st)) ?_ fun hHeld=>?_
   ·exact⟨c0,c1⟩
   refine dq 0 rfl (h:=dq 1 rfl (h:=dq 2 rfl (h:=dq 3 rfl (h:=dq 4 rfl (h:=dq 5 rfl (h:=dq 7 rfl (h:=dq 8 rfl (h:=?_))))))));refine dq 9 rfl (h:=dq 10 rfl (h:=dq 11 rfl (h:=?_)));refine rd 6 rfl fun K hK=>?_;go_simp;refine(zgX A2 m2 c2 B way wr.drew (HRW.out.keep fun _ _=>rfl) HBZ.out hm2).mono ?_;rintro e w5 ⟨A5,d5,rfl,s5,b5⟩;have b5u:=(show Below wr.heap.size wr w5 from(Below.refl _ _).drew.trans b5)
   have HS5:=hid s5;have HB5:=hid b5u;have HO5:=hid (HO.out.on b5u);have HZW:=hid b5u.size;have hz5:w.heap.size<=w5.heap.size:=(HBr.out.trans (b5u.mono HBr.out.size)).size;clear s5 b5 b5u
   go_wp2_with fail
   refine ke hK ?_ ?_
   ·exact⟨zaa HB5.out hHeld.1,zaa HB5.out hHeld.2⟩
   clear hK K hHeld;intro hHeld;refine dq 12 rfl (h:=?_);refine rd 13 rfl fun K hK=>?_;go_simp;refine ke hK ?_ ?_
   ·exact⟨zaa (bal _) hHeld.1,zaa (bal _) hHeld.2⟩
   clear hK K hHeld;intro hHeld;refine rd 14 rfl fun K hK=>?_;refine zbH rfl _ _ 30 rfl 123 _ 2 32 underlying30 zeJ rfl (by decide) (by decide) HO5.out.row hz5 rfl [.slice A5 m2 d5,.int .i64 st] w5.heap.size rfl rfl rfl (zfE A5 m2 d5 st) (by omega) ?_;intro A9 d9 w9 hs9 b9 f9 k9;refine ke hK ?_ ?_
   ·exact⟨(b9.cell (p:=⟨b,off+k*2,none⟩) (Nat.lt_of_lt_of_le hb hB)).trans (zaa HB5.out c0),(b9.cell (p:=⟨b,off+k*2+1,none⟩) (Nat.lt_of_lt_of_le hb hB)).trans (zaa HB5.out c1)⟩
   clear hK K hHeld;intro hHeld;refine dq 15 rfl (h:=?_);refine dn ?_;have HF:=hid (HO5.out.snoc (r:=⟨way,st⟩) HZW.out HBr.out.size HS5.out hm2x hs9 b9 f9 k9);have HBF:=hid ((zac HBr.out HB5.out lr).trans b9);clear hHeld hs9 b9 f9 k9 c0 c1 hz5;go_wp2
   go_roundw
   case rel=>exact⟨k+1,A9,d9,_,by omega,by go_num,rfl,by rw[HTK.out];exact HF.out,HBF.out⟩
   case measure=>simp[RowKit.intOf];omega
  ·obtain rfl:k=n:=by omega
   have HT:=hid (show rs.take k=rs by rw[<-HL.out,List.take_length]);go_wp2;go_ret;exact⟨A',d',rh,rfl,by have h9:=HO.out;rw[HT.out] at h9;exact h9,HBr.out⟩
end
section
open Go.RowKit Go.Lib
structure Ans where
 dk:Dk
 lines:List ByteArray
 code:Int
def zag(ws:List ByteArray)(i:Nat):ByteArray:=ws.getD i ⟨#[]⟩
def zal(ns:List Int)(i:Nat):Int:=ns.getD i 0
def netC(d:Dk)(ws:List ByteArray):Ans:=
 if (netF (zaF 32 ((ws.drop 1).map fun s=>s.data.toList))).isSome=false then ⟨d,[],7⟩
 else let d':Dk:=⟨netV (zab (zaF 32 ((ws.drop 1).map fun s=>s.data.toList))),d.times,d.runs,d.log⟩;⟨d',[zcc d'],0⟩
def zfa(d:Dk)(ns:List Int):Ans:=⟨d,[zab (zaI (wayC d.net (zal ns 0) (zal ns 1)).1)],(wayC d.net (zal ns 0) (zal ns 1)).2⟩
def zcG(d:Dk)(ns:List Int):Ans:=if zaK ns=false then ⟨d,[],1⟩ else ⟨⟨d.net,ns,[],d.log⟩,[zcc ⟨d.net,ns,[],d.log⟩],0⟩
noncomputable def runC (d:Dk) (ns:List Int):Ans:=
 if (earlF d.times d.runs (ns.drop 1) (zal ns 0)).2≠0 then ⟨d,[],(earlF d.times d.runs (ns.drop 1) (zal ns 0)).2⟩
 else if d.runs.length=12 then ⟨d,[],5⟩
 else ⟨⟨d.net,d.times,d.runs++ [⟨ns.drop 1,(earlF d.times d.runs (ns.drop 1) (zal ns 0)).1⟩],d.log⟩,[zab (itoa (earlF d.times d.runs (ns.drop 1) (zal ns 0)).1)],0⟩
def okL(xs:List ByteArray):List ByteArray:=xs++ [(⟨#[111,107,32]⟩:ByteArray)++zab (itoa (xs.length:Int))]
def zfn(d:Dk):Ans:=⟨d,okL (d.runs.map fun r=>zab (zaI (r.st::r.way))),0⟩
def zeV(d:Dk)(ns:List Int):Ans:=⟨d,[if (zbA d.times d.runs (zal ns 0) (zal ns 1) (zal ns 2)).1=true then ⟨#[121,101,115]⟩ else ⟨#[110,111]⟩],(zbA d.times d.runs (zal ns 0) (zal ns 1) (zal ns 2)).2⟩
def zcN(d:Dk)(ns:List Int):Ans:=⟨d,[zab (zaI (seaC (ns.drop 1) (zal ns 0)).1),zab (itoa (seaC (ns.drop 1) (zal ns 0)).2.1)],(seaC (ns.drop 1) (zal ns 0)).2.2⟩
def zaW:List Int->List Tl
 |a::b::r=>(a,b)::zaW r
 |_=>[]
def zbJ:List Tl->List Int
 | []=>[]
 |(a,b)::r=>a::b::zbJ r
def zcF(d:Dk)(ns:List Int):Ans:=if ns.length%2=0 then ⟨d,[],7⟩ else ⟨d,[zab (zaI (zbJ (za5 (zal ns 0) (zaW (ns.drop 1))).1))],(za5 (zal ns 0) (zaW (ns.drop 1))).2⟩
def zb1:List Int->List It
 |a::b::c::r=>⟨a,b,c⟩::zb1 r
 |_=>[]
noncomputable def queueC (d:Dk) (ns:List Int):Ans:=if ns.length%3≠0 then ⟨d,[],7⟩ else ⟨d,[zab (zaI (srvC (zb1 ns)).1)],(srvC (zb1 ns)).2⟩
def zcR(d:Dk)(ws:List ByteArray)(ns:List Int):Ans:=
 let x:En:=⟨zal ns 0,zag ws 2,zal ns 1⟩
 if (zaQ d.log x).2≠0 then ⟨d,[],(zaQ d.log x).2⟩
 else ⟨⟨d.net,d.times,d.runs,(zaQ d.log x).1⟩,[zab (itoa (zbq (zbr (zaQ d.log x).1 (zag ws 2)) (zbr (zaQ d.log x).1 (zag ws 2)).length))],zbD (zaQ d.log x).1 (zag ws 2)⟩
def entW(x:En):ByteArray:=zab (itoa x.day)++⟨#[32]⟩++x.what++⟨#[32]⟩++zab (itoa x.val)
def logC(d:Dk):Ans:=⟨d,okL ((logR d.log).list.map entW),0⟩
noncomputable def execF (d:Dk) (ws:List ByteArray) (ns:List Int):Ans:=
 if ((zag ws 0).toList==[110,101,116])=true then netC d ws
 else if ((zag ws 0).toList==[119,97,121])=true then zfa d ns
 else if ((zag ws 0).toList==[116,105,109,101,115])=true then zcG d ns
 else if ((zag ws 0).toList==[114,117,110])=true then runC d ns
 else if ((zag ws 0).toList==[114,117,110,115])=true then zfn d
 else if ((zag ws 0).toList==[102,114,101,101])=true then zeV d ns
 else if ((zag ws 0).toList==[115,101,97,114,99,104])=true then zcN d ns
 else if ((zag ws 0).toList==[115,116,117,99,107])=true then zcF d ns
 else if ((zag ws 0).toList==[113,117,101,117,101])=true then queueC d ns
 else if ((zag ws 0).toList==[101,110,116,101,114])=true then zcR d ws ns
 else logC d
def zbh(sh:ByteArray)(i:Nat):UInt8:=sh.data.toList.getD (min i (sh.size-1)) 0
def zaD(sh:ByteArray):List ByteArray->Nat->List Int->Option (List Int)
 | [],_,acc=>some acc
 |w::r,i,acc=>if zbh sh i=110\/zbh sh i=42 then (if (zak w.data.toList).2=true then zaD sh r (i+1) (acc++ [(zak w.data.toList).1]) else none) else zaD sh r (i+1) acc
def zci(sh:ByteArray):Bool:=sh.data.toList.getLast?==some 43||sh.data.toList.getLast?==some 42
def errL(c:Nat):ByteArray:=(⟨#[101,114,114,111,114,32]⟩:ByteArray)++cnm.getD c ⟨#[]⟩
def dk00:Dk:=⟨⟨0,[]⟩,[],[],⟨#[]⟩⟩
noncomputable def cmdF (d:Dk) (line:ByteArray):Ans:=
 let ws:=zah 32 line
 let sh:=shp (zag ws 0)
 if okDk d=false then ⟨dk00,[],1⟩
 else if hasW zb9 (zag ws 0)=false then ⟨dk00,[],7⟩
 else if ws.length<sh.size+1\/(zci sh=false/\sh.size+1<ws.length) then ⟨dk00,[],7⟩
 else match zaD sh (ws.drop 1) 0 [] with
  |none=>⟨d,[errL 7],0⟩
  |some ns=>if (execF d ws ns).code≠0 then ⟨d,[errL (execF d ws ns).code.toNat],0⟩ else execF d ws ns
end
end Go.Proofs.YtjalgpioklcbfaaGreatDoor
