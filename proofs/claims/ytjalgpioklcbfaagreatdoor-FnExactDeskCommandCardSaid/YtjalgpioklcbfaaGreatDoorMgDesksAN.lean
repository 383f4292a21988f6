/- Steps of the proof. -/
import Derived.Test.YtjalgpioklcbfaaGreatDoorMgDesksAM
import Derived.Test.YtjalgpioklcbfaaGreatDoorKSvJ
import Derived.Test.YtjalgpioklcbfaaGreatDoorKSrt
set_option maxHeartbeats 4000000
set_option maxRecDepth 100000
set_option linter.unusedVariables false
set_option linter.unusedSimpArgs false
namespace Go.Proofs.YtjalgpioklcbfaaGreatDoor
section
open Go.RowKit Go.Lib Go.Proofs.Tryz
theorem zda:(prog.info? 29).map (fun i=>(i.zero,i.size,i.bytes))=some (some (.slice none 0 0),1,24):=by kernel_rfl
def sp3(s:Sp):List Int:=[s.tube,s.enter,s.leave]
def spR(L:List Sp)(k:Nat):List Int:=match L[k]? with
 |some s=>sp3 s
 |none=>[]
theorem zry{L:List Sp}{k:Nat}{s:Sp}(h:L[k]?=some s):spR L k=sp3 s:=by unfold spR;rw[h]
theorem Sq.more {wr w1:World} {lo m k d d2:Nat} {t tt:TypeId} {A A2:Option Addr} {gs:List Nat} {R:Nat -> List Int} {xs:List Int} (h:Sq wr lo wr.heap.size m t tt A k d gs R) (hlo:lo <= wr.heap.size) (hR:R k = xs) (hm:xs.length = m)
  (h1:Sl w1 lo w1.heap.size tt 1 A2 (k+1) d2 (hdrs m gs++ [.slice (some ⟨wr.heap.size,0,none⟩) m m])) (hz:(wr.alloc (.cells (ints xs).toArray t)).heap.size+1<=w1.heap.size)
  (hf:∀g,g<(wr.alloc (.cells (ints xs).toArray t)).heap.size->(∀ad,A=some ad->ad.block≠g)->w1.heap[g]?=(wr.alloc (.cells (ints xs).toArray t)).heap[g]?)
  (hn:∀g,g<(wr.alloc (.cells (ints xs).toArray t)).heap.size->(∀ad,A=some ad->ad.block≠g)->∀ad,A2=some ad->ad.block≠g):Sq w1 lo w1.heap.size m t tt A2 (k+1) d2 (gs++ [wr.heap.size]) R:=by
 have hlen:=h.len;have hsz:(wr.alloc (.cells (ints xs).toArray t)).heap.size=wr.heap.size+1:=by simp
 have hA:∀ad,A=some ad->ad.block<wr.heap.size:=fun ad had=>h.1.2 ad had;have hne:∀g,g∈gs->∀ad,A=some ad->ad.block≠g:=fun g hg ad had e=>h.2.2 ad had (e▸hg);have hnw:∀ad,A=some ad->ad.block≠wr.heap.size:=fun ad had=>by have:=hA ad had;omega
 have hmat:Mat w1 lo w1.heap.size m t gs R:=(h.2.1.keep fun g hg=>by
  have:=h.2.1.mem hg;rw[hf g (by omega) (hne g hg),Below.heap_alloc wr _ g this.2.2]).wide lr (by omega)
 refine⟨?_,hmat.snoc ?_ hlo (by omega) ?_ ?_,fun ad had=>?_⟩
 ·rw[hdrs,List.map_append];exact h1
 ·intro hg;have:=h.2.1.mem hg;omega
 ·rw[hlen,hR];exact hm
 ·rw[hlen,hR];exact(hf wr.heap.size (by omega) hnw).trans (Blk.new wr t _)
 ·intro hg;rcases List.mem_append.1 hg with hg|hg
  ·have:=h.2.1.mem hg;exact hn _ (by omega) (hne _ hg) ad had rfl
  ·rw[List.mem_singleton] at hg;exact hn wr.heap.size (by omega) hnw ad had hg
theorem Sq.low{w:World}{lo hi m n c:Nat}{t tt:TypeId}{A:Option Addr}{gs:List Nat}{R:Nat->List Int}(h:Sq w lo hi m t tt A n c gs R):Sq w lo w.heap.size m t tt A n c gs R:=
 ⟨h.1.low,⟨h.2.1.nodup,fun k g hg=>by obtain⟨a,b,c,d⟩:=h.2.1.row k g hg;exact⟨a,d.lt,c,d⟩⟩,h.2.2⟩
theorem zil {w:World} {lo hi n c k:Nat} {t tt:TypeId} {A:Option Addr} {gs:List Nat} {L:List Sp} (h:Sq w lo hi 3 t tt A n c gs (spR L)) (hk:k < n) {s:Sp} (hs:L[k]? = some s) :
  ∃go g,A=some ⟨go,0,none⟩/\w.cell? ⟨go,k,none⟩=some (.slice (some ⟨g,0,none⟩) 3 3)/\w.cell? ⟨g,0,none⟩=some (.int .i64 s.tube)/\w.cell? ⟨g,1,none⟩=some (.int .i64 s.enter)/\w.cell? ⟨g,2,none⟩=some (.int .i64 s.leave):=by
 obtain⟨go,g,rfl,hg,hc,_,_,_,_⟩:=h.head hk;obtain⟨_,_,_,hb⟩:=h.2.1.row k g hg;rw[zry hs] at hb;refine⟨go,g,rfl,hc,?_,?_,?_⟩
 ·rw[hb.cell];rfl
 ·rw[hb.cell];rfl
 ·rw[hb.cell];rfl
theorem ze5 (Q:Option Addr) (m d:Nat) (ts:List Int) (A:Option Addr) (n c B b0 o0:Nat) (way:List Int) (st:Int) (w:World) (ht:zad w B 1 Q m (ints ts)) (h:zad w B 1 A n (ints way)) (hB:B <= w.heap.size) (k0:w.cell? ⟨b0,o0,none⟩ = some (.slice A n c)) (k1:w.cell? ⟨b0,o0 + 1,none⟩ = some (.int .i64 st)) (hot:zaK ts = true) (hw:zaN ts way = true) (h0:0 <= st) (h1:st <= 1000000) :
  Calls prog 279 #[.slice Q m d,.pointer (some ⟨b0,o0,none⟩)] w fun e w'=>∃A' d' gs,e= .returned (.slice A' n d')/\Sq w' w.heap.size w'.heap.size 3 2 29 A' n d' gs (spR (zay ts way st))/\way.length=n/\Below w.heap.size w w':=by
 obtain⟨hw12,hw1,hwt⟩:=zaJ hw;have hln:=zai h;have htl:=zai ht;have hn12:n<=12:=by omega
 have HWT:=hid hwt;have HOT:=hid hot;have HLN:=hid hln;have HTL:=hid htl;have HR:=hid h;have HRT:=hid ht;have HK0:=hid k0;have HS0:=hid (show Sq (w.alloc (.cells #[] 29)) w.heap.size (w.alloc (.cells #[] 29)).heap.size 3 2 29 (some ⟨w.heap.size,0,none⟩) 0 0 [] (spR (zay ts way st)) from⟨((Acc.made w 29 1).sl (lo:=w.heap.size) lr lr),Mat.nil _ _ _ _ _ _,fun ad h1 h2=>by cases h2⟩);have hb0:Below w.heap.size w (w.alloc (.cells #[] 29)):=bal _;have HB0:=hid hb0;have c1:=zaa hb0 k1;clear h ht hot hw hw12 hw1 hwt hln htl k0 k1 hb0;go_enter func279,ntmps279
 go_upto_region 2 with fail
 obtain⟨W0,hW0⟩:∃y,w.alloc (.cells #[] 29)=y:=⟨_,rfl⟩
 rw[hW0] at HS0 HB0 c1⊢;clear hW0
 go_wp2_with fail
 go_loopw [5,6,7] (fun o a i wr=>∃(k:Nat) (at_:Int) (gs:List Nat) (A':Option Addr) (d':Nat),k<=n/\i= .int .i64 (k:Int)/\o= .slice A' k d'/\a= .int .i64 at_/\(0<=at_/\at_<=1000000+1000*(k:Int))/\zay ts (way.drop k) at_=(zay ts way st).drop k/\Sq wr w.heap.size wr.heap.size 3 2 29 A' k d' gs (spR (zay ts way st))/\Below w.heap.size w wr) (fun _ _ i _=>n-(RowKit.intOf i).toNat)
 case atStart=>exact⟨0,st,[],_,_,Nat.zero_le _,rfl,rfl,rfl,by omega,rfl,HS0.out.low,HB0.out⟩
 case round=>
  obtain⟨k,at_,gs,A',d',hk,rfl,rfl,rfl,hat,hdone,hsl,hbel⟩:=hrel;have HS:=hid hsl;have HD:=hid hdone;have HBr:=hid hbel;have cw:=zaa hbel HK0.out;clear hsl hdone hbel c1;have hk0:(0:Int)<=k:=by omega
  by_cases hlt:k<n
  ·obtain⟨t,b,off,he,rfl,hb,q0⟩:=zax (HR.out.on hB HBr.out) hlt;have hdr:=zeD he;have htb:=HWT.out t (List.mem_of_getElem? he);obtain⟨tn,htn⟩:=Int.eq_ofNat_of_zero_le htb.1;subst htn;obtain⟨tv,b2,off2,he2,rfl,hb2,q1⟩:=zax (HRT.out.on hB HBr.out) (k:=tn) (by have:=HTL.out;omega);obtain rfl:at0 ts (tn:Int)=tv:=by rw[zen (by have:=HTL.out;omega)] at he2;injection he2
   have hbd:=zjA HOT.out (tn:Int) htb.1 htb.2;have hst:=HD.out;rw[hdr,zay] at hst;obtain⟨tv,htv⟩:∃z,at0 ts (tn:Int)=z:=⟨_,rfl⟩
   rw[htv] at hst hbd q1
   have HST:=hid (show(zay ts way st)[k]?=some ⟨(tn:Int),at_,at_+tv⟩/\zay ts (way.drop (k+1)) (at_+tv)=(zay ts way st).drop (k+1) by
    have e1:(zay ts way st)[k]?=((zay ts way st).drop k)[0]?:=by rw[List.getElem?_drop,Nat.add_zero]
    have e2:(zay ts way st).drop (k+1)=((zay ts way st).drop k).tail:=by rw[List.tail_drop]
    rw[e1,e2,<-hst];exact⟨rfl,rfl⟩)
   have hkn:(k:Int)<n:=by omega
   have htn0:(0:Int)<=tn:=htb.1;have htm:(tn:Int)<m:=by have:=HTL.out;have:=htb.2;omega
   have hwr:IntKind.i64.wrap (at_+tv)=at_+tv:=by
    unfold IntKind.wrap;simp[IntKind.bits,IntKind.signed];omega
   have hz:w.heap.size<=(wr.alloc (.cells (ints (sp3 ⟨(tn:Int),at_,at_+tv⟩)).toArray 2)).heap.size:=by have:=HBr.out.size;simp;omega
   have HSA:=hid (HS.out.1.on ((Below.refl _ _).alloc lr (.cells (ints (sp3 ⟨(tn:Int),at_,at_+tv⟩)).toArray 2)));clear he he2 hdr htb htv hst
   go_wp2_with (at_builtin;refine zat (wr:=wr.alloc (.cells (ints (sp3 ⟨(tn:Int),at_,at_+tv⟩)).toArray 2)) rfl _ _ 190 rfl 29 _ 1 24 underlying190 zda rfl (by decide) (by decide) HSA.out hz rfl [.slice (some ⟨wr.heap.size,0,none⟩) 3 3] _ (by simp) rfl rfl (fun u hu=>by simp at hu;subst hu;rfl) (by omega) ?_;intro A2 d2 w9 hs9 b9 z9 f9 k9;have HS9:=hid (HS.out.more HBr.out.size (zry HST.out.1) rfl hs9 z9 f9 k9);have HB9:=hid b9;clear hs9 b9 f9 k9 z9)
   go_roundw
   case rel=>
    exact⟨k+1,at_+tv,gs++ [wr.heap.size],A2,d2,by omega,by go_num,rfl,rfl,by omega,HST.out.2,HS9.out,(HBr.out.alloc HBr.out.size _).trans HB9.out⟩
   case measure=>simp[RowKit.intOf];omega
  ·obtain rfl:n=k:=by omega
   go_wp2;go_ret;exact⟨A',d',gs,rfl,HS.out,HLN.out,HBr.out⟩
theorem zkV (A:Option Addr) (n c B:Nat) (l:List It) (w:World) (h:zad w B 3 A n (its l)) (hB:B <= w.heap.size) (hn:n <= 1048576) :
  Calls prog 90 #[.slice A n c] w fun e w'=>∃A' m d,e= .returned (.tuple #[.slice A' m d,.int .i64 (srvC l).2])/\Sl w' w.heap.size w'.heap.size 2 1 A' m d (ints (srvC l).1)/\Below w.heap.size w w':=by
 go_enter func90,ntmps90
 go_wp2_with fail
 refine(zlk A n c l B w h hB hn).mono ?_;rintro e w1 ⟨rfl,b1⟩;have HB1:=hid b1;have HR1:=hid (h.on hB b1);clear b1 h;rcases ho:okQ l with _|_
 ·have HO:=hid (show srvC l=([],1) by unfold srvC;rw[if_pos ho]);go_wp2;go_ret2;exact⟨none,0,0,by rw[HO.out];rfl,by rw[HO.out];exact Sl.nil _ _ _ _ _,HB1.out⟩
 ·have HO:=hid (show srvC l=(svR l,0) by unfold srvC;rw[if_neg (by rw[ho];decide)]);have HOK:=hid ho;clear ho
  go_wp2_with fail
  refine(zqb A n c B l w1 HR1.out (Nat.le_trans hB HB1.out.size) HOK.out).mono ?_;rintro e w2 ⟨A',m,d,v,rfl,s2,b2⟩;have HS:=hid s2;have HB2:=hid (zac HB1.out b2 lr);clear b2 s2;go_wp2;go_ret2;exact⟨A',m,d,by rw[HO.out];rfl,by rw[HO.out];exact HS.out.wide HB1.out.size lr,HB2.out⟩
theorem zkP{ts:List Int}{rs:List Rn}{way:List Int}{a:Int}(h:zap ts rs=false):earlF ts rs way a=(0,1):=by unfold earlF;rw[if_pos h]
theorem zg7{ts:List Int}{rs:List Rn}{way:List Int}{a:Int}(h:zap ts rs=true)(h2:(zaN ts way&&inR a 0 100000)=false):earlF ts rs way a=(0,2):=by unfold earlF;rw[if_neg (by rw[h];decide),if_pos h2]
theorem zkQ{ts:List Int}{rs:List Rn}{way:List Int}{a:Int}(h:zap ts rs=true)(h2:(zaN ts way&&inR a 0 100000)=true):earlF ts rs way a=if 100000<earl ts rs way a then (0,5) else (earl ts rs way a,0):=by unfold earlF;rw[if_neg (by rw[h];decide),if_neg (by rw[h2];decide)]
theorem zjj (Q:Option Addr) (m d:Nat) (ts:List Int) (RA:Option Addr) (rn rc:Nat) (rs:List Rn) (A:Option Addr) (n c B:Nat) (way:List Int) (a:Int) (w:World) (ht:zad w B 1 Q m (ints ts)) (hr:zaC w B RA rn rs) (h:zad w B 1 A n (ints way)) (hB:B <= w.heap.size) (hm:m <= 1048576) (hrn:rn <= 1048576) (hsm:zbM rs) (hn:n <= 1048576) :
  Calls prog 84 #[.slice Q m d,.slice RA rn rc,.slice A n c,.int .i64 a] w fun e w'=>e= .returned (.tuple #[.int .i64 (earlF ts rs way a).1,.int .i64 (earlF ts rs way a).2])/\Below w.heap.size w w':=by
 have HRT:=hid ht;have HRR:=hid hr;have HR:=hid h;have hts:=zai ht;have HTS:=hid hts;have HSM:=hid hsm;clear ht hr h hsm hts;go_enter func84,ntmps84
 go_wp2_with fail
 refine(zec Q m d ts RA rn rc B rs w HRT.out HRR.out hB hm hrn HSM.out).mono ?_;rintro e w1 ⟨rfl,b1⟩;have HB1:=hid b1;clear b1;rcases e1:zap ts rs with _|_
 ·have HO:=hid (zkP (way:=way) (a:=a) e1);go_wp2;go_ret2;exact⟨by rw[HO.out];rfl,HB1.out⟩
 have H1:=hid e1;clear e1
 go_wp2_with fail
 refine(zhG Q m d ts hm HTS.out A n c B way w1 (HR.out.on hB HB1.out) (Nat.le_trans hB HB1.out.size) hn).mono ?_;rintro e w2 ⟨rfl,b2⟩;have HB2:=hid (zac HB1.out b2 lr);clear b2;rcases e2:zaN ts way with _|_
 ·have HO:=hid (zg7 (way:=way) (a:=a) H1.out (by rw[e2];rfl));go_wp2;go_ret2;exact⟨by rw[HO.out];rfl,HB2.out⟩
 have H2:=hid e2;clear e2
 go_wp2_with fail
 refine(zaG _ _ _ _).mono ?_;rintro e w3 ⟨rfl,rfl⟩;rcases e3:inR a 0 100000 with _|_
 ·have HO:=hid (zg7 (way:=way) (a:=a) H1.out (by rw[H2.out,e3];rfl));go_wp2;go_ret2;exact⟨by rw[HO.out];rfl,HB2.out⟩
 have HO:=hid (zkQ (way:=way) (a:=a) H1.out (by rw[H2.out,e3];rfl));have hab:=zam.1 e3;clear e3
 go_wp2_with fail
 refine(zmO Q m d ts RA rn rc rs A n c B way a w2 (HRT.out.on hB HB2.out) (HRR.out.on hB HB2.out) (HR.out.on hB HB2.out) (Nat.le_trans hB HB2.out.size) H1.out H2.out hab.1 hab.2).mono ?_;rintro e w4 ⟨rfl,b4⟩;have HB4:=hid (zac HB2.out b4 lr);obtain⟨E,hE⟩:∃z,earl ts rs way a=z:=⟨_,rfl⟩
 rw[hE] at HO⊢;clear b4 hE;by_cases hlt:100000<E
 ·have hd:decide (100000<E)=true:=decide_eq_true hlt;have HP:=hid (show earlF ts rs way a=(0,5) by rw[HO.out,if_pos hlt]);go_wp2;go_ret2;exact⟨by rw[HP.out];rfl,HB4.out⟩
 ·have hd:decide (100000<E)=false:=decide_eq_false hlt;have HP:=hid (show earlF ts rs way a=(E,0) by rw[HO.out,if_neg hlt]);go_wp2;go_ret2;exact⟨by rw[HP.out];rfl,HB4.out⟩
def Gr(w V:World):Prop:=∃q os,V=Sort.grow (w.drewN q) os
theorem Gr.refl(w:World):Gr w w:=⟨0,#[],by rw[Sort.grow_empty,World.drewN_zero]⟩
theorem Gr.alloc{w V:World}(h:Gr w V)(o:Obj):Gr w (V.alloc o):=by
 obtain⟨q,os,rfl⟩:=h;exact⟨q,os++#[o],by rw[Sort.alloc_eq_grow,Sort.grow_grow]⟩
theorem Gr.drew{w V:World}(h:Gr w V):Gr w V.drew:=by
 obtain⟨q,os,rfl⟩:=h;exact⟨q+1,os,by rw[Sort.drew_grow,World.drew_drewN]⟩
instance:Inhabited Sp:=⟨⟨0,0,0⟩⟩
def zjC(x y:Sp):Int:=orF (Lib.compareInt x.enter y.enter) (Lib.compareInt x.leave y.leave)
def ltSp(x y:Sp):Bool:=decide (x.enter<y.enter)||(decide (x.enter=y.enter)&&decide (x.leave<y.leave))
theorem zgZ(x y:Sp):Go.Proofs.ltOf zjC x y=ltSp x y:=by
 unfold Go.Proofs.ltOf zjC orF Lib.compareInt ltSp;rcases Int.lt_trichotomy x.enter y.enter with h|h|h
 ·simp[h]
 ·rw[h];rcases Int.lt_trichotomy x.leave y.leave with k|k|k
  ·simp[k]
  ·simp[k]
  ·have h1:¬x.leave<y.leave:=by omega
   simp[h1,k]
 ·have h1:¬x.enter<y.enter:=by omega
  have h2:¬x.enter=y.enter:=by omega
  simp[h1,h2,h]
theorem zl9{x y:Sp}:ltSp x y=true↔x.enter<y.enter\/(x.enter=y.enter/\x.leave<y.leave):=by simp[ltSp]
theorem zkg{x y:Sp}:ltSp x y=false↔¬(x.enter<y.enter\/(x.enter=y.enter/\x.leave<y.leave)):=by rw[<-zl9];simp
theorem zr4:Sort.SWO (Go.Proofs.ltOf zjC) where
 irrefl x:=by rw[zgZ,zkg];omega
 trans x y z h1 h2:=by
  rw[zgZ,zl9] at*;omega
 ntrans x y z h1 h2:=by
  rw[zgZ,zkg] at*;omega
theorem znL (x y:Sp) (w:World) :
  Calls prog 210 #[.agg (zbv x).toArray,.agg (zbv y).toArray] w fun e w'=>e= .returned (.int .i64 (zjC x y))/\∃q os',w'=Sort.grow (w.drewN q) os':=by
 obtain⟨W,hW,hg,hz,k0,k1,hb⟩:∃W,W=(w.alloc (.cells #[.int .i64 x.tube,.int .i64 x.enter,.int .i64 x.leave] 196)).alloc (.cells #[.int .i64 y.tube,.int .i64 y.enter,.int .i64 y.leave] 196)/\Gr w W/\W.heap.size=w.heap.size+1+1/\Blk W w.heap.size 196 #[.int .i64 x.tube,.int .i64 x.enter,.int .i64 x.leave]/\Blk W (w.heap.size+1) 196 #[.int .i64 y.tube,.int .i64 y.enter,.int .i64 y.leave]/\Below w.heap.size w W:=by
  obtain⟨W,hW,hz,k0,k1,hb⟩:=zcW w #[.int .i64 x.tube,.int .i64 x.enter,.int .i64 x.leave] #[.int .i64 y.tube,.int .i64 y.enter,.int .i64 y.leave] 196 196;exact⟨W,hW,by rw[hW];exact((Gr.refl w).alloc _).alloc _,hz,k0,k1,hb⟩
 have HW:=hid hW;have HG:=hid hg;have a1:=k0.cellAt 1 (by simp);have a2:=k0.cellAt 2 (by simp);have d1:=k1.cellAt 1 (by simp);have d2:=k1.cellAt 2 (by simp);simp only[ly] at a1 a2 d1 d2;clear hW hg hz k0 k1 hb;change Calls prog 210 #[.agg #[.int .i64 x.tube,.int .i64 x.enter,.int .i64 x.leave],.agg #[.int .i64 y.tube,.int .i64 y.enter,.int .i64 y.leave]] w _;go_enter func210,ntmps210
 go_upto_region 1 with fail
 rw[<-HW.out];refine ez (fun V=>Gr w V/\Below W.heap.size W V) ?_ fun hHeld=>?_
 ·exact⟨HG.out.drew,(Below.refl _ _).drew⟩
 refine dq 0 rfl (h:=dq 1 rfl (hy:=by intro w hSw;(try dsimp only at hSw);(have e1:=zaa hSw.2 a1);go_simp;try with_reducible rfl) (h:=dq 2 rfl (h:=dq 3 rfl (hy:=by intro w hSw;(try dsimp only at hSw);(have i1:=zaa hSw.2 d1);go_simp;try with_reducible rfl) (h:=dq 5 rfl (h:=dq 6 rfl (hy:=by intro w hSw;(try dsimp only at hSw);(have e2:=zaa hSw.2 a2);go_simp;try with_reducible rfl) (h:=dq 7 rfl (h:=dq 8 rfl (hy:=by intro w hSw;(try dsimp only at hSw);(have i2:=zaa hSw.2 d2);go_simp;try with_reducible rfl) (h:=?_))))))));refine rd 4 rfl fun K hK=>?_;go_simp;refine(zdi _ _ _).mono ?_;rintro e v7 ⟨rfl,h7⟩;rw[h7]
 go_wp2_with fail
 refine ke hK ?_ ?_
 ·exact hHeld
 clear hK K hHeld;intro hHeld;refine rd 9 rfl fun K hK=>?_;go_simp;refine(zdi _ _ _).mono ?_;rintro e v8 ⟨rfl,h8⟩;rw[h8]
 go_wp2_with fail
 refine ke hK ?_ ?_
 ·exact hHeld
 clear hK K hHeld;intro hHeld;refine rd 10 rfl fun K hK=>?_;go_simp;refine ke hK ?_ ?_
 ·exact⟨hHeld.1.alloc _,zac hHeld.2 (bal _) lr⟩
 clear hK K hHeld;intro hHeld;refine rd 11 rfl fun K hK=>?_;go_simp;refine(zkZ _ _ _ _ (Blk.new W _ _).drew).mono ?_;rintro e v9 ⟨rfl,h9⟩;rw[h9]
 go_wp2_with fail
 refine ke hK ?_ ?_
 ·exact hHeld
 clear hK K hHeld;intro hHeld;refine dq 12 rfl (h:=?_);refine dn ?_;have HF:=hid hHeld.1;clear hHeld;go_wp2;go_ret;exact⟨rfl,HF.out⟩
theorem zpl:∀(l:List Sp) (j:Nat),j<l.length*3->(sps l)[j]?=some ((Sort.flatK zbv 3 l.toArray)[j]!):=by
 intro l j hj;rw[Sort.get_flatK _ _ _ _ (by simpa using hj)];have hd:j/3<l.length:=by omega
 have hg:(l.toArray)[j/3]! =l[j/3]:=by rw[getElem!_pos _ _ (by simpa using hd)];simp
 rw[hg]
 have aux:∀(l:List Sp) (j:Nat) (hj:j<l.length*3) (hd:j/3<l.length),(sps l)[j]?=some ((zbv l[j/3])[j%3]!):=by
  intro l
  induction l with
  |nil=>intro j hj;simp at hj
  |cons x l ih=>
   intro j hj hd;have e:sps (x::l)=zbv x++sps l:=rfl;rw[e];by_cases h3:j<3
   ·rw[List.getElem?_append_left (by simpa[zbv] using h3)]
    match j,h3 with
    |0,_=>rfl
    |1,_=>rfl
    |2,_=>rfl
   ·obtain⟨i,rfl⟩:∃i,j=i+3:=⟨j-3,by omega⟩
    rw[List.getElem?_append_right (by simp[zbv])];have h1:i+3-(zbv x).length=i:=by simp[zbv]
    have h2:(i+3)/3=i/3+1:=by omega
    have h4:(i+3)%3=i%3:=by omega
    rw[h1,ih i (by simp at hj;omega) (by simp at hj;omega),h4];simp only[h2,List.getElem_cons_succ]
 exact aux l j hj hd
theorem znJ{enc:Sp->List Value}{k:Nat}{w:World}{g n:Nat}{d:Array Sp}{os:Array Obj}{lo:Nat}(hg:lo<=g)(hlo:lo<=w.heap.size):Below lo w (Go.Proofs.sortWorldK enc k w g 0 n d os):=by
 refine⟨rfl,rfl,rfl,Go.Proofs.size_sortWorldK_c enc k w g 0 n d os,fun b hb=>?_⟩;unfold Go.Proofs.sortWorldK Sort.grow Sort.putRowK Sort.putRow Sort.mapBlock Sort.ahead;simp only;rw[Array.getElem?_append_left (by simp;omega),Array.getElem?_modify];rw[if_neg (by omega)]
theorem zqc (g q c lo:Nat) (l:List Sp) (w:World) (hs:Sl w lo w.heap.size 196 3 (some ⟨g,0,none⟩) q c (sps l)) (hlo:lo <= w.heap.size) (hg:lo <= g) (hgw:g < w.heap.size) (hq:q <= 1048576) :
  Calls prog 209 #[.slice (some ⟨g,0,none⟩) q c,.func (.func 210) #[] #[]] w fun e w'=>e= .returned (.tuple #[])/\∃l',zad w' w'.heap.size 3 (some ⟨g,0,none⟩) q (sps l')/\(∀x,x∈l'↔x∈l)/\Below lo w w':=by
 have eg:∀args w,(callFunc 210 args).run prog w= .ok (.enter 210 args) w:=enters_of func210 (by kernel_rfl) rfl;have hlen:l.length=q:=by have:=hs.len;rw[zch] at this;omega
 have hsz:l.toArray.size=q:=by simpa using hlen
 have hH:Sort.HoldsK zbv 3 w g 0 l.toArray:=by
  intro j hj;rw[Sort.size_flatK,hsz] at hj;rw[Nat.zero_add,hs.cellAt j hj,zpl l j (by omega)];exact⟨rfl,hs.frozenAt j⟩
 have hcon:=AnyQ.slices_SortFunc Tryz.sortSpan 3 isAgg196 sizeOf196 zbv (fun _=>rfl) (fun x=>znK x) zjC zr4 210 #[] g 0 c l.toArray w eg (fun m os dk _ x y=>znL x y _) hH hgw (by omega);rw[hsz] at hcon;refine hcon.mono ?_;rintro e w' ⟨rfl,d',n,os,hp,_,rfl⟩;have hps:d'.size=q:=by rw[hp.1,hsz]
 refine⟨rfl,d'.toList,⟨?_,fun hn=>⟨_,rfl,rfl,?_,fun j u hu=>?_⟩⟩,fun x=>?_,znJ hg hlo⟩
 ·rw[zch];simp[hps]
 ·exact Nat.lt_of_lt_of_le hgw (Go.Proofs.size_sortWorldK_c zbv 3 w g 0 n d' os)
 ·have hj:j<q*3:=by
   have:=(List.getElem?_eq_some_iff.1 hu).1;rw[zch] at this;simpa[hps] using this
  have h1:=Go.Proofs.holdsK_sortWorldK_c zbv 3 w g 0 l.toArray d' n os hH hgw (by rw[hps,hsz]);have h2:=(h1 j (by rw[Sort.size_flatK,hps];exact hj)).1;have h3:=zpl d'.toList j (by simpa[hps] using hj);rw[hu] at h3;simp only[Array.toArray_toList] at h3;injection h3 with h3;rw[h2,h3]
  rfl
 ·have h1:=hp.2.2;rw[Array.extract_eq_self_of_le (by omega),Array.extract_eq_self_of_le (by omega)] at h1;rw[h1.mem_iff]
end
end Go.Proofs.YtjalgpioklcbfaaGreatDoor
