/- Steps of the proof. -/
import Derived.Test.YtjalgpioklcbfaaGreatDoorKExD
set_option maxHeartbeats 4000000
set_option maxRecDepth 100000
set_option linter.unusedVariables false
set_option linter.unusedSimpArgs false
namespace Go.Proofs.YtjalgpioklcbfaaGreatDoor
section
open Go.RowKit Go.Lib Go.Proofs.Tryz
theorem zaT{d:Dk}(h:okDk d=true):okNt d.net=true/\zap d.times d.runs=true/\za9 d.log=0:=by
 unfold okDk at h;rw[Bool.and_eq_true,Bool.and_eq_true] at h;exact⟨h.1,h.2.1,by simpa using h.2.2⟩
theorem zgC{α:Type}{l:List α}{f:α->ByteArray}{k:Nat}{x:α}(h:l[k]?=some x):strs ((l.map f).take (k+1))=strs ((l.map f).take k)++ [.string (f x)]:=by
 rw[List.take_add_one,List.getElem?_map,h];simp[strs]
theorem zmR {w:World} {lo g:Nat} {h:DkH} {d:Dk} {rh:List RnH} {WA NA:Option Addr} {wn nn:Nat} {ws:List ByteArray} {ns:List Int} {m:Int} (wc nc:Nat) (x:ExIn w lo g h d rh WA wn ws NA nn ns m) (h0:0 < wn) (hw:((zag ws 0).toList == [114,117,110,115]) = true) :
  Calls prog 36 #[.pointer (some ⟨g,0,none⟩),.slice WA wn wc,.slice NA nn nc] w fun e w'=>∃LA ln lc,e= .returned (.tuple #[.slice LA ln lc,.int .i64 (execF d ws ns).code])/\∃h' rh',zdO w w' lo g h' (execF d ws ns).dk rh' LA ln lc (execF d ws ns).lines:=by
 have HX:=hid (show execF d ws ns=zfn d by unfold execF;rw[eq_of_beq hw];rfl);have e0:=notW (l':=[110,101,116]) hw (by decide);have e1:=notW (l':=[119,97,121]) hw (by decide);have e2:=notW (l':=[116,105,109,101,115]) hw (by decide);have e3:=notW (l':=[114,117,110]) hw (by decide);have XI:=hid x;obtain⟨s,b0,o0,hs0,rfl,hb0,k0⟩:=zaP x.wsr h0;rw[Nat.add_zero] at k0;have hsw:zag ws 0=s:=by unfold zag;rw[List.getD_eq_getElem?_getD,hs0];rfl
 rw[hsw] at hw e0 e1 e2 e3;obtain⟨c0,c1,c2,c3,c4⟩:=zaq x.blk;clear x hs0 hsw;have hok:=(zaT XI.out.ok).2.1;have HOK:=hid hok;have HXF:=hid (show execF d ws ns=⟨d,okL (d.runs.map fun r=>zab (zaI (r.st::r.way))),0⟩ by rw[HX.out,zfn]);have HLN:=hid XI.out.own.runs.len;have hn12:h.n3<=12:=by rw[<-XI.out.own.runs.len];exact zbB hok
 have acc0:=Acc.made w 9 1;have HACC:=hid acc0;have HB0:=hid (acc0.below (B:=w.heap.size) lr lr);replace c3:=zaa HB0.out c3;have hrr0:=(XI.out.own.runs.reads lr)
 obtain⟨A3,hA3⟩:∃z,h.A3=z:=⟨_,rfl⟩
 rw[hA3] at c3 hrr0;have HRR:=hid hrr0;clear acc0 hok c0 c1 c2 c4 hA3 hrr0;go_enter func36,ntmps36
 go_wp2_with fail
 go_loopw [14,155] (fun o i wr=>∃(k:Nat) (A':Option Addr) (d':Nat),k<=h.n3/\i= .int .i64 (k:Int)/\o= .slice A' k d'/\Acc w.heap.size w.heap.size 9 1 w wr A' k d' (strs ((d.runs.map fun r=>zab (zaI (r.st::r.way))).take k))) (fun _ i _=>h.n3-(RowKit.intOf i).toNat)
 case atStart=>exact⟨0,_,_,Nat.zero_le _,rfl,rfl,HACC.out⟩
 case round=>
  obtain⟨k,A',d',hk,rfl,rfl,hacc⟩:=hrel;have HA:=hid hacc;have HBr:=hid (hacc.below (B:=w.heap.size) lr lr);clear hacc;have hki:(0:Int)<=k:=by omega
  by_cases hlt:k<h.n3
  ·obtain⟨r,b,off,A2,m2,cc2,he,rfl,hb,q0,q1,hrr,hm2⟩:=zcn (HRR.out.on lr HBr.out) hlt;have hro:=zbG HOK.out he;have hwl:=zaJ hro.1;have hte:=zd8 (zaV HOK.out);have HE:=hid (zgC (f:=fun r:Rn=>zab (zaI (r.st::r.way))) he);have hml:=zai hrr;obtain⟨b2,o2,rfl,_,_⟩:=hrr.at_ (by omega)
   have HNB:=hid (show∀x∈[r.st]++r.way,i64b x from fun x hx=>by
    rw[List.mem_append,List.mem_singleton] at hx;rcases hx with rfl|hx
    ·exact zcM (by omega) (by omega)
    ·have:=hwl.2.2 x hx;exact zcM (by omega) (by omega))
   have hkn:(k:Int)<h.n3:=by omega
   have hm12:m2<=12:=by omega
   obtain⟨way,st⟩:=r;simp only at q1 hrr hml HE HNB;have HRW:=hid hrr;clear he hro hwl hte hrr
   go_upto_region 29 with fail
   obtain⟨u,hu⟩:∃y,wr.alloc (.cells #[.slice (some ⟨b2,o2,none⟩) m2 cc2,.int .i64 st] 123)=y:=⟨_,rfl⟩
   have yu:Blk u wr.heap.size 123 #[.slice (some ⟨b2,o2,none⟩) m2 cc2,.int .i64 st]:=by rw[<-hu];exact Blk.new _ _ _
   have bu:Below wr.heap.size wr u:=by rw[<-hu];exact bal _
   rw[hu];obtain⟨z2,hz2,hz3,k0,k1,hbz⟩:=zcW u #[.int .i64 st] #[.slice (some ⟨u.heap.size,0,none⟩) 1 1,.slice (some ⟨b2,o2,none⟩) m2 cc2] 2 29;have HZ:=hid hz2;have HK0:=hid k0;have HK1:=hid k1;have HBz:=hid (zac (zac HBr.out bu lr) hbz lr);have HAz:=hid ((HA.out.on bu lr).on hbz lr);have HRz:=hid ((HRW.out.on HBr.out.size bu).on (Nat.le_trans HBr.out.size bu.size) hbz);have p0:=yu.cellAt 0 (by simp);have p1:=yu.cellAt 1 (by simp);simp only[ly] at p0 p1;have p0b:=zaa ((Below.refl u.heap.size u).alloc lr (.cells #[.int .i64 st] 2)) p0;have ylt:=yu.lt;clear hu yu bu hz2 hz3 k0 k1 hbz q0 q1
   go_wp2_with fail
   rw[<-HZ.out];refine(zof (u.heap.size+1) u.heap.size 0 1 1 b2 o2 m2 cc2 z2.heap.size [st] way z2 HK1.out (HK0.out.readsL (xs:=ints [st]) (n:=1) (size:=1) rfl) (HRz.out.more HBz.out.size) lr (by omega) (by omega) (by omega)).mono ?_;rintro e w5 ⟨A5,d5,rfl,s5,b5⟩;have HS5:=hid s5;have HB5:=hid (zac HBz.out b5 lr);have HA5:=hid (HAz.out.on b5 lr);clear s5 b5 p0 p1 p0b ylt
   go_wp2_with fail
   refine(zcV A5 (1+m2) d5 w5.heap.size ([st]++way) w5 (HS5.out.reads lr) lr (by omega) HNB.out (zaw XI.out.tab HB5.out)).mono ?_;rintro e w6 ⟨rfl,b6⟩;have HA6:=hid (HA5.out.on b6 lr);clear b6
   go_wp2_with (at_builtin;refine zcH rfl _ _ 24 rfl 9 _ 1 16 underlying24 zbu rfl (by decide) (by decide) HA6.out lr rfl _ rfl [.string (zab (zaI ([st]++way)))] rfl rfl (fun u hu=>by simp at hu;subst hu;rfl) (by omega) ?_;intro A7 d7 w9 hacc2;have HA9:=hid hacc2;clear hacc2)
   go_roundw
   case rel=>exact⟨k+1,A7,d7,by omega,by go_num,rfl,by rw[HE.out];exact HA9.out⟩
   case measure=>simp[RowKit.intOf];omega
  ·obtain rfl:h.n3=k:=by omega
   have HT:=hid (show(d.runs.map fun r:Rn=>zab (zaI (r.st::r.way))).take h.n3=d.runs.map fun r:Rn=>zab (zaI (r.st::r.way)) by rw[List.take_of_length_le (by rw[List.length_map,HLN.out];exact Nat.le_refl _)]);have hsl:=HA.out.sl (lo:=w.heap.size) lr lr;rw[HT.out] at hsl;have HS:=hid hsl;clear hsl
   go_wp2_with fail
   refine(zkp A' h.n3 d' w.heap.size _ wr HS.out HBr.out.size (by omega) (zaw XI.out.tab HBr.out)).mono ?_;rintro e w6 ⟨A7,c7,rfl,s7,b7,_⟩;have HS7:=hid s7;have HB7:=hid (HBr.out.trans b7);clear s7 b7;go_wp2;go_ret2;refine⟨A7,h.n3+1,c7,by rw[HXF.out];rfl,h,rh,?_⟩;rw[HXF.out];refine XI.out.out HB7.out ?_;have h7:=HS7.out;show Sl _ _ _ _ _ _ _ _ (strs (okL _));unfold okL;rw[List.length_map,HLN.out];exact h7
theorem zqC(A:Option Addr)(n d:Nat)(p v:Int):∀W:World,(Instr.field 150 (.agg #[.slice A n d,.int .i64 p,.int .i64 v]) 0).run prog W= .ok (.slice A n d) W:=fun _=>by kernel_rfl
theorem zol {w:World} {lo g:Nat} {h:DkH} {d:Dk} {rh:List RnH} {WA NA:Option Addr} {wn nn:Nat} {ws:List ByteArray} {ns:List Int} {m:Int} (wc nc:Nat) (x:ExIn w lo g h d rh WA wn ws NA nn ns m) (h0:0 < wn) (hw:((zag ws 0).toList == [108,111,103]) = true) :
  Calls prog 36 #[.pointer (some ⟨g,0,none⟩),.slice WA wn wc,.slice NA nn nc] w fun e w'=>∃LA ln lc,e= .returned (.tuple #[.slice LA ln lc,.int .i64 (execF d ws ns).code])/\∃h' rh',zdO w w' lo g h' (execF d ws ns).dk rh' LA ln lc (execF d ws ns).lines:=by
 have HX:=hid (show execF d ws ns=logC d by unfold execF;rw[if_neg (by rw[notW hw (by decide)];decide),if_neg (by rw[notW hw (by decide)];decide),if_neg (by rw[notW hw (by decide)];decide),if_neg (by rw[notW hw (by decide)];decide),if_neg (by rw[notW hw (by decide)];decide),if_neg (by rw[notW hw (by decide)];decide),if_neg (by rw[notW hw (by decide)];decide),if_neg (by rw[notW hw (by decide)];decide),if_neg (by rw[notW hw (by decide)];decide),if_neg (by rw[notW hw (by decide)];decide)]);have e0:=notW (l':=[110,101,116]) hw (by decide);have e1:=notW (l':=[119,97,121]) hw (by decide);have e2:=notW (l':=[116,105,109,101,115]) hw (by decide);have e3:=notW (l':=[114,117,110]) hw (by decide)
 have e4:=notW (l':=[114,117,110,115]) hw (by decide);have e5:=notW (l':=[102,114,101,101]) hw (by decide);have e6:=notW (l':=[115,101,97,114,99,104]) hw (by decide);have e7:=notW (l':=[115,116,117,99,107]) hw (by decide);have e8:=notW (l':=[113,117,101,117,101]) hw (by decide);have e9:=notW (l':=[101,110,116,101,114]) hw (by decide);have XI:=hid x;obtain⟨s,b0,o0,hs0,rfl,hb0,k0⟩:=zaP x.wsr h0;rw[Nat.add_zero] at k0;have hsw:zag ws 0=s:=by unfold zag;rw[List.getD_eq_getElem?_getD,hs0];rfl
 rw[hsw] at hw e0 e1 e2 e3 e4 e5 e6 e7 e8 e9;obtain⟨c0,c1,c2,c3,c4⟩:=zaq x.blk;clear x hs0 hsw;have hcf:=(zaT XI.out.ok).2.2;have HLOK:=hid (zeM d.log);have HXF:=hid (show execF d ws ns=⟨d,okL ((logR d.log).list.map entW),0⟩ by rw[HX.out,logC]);have hl4:=zek hcf;have acc0:=Acc.made w 9 1;have HACC:=hid acc0;have HB0:=hid (acc0.below (B:=w.heap.size) lr lr);replace c4:=zaa HB0.out c4;clear acc0 hcf c0 c1 c2 c3;go_enter func36,ntmps36
 go_wp2_with fail
 refine(ziP d.log m _ XI.out.small.log (zaa HB0.out XI.out.max) (zaw XI.out.tab HB0.out) (zbk XI.out.syn HB0.out)).mono ?_;rintro e w1 ⟨LA,n,dd,rfl,s1,b1⟩;have HB1:=hid (zac HB0.out b1 lr);have HA1:=hid (((HACC.out.sl (lo:=w.heap.size) lr lr).on b1).low);have HNE:=hid (show∀b,inB LA b->¬inB (some (⟨w.heap.size,0,none⟩:Addr)) b from fun b hb ⟨ad,e,hh⟩=>by have h1:=(s1.inB_lt hb).1;injection e with e;subst e;simp at h1 hh;omega);have hll:(logR d.log).list.length=n:=by have:=s1.len;rw[zcQ] at this;omega
 have HS1:=hid s1.low;have HLL:=hid hll;have hn4:n<=4000:=by omega
 have hz1:=b1.size;clear b1 s1 c4 hl4 hll hz1;obtain⟨el,hel⟩:∃z,(logR d.log).list=z:=⟨_,rfl⟩
 have HEL:=hid hel;rw[hel] at HS1 HLL;have HEN:=hid (show∀x∈el,okEn x=true from fun x hx=>HLOK.out.ok x (by rw[hel];exact hx));clear hel;have hfd:=zqC LA n dd (logR d.log).stamp ((logR d.log).at_:Int)
 go_wp2_with fail
 go_loopw [36,363] (fun o i wr=>∃(k:Nat) (A':Option Addr) (d':Nat),k<=n/\i= .int .i64 (k:Int)/\o= .slice A' k d'/\Sl wr w.heap.size wr.heap.size 9 1 A' k d' (strs ((el.map entW).take k))/\Sl wr 0 wr.heap.size 145 3 LA n dd (ens el)/\(∀b,inB LA b->¬inB A' b)/\Below w.heap.size w wr) (fun _ i _=>n-(RowKit.intOf i).toNat)
 case atStart=>exact⟨0,_,_,Nat.zero_le _,rfl,rfl,HA1.out,HS1.out.wide (Nat.zero_le _) lr,HNE.out,HB1.out⟩
 case round=>
  obtain⟨k,A',d',hk,rfl,rfl,hacc,hrd,hnb,hbel⟩:=hrel;have HA:=hid hacc;have HR:=hid hrd;have HBr:=hid hbel;have HNB:=hid hnb;clear hacc hrd hfd hnb hbel;have hki:(0:Int)<=k:=by omega
  by_cases hlt:k<n
  ·obtain⟨x,b,off,he,rfl,hb,q0,q1,q2⟩:=zgN (HR.out.reads lr) hlt;have hx:=HEN.out x (List.mem_of_getElem? he);have hxb:=zdX hx;have hxw:=zfl hx;have HE:=hid (zgC (f:=entW) he);have hkn:(k:Int)<n:=by omega
   clear he hx
   go_upto_region 77 with fail
   obtain⟨u,hu⟩:∃y,wr.alloc (.cells #[.int .i64 x.day,.string x.what,.int .i64 x.val] 145)=y:=⟨_,rfl⟩
   have yu:Blk u wr.heap.size 145 #[.int .i64 x.day,.string x.what,.int .i64 x.val]:=by rw[<-hu];exact Blk.new _ _ _
   have bu:Below wr.heap.size wr u:=by rw[<-hu];exact bal _
   rw[hu];have HBu:=hid (zac HBr.out bu lr);have HAu:=hid (HA.out.on bu).low;have HRu:=hid (HR.out.on bu).low;have p0:=yu.cellAt 0 (by simp);have p1:=yu.cellAt 1 (by simp);have p2:=yu.cellAt 2 (by simp);simp only[ly] at p0 p1 p2;clear hu yu bu q0 q1 q2
   go_wp2_with fail
   refine(zrE x u (zcM (by omega) (by omega)) (zcM (by omega) (by omega)) (zaw XI.out.tab HBu.out) (by omega)).mono ?_;rintro e w6 ⟨rfl,b6⟩;have HA6:=hid (HAu.out.on b6).low;have HR6:=hid (HRu.out.on b6).low;have HB6:=hid (zac HBu.out b6 lr);have hz6:w.heap.size<=w6.heap.size:=HB6.out.size;clear b6 p0 p1 p2;have HW:=hid (show zab (itoa x.day)++⟨#[32]⟩++x.what++⟨#[32]⟩++zab (itoa x.val)=entW x from rfl);rw[HW.out]
   go_wp2_with (at_builtin;refine zat rfl _ _ 24 rfl 9 _ 1 16 underlying24 zbu rfl (by decide) (by decide) HA6.out hz6 rfl [.string (entW x)] w6.heap.size rfl rfl rfl (fun u hu=>by simp at hu;subst hu;rfl) (by omega) ?_;intro A7 d7 w9 hs9 b9 z9 f9 k9;have HS9:=hid hs9;have HB9:=hid b9;have HF9:=hid f9;have HK9:=hid k9;clear hs9 b9 z9 f9 k9)
   go_roundw
   case rel=>
    refine⟨k+1,A7,d7,by omega,by go_num,rfl,by rw[HE.out];exact HS9.out,(HR6.out.off (zb5 HB9.out HF9.out) (fun b hb hc=>HNB.out b hb hc)).low,fun b hb hc=>?_,HB6.out.trans HB9.out⟩;obtain⟨ad,e1,e2⟩:=hc;exact HK9.out b (HR6.out.inB_heap hb) (fun ad' e' hh'=>HNB.out b hb ⟨ad',e',hh'⟩) ad e1 e2
   case measure=>simp[RowKit.intOf];omega
  ·obtain rfl:n=k:=by omega
   have HT:=hid (show(el.map entW).take n=el.map entW by rw[List.take_of_length_le (by rw[List.length_map,HLL.out];exact Nat.le_refl _)]);have hsl:=HA.out;rw[HT.out] at hsl;have HS:=hid hsl;clear hsl
   go_wp2_with fail
   refine(zkp A' n d' w.heap.size _ wr HS.out HBr.out.size (by omega) (zaw XI.out.tab HBr.out)).mono ?_;rintro e w6 ⟨A7,c7,rfl,s7,b7,_⟩;have HS7:=hid s7;have HB7:=hid (HBr.out.trans b7);clear s7 b7;go_wp2;go_ret2;refine⟨A7,n+1,c7,by rw[HXF.out];rfl,h,rh,?_⟩;rw[HXF.out];refine XI.out.out HB7.out ?_;have h7:=HS7.out;show Sl _ _ _ _ _ _ _ _ (strs (okL _));unfold okL;rw[List.length_map,HEL.out,HLL.out];exact h7
theorem zj9(s:ByteArray)(x:En):(zaQ s x).1.size<=4000:=by
 unfold zaQ addG
 split
 ·split
  ·split
   ·split
    ·exact Nat.zero_le _
    ·rename_i h;exact Nat.not_lt.1 h
   ·exact Nat.zero_le _
  ·exact Nat.zero_le _
 ·exact Nat.zero_le _
theorem zmf(l:List En)(hl:∀x∈l,okEn x=true)(t:ByteArray):∀k,(∀v∈zb8 l t k,-1000000<=v/\v<=1000000)/\(zb8 l t k).length<=k
 |0=>⟨fun v hv=>(by cases hv),Nat.le_refl _⟩
 |k+1=>by
  have ih:=zmf l hl t k;rw[zb8]
  split
  ·exact⟨ih.1,by omega⟩
  ·rename_i x hx
   split
   ·have hb:=zdX (hl x (List.mem_of_getElem? hx));refine⟨fun v hv=>?_,by rw[List.length_append,List.length_singleton];omega⟩;rw[List.mem_append,List.mem_singleton] at hv;rcases hv with hv|rfl
    ·exact ih.1 v hv
    ·exact⟨hb.2.2.2.1,hb.2.2.2.2⟩
   ·exact⟨ih.1,by omega⟩
theorem zj4(s t:ByteArray):(∀v∈zbr s t,-1000000<=v/\v<=1000000)/\(zbr s t).length<=4000:=by
 by_cases hw:zbD s t=0
 ·rw[zj5 hw]
  have hc:za9 s=0:=by
   by_cases e:za9 s=0
   ·exact e
   ·rw[zis e] at hw;exact hw
  have h:=zmf (logR s).list (zeM s).ok t (logR s).list.length;have h4:=zek hc;exact⟨h.1,by omega⟩
 ·rw[zgs hw];exact⟨fun v hv=>(by cases hv),by simp⟩
theorem zgr{xs:List Int}(h:∀v∈xs,-1000000<=v/\v<=1000000):∀k:Nat,-1000000*(k:Int)<=zbq xs k/\zbq xs k<=1000000*(k:Int)
 |0=>by simp[zbq]
 |k+1=>by
  have ih:=zgr h k
  have hk:-1000000<=xs.getD k 0/\xs.getD k 0<=1000000:=by
   rw[List.getD_eq_getElem?_getD]
   cases e:xs[k]? with
   |none=>simp
   |some v=>exact h v (List.mem_of_getElem? e)
  rw[zbq];omega
theorem zmp {w:World} {lo g:Nat} {h:DkH} {d:Dk} {rh:List RnH} {WA NA:Option Addr} {wn nn:Nat} {ws:List ByteArray} {ns:List Int} {m:Int} (wc nc:Nat) (x:ExIn w lo g h d rh WA wn ws NA nn ns m) (h0:0 < wn) (hw:((zag ws 0).toList == [101,110,116,101,114]) = true) (hn:2 <= nn) (hw3:2 < wn) :
  Calls prog 36 #[.pointer (some ⟨g,0,none⟩),.slice WA wn wc,.slice NA nn nc] w fun e w'=>∃LA ln lc,e= .returned (.tuple #[.slice LA ln lc,.int .i64 (execF d ws ns).code])/\∃h' rh',zdO w w' lo g h' (execF d ws ns).dk rh' LA ln lc (execF d ws ns).lines:=by
 have HX:=hid (show execF d ws ns=zcR d ws ns by unfold execF;rw[eq_of_beq hw];rfl);have e0:=notW (l':=[110,101,116]) hw (by decide);have e1:=notW (l':=[119,97,121]) hw (by decide);have e2:=notW (l':=[116,105,109,101,115]) hw (by decide);have e3:=notW (l':=[114,117,110]) hw (by decide);have e4:=notW (l':=[114,117,110,115]) hw (by decide);have e5:=notW (l':=[102,114,101,101]) hw (by decide);have e6:=notW (l':=[115,101,97,114,99,104]) hw (by decide);have e7:=notW (l':=[115,116,117,99,107]) hw (by decide);have e8:=notW (l':=[113,117,101,117,101]) hw (by decide);have XI:=hid x;obtain⟨s,b0,o0,hs0,rfl,hb0,k0⟩:=zaP x.wsr h0;rw[Nat.add_zero] at k0
 have hsw:zag ws 0=s:=by unfold zag;rw[List.getD_eq_getElem?_getD,hs0];rfl
 rw[hsw] at hw e0 e1 e2 e3 e4 e5 e6 e7 e8;obtain⟨c0,c1,c2,c3,c4⟩:=zaq x.blk;obtain⟨n0,bn0,on0,hn0,hNA0,_,q0⟩:=zax x.nsr (k:=0) (by omega);subst hNA0;rw[Nat.add_zero] at q0;have HN0:=hid (show zal ns 0=n0 by unfold zal;rw[List.getD_eq_getElem?_getD,hn0];rfl);have hb0_:=x.nsb n0 (List.mem_of_getElem? hn0);obtain⟨n1,bn1,on1,hn1,hNA1,_,q1⟩:=zax x.nsr (k:=1) (by omega);injection hNA1 with hNA1;injection hNA1 with hNb1 hNo1;subst hNb1;subst hNo1;have HN1:=hid (show zal ns 1=n1 by unfold zal;rw[List.getD_eq_getElem?_getD,hn1];rfl);have hb1_:=x.nsb n1 (List.mem_of_getElem? hn1);have hi0:0<nn:=by omega
 have hii1:(1:Int)<nn:=by omega
 obtain⟨s2,bk2,ok2,hs2,hK2,_,k2⟩:=zaP x.wsr hw3;injection hK2 with hK2;injection hK2 with hKb hKo;subst hKb;subst hKo;have HW2:=hid (show zag ws 2=s2 by unfold zag;rw[List.getD_eq_getElem?_getD,hs2];rfl);have hsz2:=x.wsz s2 (List.mem_of_getElem? hs2);have hk2n:(2:Int)<wn:=by omega
 clear hs2;clear x hs0 hsw hn0 hn1;go_enter func36,ntmps36
 go_wp2_with fail
 refine ez (fun V=>Below w.heap.size w V) ?_ fun hHeld=>?_
 ·exact(Below.refl _ _).drew
 refine dq 0 rfl (h:=dq 1 rfl (h:=dq 2 rfl (h:=dq 3 rfl (hy:=by intro w hSw;(try dsimp only at hSw);(have y4:=zaa hSw c4);(try have z2:=zaa hSw q2);go_simp;try with_reducible rfl) (h:=dq 4 rfl (h:=dq 5 rfl (h:=dq 6 rfl (hy:=by intro w hSw;(try dsimp only at hSw);(try have z0:=zaa hSw q0);(try have z2:=zaa hSw q2);go_simp;try with_reducible rfl) (h:=dq 7 rfl (h:=?_))))))))
 refine dq 8 rfl (h:=dq 9 rfl (hy:=by intro w hSw;(try dsimp only at hSw);(try have z2:=zaa hSw q2);(have zk2:=zaa hSw k2);go_simp;try with_reducible rfl) (h:=dq 10 rfl (h:=dq 11 rfl (h:=dq 12 rfl (hy:=by intro w hSw;(try dsimp only at hSw);(try have z1:=zaa hSw q1);(try have z2:=zaa hSw q2);go_simp;try with_reducible rfl) (h:=dq 13 rfl (h:=?_))))));refine rd 14 rfl fun K hK=>?_;go_simp;refine(zji d.log ⟨n0,s2,n1⟩ m _ XI.out.small.log ⟨hb0_,by show s2.size<=9223372036854775807;omega,hb1_⟩ (by show s2.size<=1048576;exact hsz2) (zaa hHeld XI.out.max) (zaw XI.out.tab hHeld) (zbk XI.out.syn hHeld)).mono ?_;rintro e w5 ⟨rfl,b5⟩
 go_wp2_with fail
 refine ke hK ?_ ?_
 ·exact zac hHeld b5 lr
 clear hK K hHeld;intro hHeld;refine dq 15 rfl (h:=dq 16 rfl (h:=dq 17 rfl (h:=dq 18 rfl (h:=dq 19 rfl (h:=?_)))));refine dn ?_;have HB5:=hid hHeld;clear hHeld;have HSZ:=hid (zj9 d.log ⟨n0,s2,n1⟩);obtain⟨ae,hae⟩:∃z,zaQ d.log ⟨n0,s2,n1⟩=z:=⟨_,rfl⟩
 rw[hae] at HSZ⊢;have HX2:=hid (show execF d ws ns=if ae.2≠0 then ⟨d,[],ae.2⟩ else ⟨⟨d.net,d.times,d.runs,ae.1⟩,[zab (itoa (zbq (zbr ae.1 s2) (zbr ae.1 s2).length))],zbD ae.1 s2⟩ by rw[HX.out,zcR,HN0.out,HN1.out,HW2.out,hae]);clear hae;obtain⟨lg,ac⟩:=ae;simp only at HSZ HX2;replace c4:=zaa HB5.out c4;clear c0 c1 c2 c3;by_cases hc:ac=0;rotate_left
 ·have HXF:=hid (show execF d ws ns=⟨d,[],ac⟩ by rw[HX2.out,if_pos hc]);have hcd:(ac !=0)=true:=by simpa using hc
  clear hc;go_wp2;go_ret2;exact⟨none,0,0,by rw[HXF.out];rfl,h,rh,by rw[HXF.out];exact XI.out.out HB5.out (Sl.nil _ _ _ _ _)⟩
 subst hc;have HXF:=hid (show execF d ws ns=⟨⟨d.net,d.times,d.runs,lg⟩,[zab (itoa (zbq (zbr lg s2) (zbr lg s2).length))],zbD lg s2⟩ by rw[HX2.out,if_neg (by simp)]);have Y5:=XI.out.blk.on HB5.out;have f4:=Y5.frozen 4;have HY5:=hid Y5;clear Y5
 go_upto_region 71 with fail
 obtain⟨u,hu⟩:∃y,w5.setCell ⟨g,4,none⟩ (.string lg)=y:=⟨_,rfl⟩
 have ho:Only g (g+1) w5 u:=by rw[<-hu];exact(Only.refl g (g+1) w5).setCell (p:=⟨g,4,none⟩) lr (Nat.lt_succ_self _) _
 have yu:Blk u g 32 #[.int .i64 d.net.sta,.slice h.A1 h.n1 h.c1,.slice h.A2 h.n2 h.c2,.slice h.A3 h.n3 h.c3,.string lg]:=by
  rw[<-hu];have:=HY5.out.set_ 4 (.string lg);simpa using this
 rw[hu];have hgw:=XI.out.blk.lt;have hgl:=XI.out.glo;have bu:Below lo w u:=(HB5.out.mono (by omega)).trans (ho.below (by omega) (by have:=HB5.out.size;omega));have ou:=((XI.out.own.on HB5.out).off (S:=fun b=>b=g) ⟨ho.os,ho.tape,ho.output,ho.size,fun k hk hn=>ho.block k hk (by omega)⟩ (fun b hb=>XI.out.gne b hb)).low;have on_:OwnD u lo u.heap.size h ⟨d.net,d.times,d.runs,lg⟩ rh:=⟨ou.tubes,ou.times,ou.runs,ou.n12,ou.n1r,ou.n2r⟩
 have d4:=yu.cellAt 4 (by simp);simp only[ly] at d4;have k2u:=(bu.cell (p:=⟨b0,o0+2,none⟩) hb0).trans k2;have HYU:=hid yu;have HBU:=hid bu;have HON:=hid on_;have HLU:=hid (show lo<=u.heap.size by have:=HB5.out.size;have:=ho.size;omega);clear hu ho yu hgw hgl bu ou on_ c4 f4 k0 k2;refine ez (fun V=>Below u.heap.size u V) ?_ fun hHeld=>?_
 ·exact(Below.refl _ _).drew
 refine dq 0 rfl (h:=dq 1 rfl (h:=dq 2 rfl (h:=dq 3 rfl (hy:=by intro w hSw;(try dsimp only at hSw);(have y4:=zaa hSw d4);go_simp;try with_reducible rfl) (h:=dq 4 rfl (h:=dq 5 rfl (h:=dq 6 rfl (hy:=by intro w hSw;(try dsimp only at hSw);(have zk2:=zaa hSw k2u);go_simp;try with_reducible rfl) (h:=?_)))))));refine rd 7 rfl fun K hK=>?_;go_simp;refine(zjk lg s2 m _ (by have:=HSZ.out;omega) hsz2 (zhW XI.out.max XI.out.low (HBU.out.trans (hHeld.mono HLU.out))) (zdM XI.out.tab XI.out.low (HBU.out.trans (hHeld.mono HLU.out))) (zfZ XI.out.syn XI.out.low (HBU.out.trans (hHeld.mono HLU.out)))).mono ?_;rintro e w7 ⟨A7,n7,d7,rfl,s7,b7⟩;have HS7:=hid s7
 go_wp2_with fail
 refine ke hK ?_ ?_
 ·exact zac hHeld b7 lr
 clear hK K hHeld;intro hHeld;refine dq 8 rfl (h:=dq 9 rfl (h:=dq 10 rfl (h:=dq 11 rfl (h:=dq 12 rfl (h:=?_)))));refine dn ?_;have HB7:=hid hHeld;clear hHeld;have hvb:=zj4 lg s2;have hvl:=zai (HS7.out.reads lr);have hsb:=zgr hvb.1 (zbr lg s2).length;have HVB:=hid hvb;have HIB:=hid (show i64b (zbq (zbr lg s2) (zbr lg s2).length) from⟨by omega,by omega⟩);have hn7:n7<=4000:=by omega
 have HVL:=hid hvl;clear hvb hvl hsb
 go_wp2_with fail
 refine(zr2 A7 n7 d7 w7.heap.size (zbr lg s2) w7 (HS7.out.reads lr) (by omega) (fun x hx=>by have:=HVB.out.1 x hx;omega)).mono ?_;rintro e w8 ⟨rfl,rfl⟩;rw[<-HVL.out]
 go_wp2_with fail
 refine(zaL (zbq (zbr lg s2) (zbr lg s2).length) w7 HIB.out.1 HIB.out.2 (zdM XI.out.tab XI.out.low (HBU.out.trans (HB7.out.mono HLU.out)))).mono ?_;rintro e w9 ⟨rfl,b9⟩;have HB9:=hid (zac HB7.out b9 lr);clear b9;go_wp2;go_ret2;have hz:=HB9.out.size;have b8:=HB9.out.alloc hz (.cells #[.string (zab (itoa (zbq (zbr lg s2) (zbr lg s2).length)))] 9);have s8:=Sl.one9 (W:=w9) (s:=zab (itoa (zbq (zbr lg s2) (zbr lg s2).length))) hz;have hgw:=HYU.out.lt;have hlu:=HLU.out;refine⟨_,_,_,by rw[HXF.out];rfl,h,rh,?_⟩;rw[HXF.out];refine⟨HYU.out.on b8,(HON.out.on b8).wide lr b8.size,XI.out.gne,s8.wide (by omega) lr,fun b hb hd=>?_,fun b hb e=>?_,HBU.out.trans (b8.mono (by omega))⟩
 ·have:=s8.inB_lt hb;have:=HON.out.inD_lt hd;omega
 ·have:=s8.inB_lt hb;omega
theorem zna:(prog.info? 132).map (fun i=>(i.zero,i.size,i.bytes))=some (some (.agg #[.int .i64 0,.int .i64 0]),2,16):=by kernel_rfl
theorem zgx:∀(k:Nat) (l:List Int) (a b:Int),l[2*k]?=some a->l[2*k+1]?=some b->(zaW l)[k]?=some (a,b)
 |0,[],a,b,h,_=>by simp at h
 |0,[x],a,b,_,h=>by simp at h
 |0,x::y::l,a,b,h1,h2=>by
  simp at h1 h2;subst h1;subst h2
  rfl
 |k+1,[],a,b,h,_=>by simp at h
 |k+1,[x],a,b,h,_=>by simp at h
 |k+1,x::y::l,a,b,h1,h2=>by
  rw[show 2*(k+1)=2*k+1+1 by omega] at h1 h2;rw[List.getElem?_cons_succ,List.getElem?_cons_succ] at h1 h2;show(zaW l)[k]?=some (a,b);exact zgx k l a b h1 h2
theorem znd(l:List Int)(a b:Int):ints (l++ [a,b])=ints l++ [.int .i64 a,.int .i64 b]:=by simp[ints]
theorem zgR:∀{l:List Tl}{k:Nat}{x:Tl},l[k]?=some x->zbJ (l.take (k+1))=zbJ (l.take k)++ [x.1,x.2]
 | [],k,x,h=>by simp at h
 |y::r,0,x,h=>by
  simp at h;subst h;obtain⟨a,b⟩:=y;simp[zbJ]
 |y::r,k+1,x,h=>by
  obtain⟨a,b⟩:=y;rw[List.getElem?_cons_succ] at h;rw[List.take_succ_cons,List.take_succ_cons,zbJ,zbJ,zgR h]
  rfl
theorem zlK:∀(l:List Sn) (i:Nat),(outI l i).length<=l.length
 | [],_=>Nat.le_refl _
 |s::r,i=>by
  have ih:=zlK r (i+1);rw[outI,List.length_append,List.length_cons]
  split
  ·rw[List.length_singleton];omega
  ·split
   ·rw[List.length_singleton];omega
   ·rw[List.length_nil];omega
theorem zg2(D:Int)(ts:List Tl):(za5 D ts).1.length<=16:=by
 unfold za5
 split
 ·simp
 ·rename_i h
  split
  ·simp
  ·have hok:okTr D ts=true:=by simpa using h
   have hD:1<=D/\D<=4:=by
    unfold okTr at hok;rw[Bool.and_eq_true] at hok;exact zam.1 hok.1
   have h1:=zlK (zaO D.toNat ts) 0;rw[zeu] at h1;have:D.toNat=1\/D.toNat=2\/D.toNat=3\/D.toNat=4:=by omega
   show(outI (zaO D.toNat ts) 0).length<=16;rcases this with e|e|e|e<;>rw[e] at h1⊢<;>omega
theorem zgy:∀(p:Nat) (l:List Int),l.length=2*p->(zaW l).length=p
 |0,[],_=>rfl
 |0,x::l,h=>by simp at h
 |p+1,[],h=>by simp at h
 |p+1,[x],h=>by simp at h;omega
 |p+1,x::y::l,h=>by
  show((x,y)::zaW l).length=p+1;rw[List.length_cons,zgy p l (by simp at h;omega)]
theorem zmr {w:World} {lo g:Nat} {h:DkH} {d:Dk} {rh:List RnH} {WA NA:Option Addr} {wn nn:Nat} {ws:List ByteArray} {ns:List Int} {m:Int} (wc nc:Nat) (x:ExIn w lo g h d rh WA wn ws NA nn ns m) (h0:0 < wn) (hw:((zag ws 0).toList == [115,116,117,99,107]) = true) (hn:1 <= nn) :
  Calls prog 36 #[.pointer (some ⟨g,0,none⟩),.slice WA wn wc,.slice NA nn nc] w fun e w'=>∃LA ln lc,e= .returned (.tuple #[.slice LA ln lc,.int .i64 (execF d ws ns).code])/\∃h' rh',zdO w w' lo g h' (execF d ws ns).dk rh' LA ln lc (execF d ws ns).lines:=by
 have HX:=hid (show execF d ws ns=zcF d ns by unfold execF;rw[eq_of_beq hw];rfl);have e0:=notW (l':=[110,101,116]) hw (by decide);have e1:=notW (l':=[119,97,121]) hw (by decide);have e2:=notW (l':=[116,105,109,101,115]) hw (by decide);have e3:=notW (l':=[114,117,110]) hw (by decide);have e4:=notW (l':=[114,117,110,115]) hw (by decide);have e5:=notW (l':=[102,114,101,101]) hw (by decide);have e6:=notW (l':=[115,101,97,114,99,104]) hw (by decide);have XI:=hid x;obtain⟨s,b0,o0,hs0,rfl,hb0,k0⟩:=zaP x.wsr h0;rw[Nat.add_zero] at k0;have hsw:zag ws 0=s:=by unfold zag;rw[List.getD_eq_getElem?_getD,hs0];rfl
 rw[hsw] at hw e0 e1 e2 e3 e4 e5 e6;obtain⟨c0,c1,c2,c3,c4⟩:=zaq x.blk;obtain⟨n0,bn0,on0,hn0,hNA0,_,q0⟩:=zax x.nsr (k:=0) (by omega);subst hNA0;rw[Nat.add_zero] at q0;have HN0:=hid (show zal ns 0=n0 by unfold zal;rw[List.getD_eq_getElem?_getD,hn0];rfl);have hi0:0<nn:=by omega
 clear x hs0 hsw hn0;have hnl:=zai XI.out.nsr;have HXS:=hid (show execF d ws ns=if nn%2=0 then ⟨d,[],7⟩ else ⟨d,[zab (zaI (zbJ (za5 n0 (zaW (ns.drop 1))).1))],(za5 n0 (zaW (ns.drop 1))).2⟩ by rw[HX.out,zcF,HN0.out,hnl]);have HNL:=hid hnl;have acc0:=Acc.made w 132 2;have HS0:=hid (acc0.sl (lo:=w.heap.size) lr lr);have HB0:=hid (acc0.below (B:=w.heap.size) lr lr);have hnn9:=XI.out.nl;clear acc0 hnl c0 c1 c2 c3 c4;by_cases hpar:nn%2=0
 ·have HXF:=hid (show execF d ws ns=⟨d,[],7⟩ by rw[HXS.out,if_pos hpar])
  have hp2:((nn:Int)%2==0)=true:=by
   rw[beq_iff_eq];omega
  clear hpar;go_enter func36,ntmps36;go_wp2;go_ret2;exact⟨none,0,0,by rw[HXF.out];rfl,h,rh,by rw[HXF.out];exact XI.out.out (Below.refl _ _) (Sl.nil _ _ _ _ _)⟩
 have HXF:=hid (show execF d ws ns=⟨d,[zab (zaI (zbJ (za5 n0 (zaW (ns.drop 1))).1))],(za5 n0 (zaW (ns.drop 1))).2⟩ by rw[HXS.out,if_neg hpar])
 have hp2:((nn:Int)%2==0)=false:=by
  rw[beq_eq_false_iff_ne];omega
 obtain⟨p,hp⟩:∃p,nn=2*p+1:=⟨nn/2,by omega⟩
 have HP:=hid hp;clear hpar hp;go_enter func36,ntmps36
 go_wp2_with fail
 go_loopw [22,23] (fun o i wr=>∃(k j:Nat) (A':Option Addr) (d':Nat),k<=p/\j=1+2*k/\i= .int .i64 (j:Int)/\o= .slice A' k d'/\Sl wr w.heap.size wr.heap.size 132 2 A' k d' (tls ((zaW (ns.drop 1)).take k))/\Below w.heap.size w wr) (fun _ i _=>nn-(RowKit.intOf i).toNat)
 case atStart=>exact⟨0,1,_,_,Nat.zero_le _,rfl,rfl,rfl,HS0.out,HB0.out⟩
 case round=>
  obtain⟨k,j,A',d',hk,hj,rfl,rfl,hsl,hbel⟩:=hrel;have HS:=hid hsl;have HBr:=hid hbel;have HJ:=hid hj;have hj1:1<=j:=by omega
  have hj2:j<=1048577:=by have:=HP.out;omega
  clear hsl hbel hj;by_cases hlt:k<p
  ·have hjn:j+1<nn:=by have:=HP.out;have:=HJ.out;omega
   obtain⟨xa,ba,oa,hxa,hAa,_,q1⟩:=zax (XI.out.nsr.on lr HBr.out) (k:=j) (by omega);injection hAa with hAa;injection hAa with hAb hAo;subst hAb;subst hAo;obtain⟨xb,bb,ob,hxb,hBa,hbb,q2⟩:=zax (XI.out.nsr.on lr HBr.out) (k:=j+1) (by omega);injection hBa with hBa;injection hBa with hBb hBo;subst hBb;subst hBo;have HPG:=hid (zgx k (ns.drop 1) xa xb (by rw[List.getElem?_drop,<-hxa,HJ.out]) (by rw[List.getElem?_drop,<-hxb,HJ.out];congr 1));have HTK:=hid (show(zaW (ns.drop 1)).take (k+1)=(zaW (ns.drop 1)).take k++ [(xa,xb)] by rw[List.take_add_one,HPG.out];rfl);have hj0:(0:Int)<=j:=by omega
   have hjl:(j:Int)<nn:=by omega
   have hjl2:(j:Int)+1<nn:=by omega
   have hk9:k<=1048577:=by have:=HP.out;omega
   have hz:w.heap.size<=wr.heap.size:=HBr.out.size;clear hxa hxb
   have hw1:IntKind.i64.wrap ((j:Int)+1)=((j+1:Nat):Int):=by
    unfold IntKind.wrap;simp[IntKind.bits,IntKind.signed];omega
   have hw2:(((j+1:Nat):Int)).toNat=j+1:=by omega
   have hw4:(0:Int)<=(j:Int)+1:=by omega
   go_upto_region 47 with fail
   refine ez (fun V=>V.cell? ⟨bn0,on0+j,none⟩=some (.int .i64 xa)/\V.cell? ⟨bn0,on0+(j+1),none⟩=some (.int .i64 xb)) ?_ fun hHeld=>?_
   ·exact⟨q1,q2⟩
   refine dq 0 rfl (h:=dq 1 rfl (h:=dq 2 rfl (h:=dq 3 rfl (h:=dq 4 rfl (h:=dq 5 rfl (h:=dq 6 rfl (h:=dq 7 rfl (h:=?_))))))));refine dq 8 rfl (h:=dq 9 rfl (h:=dq 10 rfl (h:=?_)));refine rd 11 rfl fun K hK=>?_;go_simp;refine ke hK ?_ ?_
   ·exact⟨zaa (bal _) hHeld.1,zaa (bal _) hHeld.2⟩
   clear hK K hHeld;intro hHeld;refine rd 12 rfl fun K hK=>?_;refine zbH rfl _ _ 130 rfl 132 _ 2 16 underlying130 zna rfl (by decide) (by decide) HS.out.drew hz rfl (zcL (xa,xb)) wr.heap.size rfl rfl rfl (zir _) (by omega) ?_;intro A9 d9 w9 hs9 b9 f9 k9;refine ke hK ?_ ?_
   ·exact⟨(b9.cell (p:=⟨bn0,on0+j,none⟩) hbb).trans q1,(b9.cell (p:=⟨bn0,on0+(j+1),none⟩) hbb).trans q2⟩
   clear hK K hHeld;intro hHeld;refine dq 13 rfl (h:=?_);refine dn ?_;have HF:=hid hs9;have HBF:=hid (HBr.out.drew.trans b9);clear hHeld hs9 b9 f9 k9 q1 q2;go_wp2
   go_roundw
   case rel=>exact⟨k+1,j+2,A9,d9,by omega,by have:=HJ.out;omega,by go_num,rfl,by rw[HTK.out,<-zga];exact HF.out,HBF.out⟩
   case measure=>simp[RowKit.intOf];omega
  ·obtain rfl:p=k:=by omega
   have hpl:=zgy p (ns.drop 1) (by rw[List.length_drop,HNL.out,HP.out];omega);obtain⟨ts,hts⟩:∃z,zaW (ns.drop 1)=z:=⟨_,rfl⟩
   rw[hts] at hpl HS;have HS2:=hid (show Sl wr w.heap.size wr.heap.size 132 2 A' p d' (tls ts) by have h:=HS.out;rwa[List.take_of_length_le (by omega)] at h);have HXG:=hid (show execF d ws ns=⟨d,[zab (zaI (zbJ (za5 n0 ts).1))],(za5 n0 ts).2⟩ by rw[HXF.out,hts]);have hjn:¬(j:Int)<nn:=by have:=HP.out;have:=HJ.out;omega
   have hp9:p<=1048576:=by have:=HP.out;omega
   replace q0:=zaa HBr.out q0;clear hts hpl HS
   go_wp2_with fail
   refine(zmt n0 A' p d' wr.heap.size ts wr (HS2.out.reads lr) lr hp9).mono ?_;rintro e w6 ⟨A6,n6,d6,rfl,s6,b6⟩;have HB6:=hid (zac HBr.out b6 lr);have HR6:=hid (s6.reads lr);have HS6:=hid s6;have HFB:=hid (zio n0 ts);have HLL:=hid (zg2 n0 ts);obtain⟨sf,hsf⟩:∃z,za5 n0 ts=z:=⟨_,rfl⟩
   rw[hsf] at HXG HR6 HFB HS6 HLL⊢;have HN6:=hid (zey HR6.out);clear s6 b6 hsf q0;have acc6:=Acc.made w6 2 1;have HA6:=hid (acc6.sl (lo:=w.heap.size) HB6.out.size HB6.out.size);have HB7:=hid (HB6.out.trans ((acc6.below (B:=w6.heap.size) lr lr).mono HB6.out.size));have HS7:=hid (HS6.out.on (acc6.below (B:=w6.heap.size) lr lr));have HNE:=hid (show∀b,inB A6 b->¬inB (some (⟨w6.heap.size,0,none⟩:Addr)) b from fun b hb ⟨ad,e,hh⟩=>by have h1:=(HS6.out.inB_lt hb).2;injection e with e;subst e;simp at hh;omega);have hn6:n6<=100:=by have:=HN6.out;have:=HLL.out;omega
   clear acc6
   go_wp2_with fail
   go_loopw [26,256] (fun o i wq=>∃(k:Nat) (A':Option Addr) (d':Nat),k<=n6/\i= .int .i64 (k:Int)/\o= .slice A' (2*k) d'/\Sl wq w.heap.size wq.heap.size 2 1 A' (2*k) d' (ints (zbJ (sf.1.take k)))/\Sl wq 0 wq.heap.size 137 2 A6 n6 d6 (tls sf.1)/\(∀b,inB A6 b->¬inB A' b)/\Below w.heap.size w wq) (fun _ i _=>n6-(RowKit.intOf i).toNat)
   case atStart=>exact⟨0,_,_,Nat.zero_le _,rfl,rfl,HA6.out,(HS7.out.wide (Nat.zero_le _) lr).low,HNE.out,HB7.out⟩
   case round=>
    obtain⟨k,A',d',hk,rfl,rfl,hacc,hrd,hnb,hbel⟩:=hrel
    rename World=>wq
    have HA:=hid hacc;have HR:=hid hrd;have HBq:=hid hbel;have HNB:=hid hnb;clear hacc hrd hnb hbel;have hki:(0:Int)<=k:=by omega
    by_cases hlt:k<n6
    ·obtain⟨x,b,off,he,rfl,hb,q0,q1⟩:=zi8 (HR.out.reads lr) hlt;have HE:=hid (zgR he);have hkn:(k:Int)<n6:=by omega
     clear he
     go_upto_region 53 with fail
     obtain⟨u,hu⟩:∃y,wq.alloc (.cells #[.int .i64 x.1,.int .i64 x.2] 137)=y:=⟨_,rfl⟩
     have yu:Blk u wq.heap.size 137 #[.int .i64 x.1,.int .i64 x.2]:=by rw[<-hu];exact Blk.new _ _ _
     have bu:Below wq.heap.size wq u:=by rw[<-hu];exact bal _
     rw[hu];have HBu:=hid (zac HBq.out bu lr);have HAu:=hid (HA.out.on bu).low;have HRu:=hid (HR.out.on bu).low;have p0:=yu.cellAt 0 (by simp);have p1:=yu.cellAt 1 (by simp);simp only[ly] at p0 p1;clear hu yu bu q0 q1;obtain⟨U,hU⟩:∃y,u.alloc (.cells #[.int .i64 x.1,.int .i64 x.2] 2)=y:=⟨_,rfl⟩
     have yU:Blk U u.heap.size 2 #[.int .i64 x.1,.int .i64 x.2]:=by rw[<-hU];exact Blk.new _ _ _
     have bU:Below u.heap.size u U:=by rw[<-hU];exact bal _
     have HBU:=hid (zac HBu.out bU lr);have HAU:=hid (HAu.out.on bU).low;have HRU:=hid (HRu.out.on bU).low;have HCU:=hid (zad.cells (yU.readsL (xs:=[.int .i64 x.1,.int .i64 x.2]) (n:=2) (size:=1) rfl));have hUz:=HBU.out.size;have HhU:=hid hU;clear yU bU hU
     go_wp2_with (at_builtin;rw[HhU.out];refine zg6 rfl _ _ 29 rfl 2 _ 1 8 underlying29 zaX rfl (by decide) (by decide) HAU.out hUz rfl u.heap.size 0 2 2 [.int .i64 x.1,.int .i64 x.2] rfl rfl HCU.out (fun v hv=>by simp at hv;rcases hv with rfl|rfl<;>rfl) (by decide) (by omega) ?_;intro A9 d9 w9 hs9 b9 f9 k9;have HS9:=hid hs9;have HB9:=hid b9;have HF9:=hid f9;have HK9:=hid k9;clear hs9 b9 f9 k9)
     go_roundw
     case rel=>
      refine⟨k+1,A9,d9,by omega,by go_num,rfl,by rw[HE.out,znd];exact HS9.out,(HRU.out.off (zb5 HB9.out HF9.out) (fun b hb hc=>HNB.out b hb hc)).low,fun b hb hc=>?_,HBU.out.trans HB9.out⟩;obtain⟨ad,e1,e2⟩:=hc;exact HK9.out b (HRU.out.inB_heap hb) (fun ad' e' hh'=>HNB.out b hb ⟨ad',e',hh'⟩) ad e1 e2
     case measure=>simp[RowKit.intOf];omega
    ·obtain rfl:n6=k:=by omega
     have HT:=hid (show sf.1.take n6=sf.1 by rw[List.take_of_length_le (by have:=HN6.out;omega)]);have hsl:=HA.out;rw[HT.out] at hsl;have HS:=hid hsl;clear hsl
     go_wp2_with fail
     refine(zcV A' (2*n6) d' wq.heap.size (zbJ sf.1) wq (HS.out.reads lr) lr (by omega) HFB.out (zaw XI.out.tab HBq.out)).mono ?_;rintro e w7 ⟨rfl,b7⟩;have HB8:=hid (zac HBq.out b7 lr);clear b7;go_wp2;go_ret2;have hz:=HB8.out.size;exact⟨_,_,_,by rw[HXG.out];rfl,h,rh,by rw[HXG.out];exact XI.out.out (HB8.out.alloc hz _) (Sl.one9 hz)⟩
theorem zmZ:(prog.info? 140).map (fun i=>(i.zero,i.size,i.bytes))=some (some (.agg #[.int .i64 0,.int .i64 0,.int .i64 0]),3,24):=by kernel_rfl
theorem zl5(l:List It)(a b c:Int):its (l++ [⟨a,b,c⟩])=its l++ [.int .i64 a,.int .i64 b,.int .i64 c]:=by
 unfold its;rw[List.map_append];show tbs (l.map itT++ [⟨a,b,c⟩])=_;unfold tbs;rw[List.flatMap_append]
 rfl
theorem zhI:∀(k:Nat) (l:List Int) (a b c:Int),l[3*k]?=some a->l[3*k+1]?=some b->l[3*k+2]?=some c->(zb1 l)[k]?=some ⟨a,b,c⟩
 |0,[],a,b,c,h,_,_=>by simp at h
 |0,[x],a,b,c,_,h,_=>by simp at h
 |0,[x,y],a,b,c,_,_,h=>by simp at h
 |0,x::y::z::l,a,b,c,h1,h2,h3=>by
  simp at h1 h2 h3;subst h1;subst h2;subst h3
  rfl
 |k+1,[],a,b,c,h,_,_=>by simp at h
 |k+1,[x],a,b,c,h,_,_=>by
  rw[show 3*(k+1)=3*k+2+1 by omega] at h;simp at h
 |k+1,[x,y],a,b,c,h,_,_=>by
  rw[show 3*(k+1)=3*k+1+1+1 by omega] at h;simp at h
 |k+1,x::y::z::l,a,b,c,h1,h2,h3=>by
  rw[show 3*(k+1)=3*k+1+1+1 by omega] at h1 h2 h3;rw[List.getElem?_cons_succ,List.getElem?_cons_succ,List.getElem?_cons_succ] at h1;rw[show 3*k+1+1+1+1=(3*k+1)+1+1+1 by omega,List.getElem?_cons_succ,List.getElem?_cons_succ,List.getElem?_cons_succ] at h2;rw[show 3*k+1+1+1+2=(3*k+2)+1+1+1 by omega,List.getElem?_cons_succ,List.getElem?_cons_succ,List.getElem?_cons_succ] at h3;show(zb1 l)[k]?=some ⟨a,b,c⟩;exact zhI k l a b c h1 h2 h3
theorem zhJ:∀(p:Nat) (l:List Int),l.length=3*p->(zb1 l).length=p
 |0,[],_=>rfl
 |0,x::l,h=>by simp at h
 |p+1,[],h=>by simp at h
 |p+1,[x],h=>by simp at h;omega
 |p+1,[x,y],h=>by simp at h;omega
 |p+1,x::y::z::l,h=>by
  show((⟨x,y,z⟩:It)::zb1 l).length=p+1;rw[List.length_cons,zhJ p l (by simp at h;omega)]
theorem ztO{l:List It}{o R:List Int}{t:Int}(h:Sv l o t R)(ho:o.length<=l.length):R.length<=l.length:=by
 induction h with
 |done _=>exact ho
 |idle _ _ _ ih=>exact ih ho
 |step hlt _ _ ih=>exact ih (by rw[List.length_append,List.length_singleton];omega)
theorem zjy(l:List It):(srvC l).1.length<=12:=by
 unfold srvC
 split
 ·simp
 ·rename_i h;have hok:okQ l=true:=by simpa using h
  have h1:=zpe hok;have h2:=ztO (zk7 hok) (by simp);show(svR l).length<=12;omega
theorem zmq {w:World} {lo g:Nat} {h:DkH} {d:Dk} {rh:List RnH} {WA NA:Option Addr} {wn nn:Nat} {ws:List ByteArray} {ns:List Int} {m:Int} (wc nc:Nat) (x:ExIn w lo g h d rh WA wn ws NA nn ns m) (h0:0 < wn) (hw:((zag ws 0).toList == [113,117,101,117,101]) = true) :
  Calls prog 36 #[.pointer (some ⟨g,0,none⟩),.slice WA wn wc,.slice NA nn nc] w fun e w'=>∃LA ln lc,e= .returned (.tuple #[.slice LA ln lc,.int .i64 (execF d ws ns).code])/\∃h' rh',zdO w w' lo g h' (execF d ws ns).dk rh' LA ln lc (execF d ws ns).lines:=by
 have HX:=hid (show execF d ws ns=queueC d ns by unfold execF;rw[eq_of_beq hw];rfl);have e0:=notW (l':=[110,101,116]) hw (by decide);have e1:=notW (l':=[119,97,121]) hw (by decide);have e2:=notW (l':=[116,105,109,101,115]) hw (by decide);have e3:=notW (l':=[114,117,110]) hw (by decide);have e4:=notW (l':=[114,117,110,115]) hw (by decide);have e5:=notW (l':=[102,114,101,101]) hw (by decide);have e6:=notW (l':=[115,101,97,114,99,104]) hw (by decide);have e7:=notW (l':=[115,116,117,99,107]) hw (by decide);have XI:=hid x;obtain⟨s,b0,o0,hs0,rfl,hb0,k0⟩:=zaP x.wsr h0;rw[Nat.add_zero] at k0;have hsw:zag ws 0=s:=by unfold zag;rw[List.getD_eq_getElem?_getD,hs0];rfl
 rw[hsw] at hw e0 e1 e2 e3 e4 e5 e6 e7;obtain⟨c0,c1,c2,c3,c4⟩:=zaq x.blk;clear x hs0 hsw;have hnl:=zai XI.out.nsr;have HXS:=hid (show execF d ws ns=if nn%3≠0 then ⟨d,[],7⟩ else ⟨d,[zab (zaI (srvC (zb1 ns)).1)],(srvC (zb1 ns)).2⟩ by rw[HX.out,queueC,hnl]);have HNL:=hid hnl;have acc0:=Acc.made w 140 3;have HS0:=hid (acc0.sl (lo:=w.heap.size) lr lr);have HB0:=hid (acc0.below (B:=w.heap.size) lr lr);have hnn9:=XI.out.nl;clear acc0 hnl c0 c1 c2 c3 c4;by_cases hpar:nn%3=0;rotate_left
 ·have HXF:=hid (show execF d ws ns=⟨d,[],7⟩ by rw[HXS.out,if_pos hpar])
  have hp3:((nn:Int)%3 !=0)=true:=by
   rw[bne_iff_ne];omega
  clear hpar;go_enter func36,ntmps36;go_wp2;go_ret2;exact⟨none,0,0,by rw[HXF.out];rfl,h,rh,by rw[HXF.out];exact XI.out.out (Below.refl _ _) (Sl.nil _ _ _ _ _)⟩
 have HXF:=hid (show execF d ws ns=⟨d,[zab (zaI (srvC (zb1 ns)).1)],(srvC (zb1 ns)).2⟩ by rw[HXS.out,if_neg (by omega)])
 have hp3:((nn:Int)%3 !=0)=false:=by
  rw[bne_eq_false_iff_eq];omega
 obtain⟨p,hp⟩:∃p,nn=3*p:=⟨nn/3,by omega⟩
 have HP:=hid hp;clear hpar hp;go_enter func36,ntmps36
 go_wp2_with fail
 go_loopw [29,30] (fun o i wr=>∃(k j:Nat) (A':Option Addr) (d':Nat),k<=p/\j=3*k/\i= .int .i64 (j:Int)/\o= .slice A' k d'/\Sl wr w.heap.size wr.heap.size 140 3 A' k d' (its ((zb1 ns).take k))/\Below w.heap.size w wr) (fun _ i _=>nn-(RowKit.intOf i).toNat)
 case atStart=>exact⟨0,0,_,_,Nat.zero_le _,rfl,rfl,rfl,HS0.out,HB0.out⟩
 case round=>
  obtain⟨k,j,A',d',hk,hj,rfl,rfl,hsl,hbel⟩:=hrel;have HS:=hid hsl;have HBr:=hid hbel;have HJ:=hid hj;have hj2:j<=1048577:=by have:=HP.out;omega
  clear hsl hbel hj;by_cases hlt:k<p
  ·have hjn:j+2<nn:=by have:=HP.out;have:=HJ.out;omega
   obtain⟨xa,ba,oa,hxa,hAa,hba,q1⟩:=zax (XI.out.nsr.on lr HBr.out) (k:=j) (by omega);subst hAa;obtain⟨xb,bb,ob,hxb,hBb,hbb,q2⟩:=zax (XI.out.nsr.on lr HBr.out) (k:=j+1) (by omega);injection hBb with hBb;injection hBb with hBb hBo;subst hBb;subst hBo;obtain⟨xc,bc,oc,hxc,hCb,hbc,q3⟩:=zax (XI.out.nsr.on lr HBr.out) (k:=j+2) (by omega);injection hCb with hCb;injection hCb with hCb hCo;subst hCb;subst hCo;have HPG:=hid (zhI k ns xa xb xc (by rw[<-HJ.out];exact hxa) (by rw[<-HJ.out];exact hxb) (by rw[<-HJ.out];exact hxc));have HTK:=hid (show(zb1 ns).take (k+1)=(zb1 ns).take k++ [⟨xa,xb,xc⟩] by rw[List.take_add_one,HPG.out];rfl);have hj0:(0:Int)<=j:=by omega
   have hjl:(j:Int)<nn:=by omega
   have hjl2:(j:Int)+1<nn:=by omega
   have hjl3:(j:Int)+2<nn:=by omega
   have hk9:k<=1048577:=by have:=HP.out;omega
   have hz:w.heap.size<=wr.heap.size:=HBr.out.size;clear hxa hxb hxc
   have hw1:IntKind.i64.wrap ((j:Int)+1)=((j+1:Nat):Int):=by
    unfold IntKind.wrap;simp[IntKind.bits,IntKind.signed];omega
   have hw2:(((j+1:Nat):Int)).toNat=j+1:=by omega
   have hw4:(0:Int)<=(j:Int)+1:=by omega
   have hv1:IntKind.i64.wrap ((j:Int)+2)=((j+2:Nat):Int):=by
    unfold IntKind.wrap;simp[IntKind.bits,IntKind.signed];omega
   have hv2:(((j+2:Nat):Int)).toNat=j+2:=by omega
   have hv4:(0:Int)<=(j:Int)+2:=by omega
   have hv5:((j:Int)+2).toNat=j+2:=by omega
   go_upto_region 63 with fail
   refine ez (fun V=>V.cell? ⟨ba,oa+j,none⟩=some (.int .i64 xa)/\V.cell? ⟨ba,oa+(j+1),none⟩=some (.int .i64 xb)/\V.cell? ⟨ba,oa+(j+2),none⟩=some (.int .i64 xc)) ?_ fun hHeld=>?_
   ·exact⟨q1,q2,q3⟩
   refine dq 0 rfl (h:=dq 1 rfl (h:=dq 2 rfl (h:=dq 3 rfl (h:=dq 4 rfl (h:=dq 5 rfl (h:=dq 6 rfl (h:=dq 7 rfl (h:=?_))))))));refine dq 8 rfl (h:=dq 9 rfl (h:=dq 10 rfl (h:=dq 11 rfl (h:=dq 12 rfl (h:=dq 13 rfl (h:=dq 14 rfl (h:=dq 15 rfl (h:=?_))))))));refine rd 16 rfl fun K hK=>?_;go_simp;refine ke hK ?_ ?_
   ·exact⟨zaa (bal _) hHeld.1,zaa (bal _) hHeld.2.1,zaa (bal _) hHeld.2.2⟩
   clear hK K hHeld;intro hHeld;refine rd 17 rfl fun K hK=>?_;refine zbH rfl _ _ 138 rfl 140 _ 3 24 underlying138 zmZ rfl (by decide) (by decide) HS.out.drew hz rfl [.int .i64 xa,.int .i64 xb,.int .i64 xc] wr.heap.size rfl rfl rfl (fun v hv=>by simp at hv;rcases hv with rfl|rfl|rfl<;>rfl) (by omega) ?_;intro A9 d9 w9 hs9 b9 f9 k9;refine ke hK ?_ ?_
   ·exact⟨(b9.cell (p:=⟨ba,oa+j,none⟩) hba).trans q1,(b9.cell (p:=⟨ba,oa+(j+1),none⟩) hba).trans q2,(b9.cell (p:=⟨ba,oa+(j+2),none⟩) hba).trans q3⟩
   clear hK K hHeld;intro hHeld;refine dq 18 rfl (h:=?_);refine dn ?_;have HF:=hid hs9;have HBF:=hid (HBr.out.drew.trans b9);clear hHeld hs9 b9 f9 k9 q1 q2 q3;go_wp2
   go_roundw
   case rel=>exact⟨k+1,j+3,A9,d9,by omega,by have:=HJ.out;omega,by go_num,rfl,by rw[HTK.out,zl5];exact HF.out,HBF.out⟩
   case measure=>simp[RowKit.intOf];omega
  ·obtain rfl:p=k:=by omega
   have hpl:=zhJ p ns (by rw[HNL.out,HP.out]);obtain⟨ts,hts⟩:∃z,zb1 ns=z:=⟨_,rfl⟩
   rw[hts] at hpl HS;have HS2:=hid (show Sl wr w.heap.size wr.heap.size 140 3 A' p d' (its ts) by have h:=HS.out;rwa[List.take_of_length_le (by omega)] at h);have HXG:=hid (show execF d ws ns=⟨d,[zab (zaI (srvC ts).1)],(srvC ts).2⟩ by rw[HXF.out,hts]);have hjn:¬(j:Int)<nn:=by have:=HP.out;have:=HJ.out;omega
   have hp9:p<=1048576:=by have:=HP.out;omega
   clear hts hpl HS
   go_wp2_with fail
   refine(zkV A' p d' wr.heap.size ts wr (HS2.out.reads lr) lr hp9).mono ?_;rintro e w6 ⟨A6,n6,d6,rfl,s6,b6⟩;have HB6:=hid (zac HBr.out b6 lr);have HS6:=hid s6;have HFB:=hid (zle ts);have HLL:=hid (zjy ts);obtain⟨sf,hsf⟩:∃z,srvC ts=z:=⟨_,rfl⟩
   rw[hsf] at HXG HS6 HFB HLL⊢;have hm6:n6<=1048576:=by have h1:=zai (HS6.out.reads lr);have h2:=HLL.out;omega
   clear s6 b6 hsf
   go_wp2_with fail
   refine(zcV A6 n6 d6 w6.heap.size sf.1 w6 (HS6.out.reads lr) lr hm6 HFB.out (zaw XI.out.tab HB6.out)).mono ?_;rintro e w7 ⟨rfl,b7⟩;have HB8:=hid (zac HB6.out b7 lr);clear b7;go_wp2;go_ret2;have hz:=HB8.out.size;exact⟨_,_,_,by rw[HXG.out];rfl,h,rh,by rw[HXG.out];exact XI.out.out (HB8.out.alloc hz _) (Sl.one9 hz)⟩
end
end Go.Proofs.YtjalgpioklcbfaaGreatDoor
