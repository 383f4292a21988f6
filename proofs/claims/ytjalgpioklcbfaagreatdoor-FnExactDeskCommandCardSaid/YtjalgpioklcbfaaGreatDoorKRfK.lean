/- The words of a line, as the reference reads them by a form. -/
import Derived.Test.YtjalgpioklcbfaaGreatDoorMgDesksAV
set_option maxHeartbeats 8000000
set_option maxRecDepth 100000
set_option linter.unusedVariables false
set_option linter.unusedSimpArgs false
namespace Go.Proofs.YtjalgpioklcbfaaGreatDoor
open Go.RowKit Go.Lib Go.Proofs.Tryz
theorem zoU{g b:Nat}(h:inB (some (⟨g,0,none⟩:Addr)) b):b=g:=by
 obtain⟨ad,e1,e2⟩:=h;injection e1 with e1;subst e1;exact e2.symm
structure WM (w wr:World) (g:Nat) (V0 V1 V2 V3 V4 V5:Value) (NA:Option Addr) (nn nc:Nat) (ns:List Int) (TA:Option Addr) (tn tc:Nat) (ts:List ByteArray):Prop where
 blk:Blk wr g 74 #[V0,V1,V2,V3,V4,V5,.slice NA nn nc,.slice TA tn tc]
 nums:Sl wr w.heap.size wr.heap.size 2 1 NA nn nc (ints ns)
 texts:Sl wr w.heap.size wr.heap.size 9 1 TA tn tc (strs ts)
 ne:∀b,inB NA b->¬inB TA b
 off:Off (fun b=>b=g) w wr
 glt:g<w.heap.size
section
variable {w wr w9:World}{g:Nat}{V0 V1 V2 V3 V4 V5:Value}{NA:Option Addr}{nn nc:Nat}{ns:List Int}{TA:Option Addr}{tn tc:Nat}{ts:List ByteArray}
theorem WM.on(h:WM w wr g V0 V1 V2 V3 V4 V5 NA nn nc ns TA tn tc ts)(b:Below wr.heap.size wr w9):WM w w9 g V0 V1 V2 V3 V4 V5 NA nn nc ns TA tn tc ts:=
 ⟨h.blk.on b,(h.nums.on b).low,(h.texts.on b).low,h.ne,h.off.then_ b,h.glt⟩
theorem WM.gne{lo hi n c size:Nat}{t:TypeId}{A:Option Addr}{xs:List Value}(h:Sl wr lo hi t size A n c xs)(hg:g<lo):∀ad,A=some ad->ad.block≠g:=fun ad had e=>by
 have:=(h.inB_lt ⟨ad,had,rfl⟩).1;omega
theorem WM.offB(ho:Off (fun b=>b=g) w wr)(b9:Below w.heap.size wr w9):Off (fun b=>b=g) w w9:=
 ⟨b9.os.trans ho.os,b9.tape.trans ho.tape,b9.output.trans ho.output,Nat.le_trans ho.size b9.size,fun k hk hn=>(b9.block k hk).trans (ho.block k hk hn)⟩
theorem zfW{lo hi n c size j:Nat}{t:TypeId}{A:Option Addr}{xs:List Value}(h:Sl wr lo hi t size A n c xs)(hg:g<lo)(v:Value):Sl (wr.setCell ⟨g,j,none⟩ v) lo hi t size A n c xs:=
 h.off ((Off.refl (fun b=>b=g) wr).setCell (p:=⟨g,j,none⟩) rfl v) fun b hb e=>by have:=(h.inB_lt hb).1;omega
theorem WM.pushN {A2:Option Addr} {d2:Nat} {x:Int} (h:WM w wr g V0 V1 V2 V3 V4 V5 NA nn nc ns TA tn tc ts) (s9:Sl w9 w.heap.size w9.heap.size 2 1 A2 (nn + 1) d2 (ints ns ++ [.int .i64 x])) (b9:Below w.heap.size wr w9)
  (f9:∀b,b<wr.heap.size->(∀ad,NA=some ad->ad.block≠b)->w9.heap[b]?=wr.heap[b]?) (k9:∀b,b<wr.heap.size->(∀ad,NA=some ad->ad.block≠b)->∀ad,A2=some ad->ad.block≠b):
  WM w (w9.setCell ⟨g,6,none⟩ (.slice A2 (nn+1) d2)) g V0 V1 V2 V3 V4 V5 A2 (nn+1) d2 (ns++ [x]) TA tn tc ts:=by
 have hgr:=h.blk.lt;have y9:Blk w9 g 74 #[V0,V1,V2,V3,V4,V5,.slice NA nn nc,.slice TA tn tc]:=(f9 g hgr (WM.gne h.nums h.glt)).trans h.blk;have t9:Sl w9 w.heap.size w9.heap.size 9 1 TA tn tc (strs ts):=(h.texts.off (zb5 b9 f9) fun b hb hc=>h.ne b hc hb).low;refine⟨y9.set_ 6 _,?_,?_,fun b hb hc=>?_,(WM.offB h.off b9).setCell (p:=⟨g,6,none⟩) rfl _,h.glt⟩
 ·rw[show ints (ns++ [x])=ints ns++ [.int .i64 x] by simp[ints]];exact(zfW s9 h.glt _).low
 ·exact(zfW t9 h.glt _).low
 ·obtain⟨ad,e1,e2⟩:=hb;exact k9 b (h.texts.inB_heap hc) (fun ad' e' e=>h.ne b ⟨ad',e',e⟩ hc) ad e1 e2
theorem WM.pushT {A2:Option Addr} {d2:Nat} {x:ByteArray} (h:WM w wr g V0 V1 V2 V3 V4 V5 NA nn nc ns TA tn tc ts) (s9:Sl w9 w.heap.size w9.heap.size 9 1 A2 (tn + 1) d2 (strs ts ++ [.string x])) (b9:Below w.heap.size wr w9)
  (f9:∀b,b<wr.heap.size->(∀ad,TA=some ad->ad.block≠b)->w9.heap[b]?=wr.heap[b]?) (k9:∀b,b<wr.heap.size->(∀ad,TA=some ad->ad.block≠b)->∀ad,A2=some ad->ad.block≠b):
  WM w (w9.setCell ⟨g,7,none⟩ (.slice A2 (tn+1) d2)) g V0 V1 V2 V3 V4 V5 NA nn nc ns A2 (tn+1) d2 (ts++ [x]):=by
 have hgr:=h.blk.lt;have y9:Blk w9 g 74 #[V0,V1,V2,V3,V4,V5,.slice NA nn nc,.slice TA tn tc]:=(f9 g hgr (WM.gne h.texts h.glt)).trans h.blk;have t9:Sl w9 w.heap.size w9.heap.size 2 1 NA nn nc (ints ns):=(h.nums.off (zb5 b9 f9) fun b hb hc=>h.ne b hb hc).low;refine⟨y9.set_ 7 _,?_,?_,fun b hb hc=>?_,(WM.offB h.off b9).setCell (p:=⟨g,7,none⟩) rfl _,h.glt⟩
 ·exact(zfW t9 h.glt _).low
 ·rw[show strs (ts++ [x])=strs ts++ [.string x] by simp[strs]];exact(zfW s9 h.glt _).low
 ·obtain⟨ad,e1,e2⟩:=hc;exact k9 b (h.nums.inB_heap hb) (fun ad' e' e=>h.ne b hb ⟨ad',e',e⟩) ad e1 e2
end
structure WOut (w w':World) (lo g:Nat) (h:DkH) (d:Dk) (A:Option Addr) (n c:Nat) (ls:List ByteArray) (x:List Int×List ByteArray):Prop where
 at_:∃(NA:Option Addr) (nn nc:Nat) (TA:Option Addr) (tn tc:Nat),StD w' lo g h d A n c ls (.slice NA nn nc) (.slice TA tn tc)/\Aw w' (Nn lo g A) 1 NA nn (ints x.1)/\Aw w' (Nn lo g A) 1 TA tn (strs x.2)/\nn<=nc
 mv:Mv g w w' A A
theorem WM.out {w w':World} {lo g n c nn nc tn tc:Nat} {A NA TA:Option Addr} {h:DkH} {d:Dk} {ls:List ByteArray} {V6 V7:Value} {ns:List Int} {ts:List ByteArray} (s:StD w lo g h d A n c ls V6 V7) (hlo:lo <= w.heap.size)
  (m:WM w w' g (.int .i64 d.net.sta) (.slice h.A1 h.n1 h.c1) (.slice h.A2 h.n2 h.c2) (.slice h.A3 h.n3 h.c3) (.string d.log) (.slice A n c) NA nn nc ns TA tn tc ts):WOut w w' lo g h d A n c ls (ns,ts):=
 ⟨⟨NA,nn,nc,TA,tn,tc,s.turn m.off m.blk (s.tubes.mv (Mv.ofg m.off)) (s.times.mv (Mv.ofg m.off)) (s.runs.mv (Mv.ofg m.off)) s.ok,Aw.of_sl m.nums s.glt s.alt hlo,Aw.of_sl m.texts s.glt s.alt hlo,by
  rcases m.nums.form with ⟨_,h1,h2⟩|⟨_,_,_,_,_,_,h1,_⟩<;>omega⟩,Mv.ofg m.off⟩
theorem ztd{f:ByteArray}{i:Nat}(h:i<f.size):f.data.toList.getD i 0=f[i]:=by
 rw[List.getD_eq_getElem?_getD,Array.getElem?_toList,Array.getElem?_eq_getElem h]
 rfl
theorem zkM{a c:UInt8}(h:a=c):((a.toNat:Int)==(c.toNat:Int))=true:=by rw[h];simp
theorem zkN{a c:UInt8}(h:¬a=c):((a.toNat:Int)==(c.toNat:Int))=false:=by
 rw[beq_eq_false_iff_ne];intro e;exact h (by rw[<-UInt8.toNat_inj];omega)
theorem znn {w:World} {lo g:Nat} {h:DkH} {d:Dk} {A:Option Addr} {n c:Nat} {ls:List ByteArray} {V6 V7:Value} {WA:Option Addr} {wn wc:Nat} {ws:List ByteArray} {f:ByteArray} (s:StD w lo g h d A n c ls V6 V7) (hlo:lo <= w.heap.size) (hw:Aw w (Nn lo g A) 1 WA wn (strs ws)) (hwn:wn <= 1048577) (hsz:∀ x ∈ ws,x.size <= 1048576) (hf:f.size <= 3) (hfit:f.size + 1 <= wn) :
  Calls prog 103 #[.pointer (some ⟨g,0,none⟩),.slice WA wn wc,.string f] w fun e w'=>(∃x,frmW f (ws.drop 1) f.size=some x/\e= .returned (.bool true)/\WOut w w' lo g h d A n c ls x)\/(frmW f (ws.drop 1) f.size=none/\e= .returned (.bool false)/\∃x,WOut w w' lo g h d A n c ls x):=by
 have HSD:=hid s;have HW:=hid hw;have HWL:=hid (show ws.length=wn by have:=hw.1.1;rw[za6] at this;omega);have HSZ:=hid hsz;have f6:=s.says.blk.frozen 6;have f7:=s.says.blk.frozen 7;obtain⟨c0,c1,c2,c3,c4,c5,c6,c7⟩:=s.cells;have b0:Below w.heap.size w (w.alloc (.cells #[] 2)):=bal _;obtain⟨u,hu⟩:∃y,w.alloc (.cells #[] 2)=y:=⟨_,rfl⟩
 have yu:=s.says.blk.on b0;have su:=(Acc.made w 2 1).sl (lo:=w.heap.size) lr lr;rw[hu] at b0 yu su;have zu:u.heap.size=w.heap.size+1:=by rw[<-hu];simp
 have fu6:=yu.frozen 6;have p6:u.cell? ⟨g,6,none⟩=some V6:=yu.cellAt 6 (by simp);have HBU:=hid b0;have HYU:=hid yu;have HSU:=hid su;have hglu:=yu.lt;have HZU:=hid zu;clear s hw hsz b0 yu su zu c0 c1 c2 c3 c4 c5 c6 c7 f6 f7;go_enter func103,ntmps103
 go_upto_region 2 with fail
 clear hu p6;have hv6:Blk (u.setCell ⟨g,6,none⟩ (.slice (some ⟨w.heap.size,0,none⟩) 0 0)) g 74 _:=HYU.out.set_ 6 (.slice (some ⟨w.heap.size,0,none⟩) 0 0);have hvo:Off (fun b=>b=g) w (u.setCell ⟨g,6,none⟩ (.slice (some ⟨w.heap.size,0,none⟩) 0 0)):=(Off.of_below HBU.out (fun b=>b=g)).setCell (p:=⟨g,6,none⟩) rfl _;have hvs:=(zfW (j:=6) HSU.out HSD.out.glt (.slice (some ⟨w.heap.size,0,none⟩) 0 0))
 have hvz:(u.setCell ⟨g,6,none⟩ (.slice (some ⟨w.heap.size,0,none⟩) 0 0)).heap.size=w.heap.size+1:=by rw[<-HZU.out];simp[World.setCell]
 obtain⟨v,hv⟩:∃y,u.setCell ⟨g,6,none⟩ (.slice (some ⟨w.heap.size,0,none⟩) 0 0)=y:=⟨_,rfl⟩
 rw[hv] at hv6 hvo hvs hvz⊢;have b1:Below v.heap.size v (v.alloc (.cells #[] 9)):=bal _;obtain⟨x0,hx0⟩:∃y,v.alloc (.cells #[] 9)=y:=⟨_,rfl⟩
 have sx:=(Acc.made v 9 1).sl (lo:=v.heap.size) lr lr;rw[hx0] at b1 sx;have yx:=hv6.on b1;have fx7:=yx.frozen 7;have p7:x0.cell? ⟨g,7,none⟩=some V7:=yx.cellAt 7 (by simp);have hglx:=yx.lt;have hvz2:v.heap.size=w.heap.size+1:=hvz
 have HM0:=hid (show WM w (x0.setCell ⟨g,7,none⟩ (.slice (some ⟨v.heap.size,0,none⟩) 0 0)) g (.int .i64 d.net.sta) (.slice h.A1 h.n1 h.c1) (.slice h.A2 h.n2 h.c2) (.slice h.A3 h.n3 h.c3) (.string d.log) (.slice A n c) (some ⟨w.heap.size,0,none⟩) 0 0 [] (some ⟨v.heap.size,0,none⟩) 0 0 [] from
  ⟨yx.set_ 7 _,(zfW (hvs.on b1) HSD.out.glt _).low,(zfW (sx.wide (by omega) lr) HSD.out.glt _).low,fun b hb hc=>by
   have h1:=zoU hb;have h2:=zoU hc;omega,(hvo.then_ b1).setCell (p:=⟨g,7,none⟩) rfl _,HSD.out.glt⟩)
 clear hv hv6 hvo hvs hvz b1 sx yx fu6 hglu hvz2
 go_upto_region 3 with fail
 clear hx0 p7;obtain⟨w3,hw3⟩:∃y,x0.setCell ⟨g,7,none⟩ (.slice (some ⟨v.heap.size,0,none⟩) 0 0)=y:=⟨_,rfl⟩
 rw[hw3] at HM0⊢;clear hw3 fx7 hglx
 go_wp2_with fail
 go_loopw [7] (fun ii wr=>∃(i:Nat) (NA:Option Addr) (nn nc:Nat) (ns:List Int) (TA:Option Addr) (tn tc:Nat) (ts:List ByteArray),i<=f.size/\ii= .int .i64 (i:Int)/\frmW f (ws.drop 1) i=some (ns,ts)/\tn<=i/\nn<=i*1048577/\WM w wr g (.int .i64 d.net.sta) (.slice h.A1 h.n1 h.c1) (.slice h.A2 h.n2 h.c2) (.slice h.A3 h.n3 h.c3) (.string d.log) (.slice A n c) NA nn nc ns TA tn tc ts) (fun ii _=>f.size-(RowKit.intOf ii).toNat)
 case atStart=>exact⟨0,_,0,0,[],_,0,0,[],Nat.zero_le _,rfl,rfl,Nat.le_refl _,by omega,HM0.out⟩
 case round=>
  obtain⟨i,NA,nn,nc,ns,TA,tn,tc,ts,hi,rfl,hfr,htn,hnb,hm⟩:=hrel;have HFR:=hid hfr;have HM:=hid hm;clear hfr hm;have hi0:(0:Int)<=i:=by omega
  by_cases hlt:i<f.size;rotate_left
  ·obtain rfl:i=f.size:=by omega
   go_wp2;go_ret;exact .inl ⟨_,HFR.out,rfl,HM.out.out HSD.out hlo⟩
  have hin:(i:Int)<(f.size:Int):=by omega
  have hi3:i<=2:=by omega
  have hwi:i+1<wn:=by omega
  have hnb3:nn<=3145731:=by have:=Nat.mul_le_mul_right 1048577 hi3;omega
  have HC:=hid (ztd hlt);have HSZ1:=hid (show(ws.drop 1).length=wn-1 by rw[List.length_drop,HWL.out]);obtain⟨cc,hcc⟩:∃z,f[i]=z:=⟨_,rfl⟩
  rw[hcc] at HC;have HCC:=hid hcc;by_cases e1:cc=114
  ·have q1:((f[i].toNat:Int)==114)=true:=by rw[HCC.out];exact zkM e1
   have q2:((f[i].toNat:Int)==110)=false:=by rw[HCC.out,e1];rfl
   have q3:((f[i].toNat:Int)==108)=false:=by rw[HCC.out,e1];rfl
   have HCNT:=hid (show cntW f (ws.drop 1) i=wn-1-i from by unfold cntW;rw[HC.out,if_pos (.inl e1),HSZ1.out]);have HTXT:=hid (show¬(f.data.toList.getD i 0=110\/f.data.toList.getD i 0=108) from by rw[HC.out,e1];decide);obtain⟨wd,wb,wo,hwd,rfl,hwb,k0⟩:=zaP (HW.out.mv (Mv.ofg HM.out.off)).1 (k:=i+1) (by omega);have HWD:=hid (show(ws.drop 1)[i]?=some wd by rw[List.getElem?_drop,<-hwd];congr 1;omega);have HP1:=hid (show((ws.drop 1).drop i).take 1=[wd] by rw[List.take_one,List.head?_drop,HWD.out];rfl);clear hcc hwd
   go_wp2_with fail
   go_loopw [12,13] (fun rr kk wx=>∃m:Nat,1<=m/\m<=wn-1-i/\kk= .int .i64 ((i+1+m:Nat):Int)/\rr= .string (zbQ (((ws.drop 1).drop i).take m))/\Below wr.heap.size wr wx) (fun _ kk _=>wn-(RowKit.intOf kk).toNat)
   case atStart=>exact⟨1,Nat.le_refl _,by omega,by go_num,by rw[HP1.out,zhK],Below.refl _ _⟩
   case round=>
    rename World=>wx
    obtain⟨m,hm1,hm9,rfl,rfl,hbel⟩:=hrel;have HBx:=hid hbel;have HMx:=hid (HM.out.on hbel);clear hbel;have hk0:(0:Int)<=((i+1+m:Nat):Int):=by omega
    have hsz9:=zjZ (l:=((ws.drop 1).drop i).take m) fun x hx=>HSZ.out x (List.mem_of_mem_drop (List.mem_of_mem_drop (List.mem_of_mem_take hx)));have hln9:(((ws.drop 1).drop i).take m).length<=1048577:=by rw[List.length_take,List.length_drop,HSZ1.out];omega
    by_cases hmt:m<wn-1-i;rotate_left
    ·obtain rfl:m=wn-1-i:=by omega
     have HST:=hid (show frmW f (ws.drop 1) (i+1)=some (ns,ts++ [zbQ (((ws.drop 1).drop i).take (wn-1-i))]) by rw[zeq HFR.out];exact zjz HTXT.out HCNT.out);obtain⟨jt,hjt⟩:∃z,zbQ (((ws.drop 1).drop i).take (wn-1-i))=z:=⟨_,rfl⟩
     rw[hjt] at HST⊢;have y7:=HMx.out.blk.cellAt 7 (by simp);simp only[ly] at y7;have hzx:w.heap.size<=wx.heap.size:=HMx.out.off.size;have HGN:=hid (WM.gne HMx.out.texts HMx.out.glt);have htn5:tn<100000000:=by omega
     have HNB:=hid (show nn<=(i+1)*1048577 from Nat.le_trans hnb (Nat.mul_le_mul_right 1048577 (Nat.le_succ i)));clear hjt hsz9 hln9 k0
     go_wp2_with (at_builtin;refine zat rfl _ _ 24 rfl 9 _ 1 16 underlying24 zbu rfl (by decide) (by decide) HMx.out.texts hzx rfl [.string jt] wx.heap.size rfl rfl rfl (fun u hu=>by simp at hu;subst hu;rfl) htn5 ?_;intro A2 d2 w9 hs9 b9 z9 f9 k9;have HN9:=hid (HMx.out.pushT hs9 b9 f9 k9);have y9:=(f9 g HMx.out.blk.lt HGN.out).trans HMx.out.blk;have fz9:w9.frozen? ⟨g,7,none⟩=false:=(show Blk w9 g _ _ from y9).frozen 7;have gl9:g<w9.heap.size:=(show Blk w9 g _ _ from y9).lt;have cz9:w9.cell? ⟨g,7,none⟩=some (.slice TA tn tc):=(show Blk w9 g _ _ from y9).cellAt 7 (by simp);clear hs9 b9 z9 f9 k9 y9)
     go_roundw
     case rel=>exact⟨i+1,NA,nn,nc,ns,A2,tn+1,d2,_,by omega,by go_num,HST.out,by omega,HNB.out,HN9.out⟩
     case measure=>simp[RowKit.intOf];omega
    have hkl:((i+1+m:Nat):Int)<((wn:Nat):Int):=by omega
    obtain⟨wd2,wb2,wo2,hwd2,hWA,hwb2,k2⟩:=zaP (HW.out.mv (Mv.ofg HMx.out.off)).1 (k:=i+1+m) (by omega);injection hWA with hWA;injection hWA with hWA1 hWA2;subst hWA1;subst hWA2;have hwds:=HSZ.out wd2 (List.mem_of_getElem? hwd2)
    have HJN:=hid (show zbQ (((ws.drop 1).drop i).take (m+1))=zbQ (((ws.drop 1).drop i).take m)++(⟨#[32]⟩++wd2) by
     rw[List.take_add_one,show((ws.drop 1).drop i)[m]?=some wd2 by rw[List.getElem?_drop,List.getElem?_drop,<-hwd2];congr 1;omega,Option.toList_some];refine zpD wd2 fun e=>?_;have e9:=congrArg List.length e;rw[List.length_take,List.length_drop,HSZ1.out,List.length_nil] at e9;omega)
    obtain⟨jt,hjt⟩:∃z,zbQ (((ws.drop 1).drop i).take m)=z:=⟨_,rfl⟩
    rw[hjt] at HJN hsz9⊢;have hsz8:jt.size<=1099513724929:=by have h9:=Nat.mul_le_mul_right 1048577 hln9;omega
    have ov1:¬(9223372036854775807<1+wd2.size):=by omega
    have ov2:¬(9223372036854775807<jt.size+(1+wd2.size)):=by omega
    clear hwd2 hjt hsz9 hln9 k0;go_wp2
    go_roundw
    case rel=>exact⟨m+1,by omega,by omega,by go_num,by rw[HJN.out],HBx.out⟩
    case measure=>simp[RowKit.intOf];omega
  by_cases e2:cc=108
  ·have q1:((f[i].toNat:Int)==114)=false:=by rw[HCC.out,e2];rfl
   have q2:((f[i].toNat:Int)==110)=false:=by rw[HCC.out,e2];rfl
   have q3:((f[i].toNat:Int)==108)=true:=by rw[HCC.out];exact zkM e2
   have HCNT:=hid (show cntW f (ws.drop 1) i=(wn-1-i) from by unfold cntW;rw[HC.out,if_pos (.inr e2),HSZ1.out]);have HNUM:=hid (show f.data.toList.getD i 0=110\/f.data.toList.getD i 0=108 from by rw[HC.out];exact .inr e2);clear hcc
   go_wp2_with fail
   go_loopw [9] (fun kk wx=>∃(m:Nat) (NA:Option Addr) (nn2 nc:Nat) (ns2:List Int),m<=(wn-1-i)/\kk= .int .i64 ((i+1+m:Nat):Int)/\rdTo (ws.drop 1) i m ns=some ns2/\nn2=nn+m/\WM w wx g (.int .i64 d.net.sta) (.slice h.A1 h.n1 h.c1) (.slice h.A2 h.n2 h.c2) (.slice h.A3 h.n3 h.c3) (.string d.log) (.slice A n c) NA nn2 nc ns2 TA tn tc ts) (fun kk _=>wn-(RowKit.intOf kk).toNat)
   case atStart=>exact⟨0,NA,nn,nc,ns,Nat.zero_le _,rfl,rfl,rfl,HM.out⟩
   case round=>
    rename World=>wx
    obtain⟨m,NA2,nn2,nc2,ns2,hm9,rfl,hrd,hnn2,hwm⟩:=hrel;have HRD:=hid hrd;have HM2:=hid hwm;have HN2:=hid hnn2;have hn29:nn2<=9000000:=by omega
    clear hrd hwm hnn2;have hk0:(0:Int)<=((i+1+m:Nat):Int):=by omega
    by_cases hmt:m<(wn-1-i);rotate_left
    ·obtain rfl:m=(wn-1-i):=by omega
     have HST:=hid (show frmW f (ws.drop 1) (i+1)=some (ns2,ts) by rw[zeq HFR.out];exact zde HNUM.out HCNT.out HRD.out);have hend:¬(((i+1+(wn-1-i):Nat):Int)<((wn:Nat):Int)):=by omega
     go_wp2
     go_roundw
     case rel=>exact⟨i+1,NA2,nn2,nc2,ns2,TA,tn,tc,ts,by omega,by go_num,HST.out,by omega,(by have:=HN2.out;omega),HM2.out⟩
     case measure=>simp[RowKit.intOf];omega
    have hkl:((i+1+m:Nat):Int)<((wn:Nat):Int):=by omega
    obtain⟨wd,wb,wo,hwd,rfl,hwb,k0⟩:=zaP (HW.out.mv (Mv.ofg HM2.out.off)).1 (k:=i+1+m) (by omega);have HWD:=hid (show(ws.drop 1)[i+m]?=some wd by rw[List.getElem?_drop,<-hwd];congr 1;omega);have hwds:=HSZ.out wd (List.mem_of_getElem? hwd);have HNC:=hid (zbX wd wx (by omega));rcases hrd2:(zak wd.data.toList).2 with _|_
    ·have HST:=hid (show frmW f (ws.drop 1) f.size=none from zcS (i:=i+1) (by rw[zeq HFR.out];exact zdd HNUM.out HCNT.out (zic (zd9 HRD.out HWD.out hrd2) _ (by omega))) _ (by omega));rw[hrd2] at HNC;clear hwd hrd2
     go_wp2_with fail
     refine HNC.out.mono ?_;rintro e w5 ⟨rfl,b5⟩;have HM5:=hid (HM2.out.on b5);clear b5 k0;go_wp2;go_ret;exact .inr ⟨HST.out,rfl,_,HM5.out.out HSD.out hlo⟩
    have HRN:=hid (zdc HRD.out HWD.out hrd2);rw[hrd2] at HNC;obtain⟨vn,hvn⟩:∃z,(zak wd.data.toList).1=z:=⟨_,rfl⟩
    rw[hvn] at HNC HRN;clear hwd hrd2 hvn
    go_wp2_with fail
    refine HNC.out.mono ?_;rintro e w5 ⟨rfl,b5⟩;have HM5:=hid (HM2.out.on b5);have y6:=HM5.out.blk.cellAt 6 (by simp);simp only[ly] at y6;have hz5:w.heap.size<=w5.heap.size:=HM5.out.off.size;have HGN:=hid (WM.gne HM5.out.nums HM5.out.glt);have hnn5:nn2<100000000:=by omega
    clear b5 k0
    go_wp2_with (at_builtin;refine zat rfl _ _ 29 rfl 2 _ 1 8 underlying29 zkX rfl (by decide) (by decide) HM5.out.nums hz5 rfl [.int .i64 vn] w5.heap.size rfl rfl rfl (fun u hu=>by simp at hu;subst hu;rfl) hnn5 ?_;intro A2 d2 w9 hs9 b9 z9 f9 k9;have HN9:=hid (HM5.out.pushN hs9 b9 f9 k9);have y9:=(f9 g HM5.out.blk.lt HGN.out).trans HM5.out.blk;have fz9:w9.frozen? ⟨g,6,none⟩=false:=(show Blk w9 g _ _ from y9).frozen 6;have gl9:g<w9.heap.size:=(show Blk w9 g _ _ from y9).lt;have cz9:w9.cell? ⟨g,6,none⟩=some (.slice NA2 nn2 nc2):=(show Blk w9 g _ _ from y9).cellAt 6 (by simp);clear hs9 b9 z9 f9 k9 y9)
    go_roundw
    case rel=>exact⟨m+1,A2,nn2+1,d2,_,by omega,by go_num,HRN.out,(by have:=HN2.out;omega),HN9.out⟩
    case measure=>simp[RowKit.intOf];omega
  by_cases e3:cc=110
  ·have q1:((f[i].toNat:Int)==114)=false:=by rw[HCC.out,e3];rfl
   have q2:((f[i].toNat:Int)==110)=true:=by rw[HCC.out];exact zkM e3
   have q3:((f[i].toNat:Int)==108)=false:=by rw[HCC.out,e3];rfl
   have HCNT:=hid (show cntW f (ws.drop 1) i=1 from by unfold cntW;rw[HC.out,if_neg (by rw[e3];decide)]);have HNUM:=hid (show f.data.toList.getD i 0=110\/f.data.toList.getD i 0=108 from by rw[HC.out];exact .inl e3);clear hcc
   go_wp2_with fail
   go_loopw [9] (fun kk wx=>∃(m:Nat) (NA:Option Addr) (nn2 nc:Nat) (ns2:List Int),m<=1/\kk= .int .i64 ((i+1+m:Nat):Int)/\rdTo (ws.drop 1) i m ns=some ns2/\nn2=nn+m/\WM w wx g (.int .i64 d.net.sta) (.slice h.A1 h.n1 h.c1) (.slice h.A2 h.n2 h.c2) (.slice h.A3 h.n3 h.c3) (.string d.log) (.slice A n c) NA nn2 nc ns2 TA tn tc ts) (fun kk _=>i+2-(RowKit.intOf kk).toNat)
   case atStart=>exact⟨0,NA,nn,nc,ns,Nat.zero_le _,rfl,rfl,rfl,HM.out⟩
   case round=>
    rename World=>wx
    obtain⟨m,NA2,nn2,nc2,ns2,hm9,rfl,hrd,hnn2,hwm⟩:=hrel;have HRD:=hid hrd;have HM2:=hid hwm;have HN2:=hid hnn2;have hn29:nn2<=9000000:=by omega
    clear hrd hwm hnn2;have hk0:(0:Int)<=((i+1+m:Nat):Int):=by omega
    by_cases hmt:m<1;rotate_left
    ·obtain rfl:m=1:=by omega
     have HST:=hid (show frmW f (ws.drop 1) (i+1)=some (ns2,ts) by rw[zeq HFR.out];exact zde HNUM.out HCNT.out HRD.out);have hend:¬(((i+1+1:Nat):Int)<((i+2:Nat):Int)):=by omega
     go_wp2
     go_roundw
     case rel=>exact⟨i+1,NA2,nn2,nc2,ns2,TA,tn,tc,ts,by omega,by go_num,HST.out,by omega,(by have:=HN2.out;omega),HM2.out⟩
     case measure=>simp[RowKit.intOf];omega
    have hkw:((i+1+m:Nat):Int)<(wn:Int):=by omega
    obtain⟨wd,wb,wo,hwd,rfl,hwb,k0⟩:=zaP (HW.out.mv (Mv.ofg HM2.out.off)).1 (k:=i+1+m) (by omega);have HWD:=hid (show(ws.drop 1)[i+m]?=some wd by rw[List.getElem?_drop,<-hwd];congr 1;omega);have hwds:=HSZ.out wd (List.mem_of_getElem? hwd);have HNC:=hid (zbX wd wx (by omega));rcases hrd2:(zak wd.data.toList).2 with _|_
    ·have HST:=hid (show frmW f (ws.drop 1) f.size=none from zcS (i:=i+1) (by rw[zeq HFR.out];exact zdd HNUM.out HCNT.out (zic (zd9 HRD.out HWD.out hrd2) _ (by omega))) _ (by omega));rw[hrd2] at HNC;clear hwd hrd2
     go_wp2_with fail
     refine HNC.out.mono ?_;rintro e w5 ⟨rfl,b5⟩;have HM5:=hid (HM2.out.on b5);clear b5 k0;go_wp2;go_ret;exact .inr ⟨HST.out,rfl,_,HM5.out.out HSD.out hlo⟩
    have HRN:=hid (zdc HRD.out HWD.out hrd2);rw[hrd2] at HNC;obtain⟨vn,hvn⟩:∃z,(zak wd.data.toList).1=z:=⟨_,rfl⟩
    rw[hvn] at HNC HRN;clear hwd hrd2 hvn
    go_wp2_with fail
    refine HNC.out.mono ?_;rintro e w5 ⟨rfl,b5⟩;have HM5:=hid (HM2.out.on b5);have y6:=HM5.out.blk.cellAt 6 (by simp);simp only[ly] at y6;have hz5:w.heap.size<=w5.heap.size:=HM5.out.off.size;have HGN:=hid (WM.gne HM5.out.nums HM5.out.glt);have hnn5:nn2<100000000:=by omega
    clear b5 k0
    go_wp2_with (at_builtin;refine zat rfl _ _ 29 rfl 2 _ 1 8 underlying29 zkX rfl (by decide) (by decide) HM5.out.nums hz5 rfl [.int .i64 vn] w5.heap.size rfl rfl rfl (fun u hu=>by simp at hu;subst hu;rfl) hnn5 ?_;intro A2 d2 w9 hs9 b9 z9 f9 k9;have HN9:=hid (HM5.out.pushN hs9 b9 f9 k9);have y9:=(f9 g HM5.out.blk.lt HGN.out).trans HM5.out.blk;have fz9:w9.frozen? ⟨g,6,none⟩=false:=(show Blk w9 g _ _ from y9).frozen 6;have gl9:g<w9.heap.size:=(show Blk w9 g _ _ from y9).lt;have cz9:w9.cell? ⟨g,6,none⟩=some (.slice NA2 nn2 nc2):=(show Blk w9 g _ _ from y9).cellAt 6 (by simp);clear hs9 b9 z9 f9 k9 y9)
    go_roundw
    case rel=>exact⟨m+1,A2,nn2+1,d2,_,by omega,by go_num,HRN.out,(by have:=HN2.out;omega),HN9.out⟩
    case measure=>simp[RowKit.intOf];omega
  have q1:((f[i].toNat:Int)==114)=false:=by rw[HCC.out];exact zkN (c:=114) e1
  have q2:((f[i].toNat:Int)==110)=false:=by rw[HCC.out];exact zkN (c:=110) e3
  have q3:((f[i].toNat:Int)==108)=false:=by rw[HCC.out];exact zkN (c:=108) e2
  have HCNT:=hid (show cntW f (ws.drop 1) i=1 from by unfold cntW;rw[HC.out,if_neg (by rintro (h|h);exact e1 h;exact e2 h)]);have HTXT:=hid (show¬(f.data.toList.getD i 0=110\/f.data.toList.getD i 0=108) from by rw[HC.out];rintro (h|h);exact e3 h;exact e2 h);obtain⟨wd,wb,wo,hwd,rfl,hwb,k0⟩:=zaP (HW.out.mv (Mv.ofg HM.out.off)).1 (k:=i+1) (by omega);have HWD:=hid (show(ws.drop 1)[i]?=some wd by rw[List.getElem?_drop,<-hwd];congr 1;omega);have HP1:=hid (show((ws.drop 1).drop i).take 1=[wd] by rw[List.take_one,List.head?_drop,HWD.out];rfl);clear hcc hwd
  go_wp2_with fail
  go_loopw [12,13] (fun rr kk wx=>∃m:Nat,1<=m/\m<=1/\kk= .int .i64 ((i+1+m:Nat):Int)/\rr= .string (zbQ (((ws.drop 1).drop i).take m))/\Below wr.heap.size wr wx) (fun _ kk _=>i+2-(RowKit.intOf kk).toNat)
  case atStart=>exact⟨1,Nat.le_refl _,by omega,by go_num,by rw[HP1.out,zhK],Below.refl _ _⟩
  case round=>
   rename World=>wx
   obtain⟨m,hm1,hm9,rfl,rfl,hbel⟩:=hrel;have HMx:=hid (HM.out.on hbel);clear hbel;have hk0:(0:Int)<=((i+1+m:Nat):Int):=by omega
   have hsz9:=zjZ (l:=((ws.drop 1).drop i).take m) fun x hx=>HSZ.out x (List.mem_of_mem_drop (List.mem_of_mem_drop (List.mem_of_mem_take hx)));have hln9:(((ws.drop 1).drop i).take m).length<=1048577:=by rw[List.length_take,List.length_drop,HSZ1.out];omega
   by_cases hmt:m<1;rotate_left
   ·obtain rfl:m=1:=by omega
    have HST:=hid (show frmW f (ws.drop 1) (i+1)=some (ns,ts++ [zbQ (((ws.drop 1).drop i).take (1))]) by rw[zeq HFR.out];exact zjz HTXT.out HCNT.out);obtain⟨jt,hjt⟩:∃z,zbQ (((ws.drop 1).drop i).take (1))=z:=⟨_,rfl⟩
    rw[hjt] at HST⊢;have hend:¬(((i+1+1:Nat):Int)<((i+2:Nat):Int)):=by omega
    have y7:=HMx.out.blk.cellAt 7 (by simp);simp only[ly] at y7;have hzx:w.heap.size<=wx.heap.size:=HMx.out.off.size;have HGN:=hid (WM.gne HMx.out.texts HMx.out.glt);have htn5:tn<100000000:=by omega
    have HNB:=hid (show nn<=(i+1)*1048577 from Nat.le_trans hnb (Nat.mul_le_mul_right 1048577 (Nat.le_succ i)));clear hjt hsz9 hln9 k0
    go_wp2_with (at_builtin;refine zat rfl _ _ 24 rfl 9 _ 1 16 underlying24 zbu rfl (by decide) (by decide) HMx.out.texts hzx rfl [.string jt] wx.heap.size rfl rfl rfl (fun u hu=>by simp at hu;subst hu;rfl) htn5 ?_;intro A2 d2 w9 hs9 b9 z9 f9 k9;have HN9:=hid (HMx.out.pushT hs9 b9 f9 k9);have y9:=(f9 g HMx.out.blk.lt HGN.out).trans HMx.out.blk;have fz9:w9.frozen? ⟨g,7,none⟩=false:=(show Blk w9 g _ _ from y9).frozen 7;have gl9:g<w9.heap.size:=(show Blk w9 g _ _ from y9).lt;have cz9:w9.cell? ⟨g,7,none⟩=some (.slice TA tn tc):=(show Blk w9 g _ _ from y9).cellAt 7 (by simp);clear hs9 b9 z9 f9 k9 y9)
    go_roundw
    case rel=>exact⟨i+1,NA,nn,nc,ns,A2,tn+1,d2,_,by omega,by go_num,HST.out,by omega,HNB.out,HN9.out⟩
    case measure=>simp[RowKit.intOf];omega
   exact absurd hmt (by omega)
end Go.Proofs.YtjalgpioklcbfaaGreatDoor
