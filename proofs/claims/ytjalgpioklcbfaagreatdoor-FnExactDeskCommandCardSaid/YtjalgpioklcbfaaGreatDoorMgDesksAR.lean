/- Steps of the proof. -/
import Derived.Test.YtjalgpioklcbfaaGreatDoorKCnD
set_option linter.unusedVariables false
set_option linter.unusedSimpArgs false
set_option maxHeartbeats 4000000
set_option maxRecDepth 100000
namespace Go.Proofs.YtjalgpioklcbfaaGreatDoor
section
open Go.RowKit Go.Lib Go.Proofs.Tryz
theorem zcM{x:Int}(h0:-1000000000<=x)(h1:x<=1000000000):i64b x:=⟨by omega,by omega⟩
theorem zpq(l:List Tb)(L:List Int)(to_:Int)(hl:l.length<=1000):∀(f:Nat) (p:Int),∀v∈wayF l L to_ f p,i64b v
 |0,p,v,hv=>by rw[wayF] at hv;cases hv
 |f+1,p,v,hv=>by
  rw[wayF] at hv
  split at hv
  ·cases hv
  ·split at hv
   ·rename_i i hi;have:=(List.findIdx?_eq_some_iff_getElem.1 hi).1;rcases List.mem_cons.1 hv with rfl|hv
    ·exact zcM (by omega) (by omega)
    ·exact zpq l L to_ hl f _ v hv
   ·cases hv
theorem zlm(x:Nt)(a b:Int):∀v∈(wayC x a b).1,i64b v:=by
 unfold wayC
 split
 ·intro v hv;cases hv
 ·rename_i h
  split
  ·intro v hv;cases hv
  ·split
   ·intro v hv;cases hv
   ·intro v hv;have h24:=(zbx (by simpa using h)).2.2.1;exact zpq _ _ _ (by omega) _ _ v hv
theorem zj7(x:Nt)(a b:Int):(wayC x a b).1.length<=480001:=by
 unfold wayC
 split
 ·simp
 ·rename_i h
  split
  ·simp
  ·rename_i h2
   split
   ·simp
   ·have hok:okNt x=true:=by simpa using h
    have h3:(inR a 0 (x.sta-1)&&inR b 0 (x.sta-1))=true:=by simpa using h2
    rw[Bool.and_eq_true] at h3;have ha:=zam.1 h3.1;have hb:=zam.1 h3.2;have h4:=zkS hok hb.1 (by omega) a ha.1;have h5:=zfb x.tubes (farF x b) b ((at0 (farF x b) a).toNat+1) a;show(wayF x.tubes (farF x b) b ((at0 (farF x b) a).toNat+1) a).length<=480001;omega
theorem zgf(ps:List Int)(sec:Int):∀(f:Nat) (lo hi:Int),(zcp ps sec f lo hi).length<=f
 |0,_,_=>by simp[zcp]
 |f+1,lo,hi=>by
  rw[zcp]
  split
  ·rw[List.length_cons]
   split
   ·have:=zgf ps sec f lo (zas ps lo hi).2;omega
   ·have:=zgf ps sec f ((zas ps lo hi).2+1) hi;omega
  ·simp
theorem znz{ps:List Int}(h:okOp ps=true):ps.length<=9:=by
 unfold okOp at h;rw[Bool.and_eq_true] at h;exact of_decide_eq_true h.2
theorem zjt(ps:List Int)(sec:Int):(seaC ps sec).1.length<=1048576:=by
 unfold seaC
 split
 ·simp
 ·rename_i h
  split
  ·simp
  ·have hl:=znz (by simpa using h);have hn:=zgf ps sec (((ps.length:Int)-0).toNat) 0 ps.length;show(zcp ps sec (((ps.length:Int)-0).toNat) 0 ps.length).length<=1048576;omega
theorem zjh{ps:List Int}(h:okOp ps=true)(sec:Int)(hl:ps.length<=1000):∀(f:Nat) (lo hi:Int),0<=lo->hi<=ps.length->∀v∈zcp ps sec f lo hi,0<=v/\v<ps.length
 |0,lo,hi,_,_,v,hv=>by rw[zcp] at hv;cases hv
 |f+1,lo,hi,h0,h1,v,hv=>by
  rw[zcp] at hv
  split at hv
  ·rename_i hlt;have hw:=(zcY h h0 (by omega) h1).1 hlt;rcases List.mem_cons.1 hv with rfl|hv
   ·omega
   ·split at hv
    ·exact zjh h sec hl f lo _ h0 (by omega) v hv
    ·exact zjh h sec hl f _ hi (by omega) h1 v hv
  ·cases hv
theorem znU{ps:List Int}(h:okOp ps=true):∀(l:List Int),(∀v∈l,0<=v/\v<ps.length)->0<=zb3 ps l/\zb3 ps l<=1000*(l.length:Int)
 | [],_=>⟨Int.le_refl _,by show(0:Int)<=_;simp⟩
 |k::r,hl=>by
  have h1:=hl k (by simp);have h2:=zfC h k h1.1 h1.2;have h3:=znU h r (fun v hv=>hl v (List.mem_cons_of_mem _ hv));rw[zb3,List.length_cons];omega
theorem zi7(ps:List Int)(sec:Int):(∀v∈(seaC ps sec).1,i64b v)/\i64b (seaC ps sec).2.1:=by
 unfold seaC
 split
 ·exact⟨fun v hv=>(by cases hv),by unfold i64b;decide⟩
 ·rename_i h
  split
  ·exact⟨fun v hv=>(by cases hv),by unfold i64b;decide⟩
  ·have hok:okOp ps=true:=by simpa using h
   have hl:=znz hok;have hb:=zjh hok sec (by omega) (((ps.length:Int)-0).toNat) 0 ps.length (Int.le_refl _) (Int.le_refl _);have hs:=znU hok _ hb;have hn:=zgf ps sec (((ps.length:Int)-0).toNat) 0 ps.length;refine⟨fun v hv=>?_,?_⟩
   ·have:=hb v hv;exact zcM (by omega) (by omega)
   ·show i64b (zb3 ps (zcp ps sec (((ps.length:Int)-0).toNat) 0 ps.length));exact zcM (by omega) (by omega)
theorem zul{l:List It}(hl:l.length<=1000){o R:List Int}{t:Int}(h:Sv l o t R)(ho:∀v∈o,i64b v):∀v∈R,i64b v:=by
 induction h with
 |done _=>exact ho
 |idle _ _ _ ih=>exact ih ho
 | @step o t R hlt hp hs ih=>
  refine ih fun v hv=>?_;rw[List.mem_append,List.mem_singleton] at hv;rcases hv with hv|rfl
  ·exact ho v hv
  ·rcases(zem l o t l 0 (-1) rfl (.inl rfl)).1 with e|⟨k,e,hk,_⟩
   ·rw[e];unfold i64b;decide
   ·rw[e];exact zcM (by omega) (by omega)
theorem zpe{l:List It}(h:okQ l=true):l.length<=12:=by
 unfold okQ at h;rw[Bool.and_eq_true] at h;exact of_decide_eq_true h.1
theorem zle(l:List It):∀v∈(srvC l).1,i64b v:=by
 unfold srvC
 split
 ·intro v hv;cases hv
 ·rename_i h;have hok:okQ l=true:=by simpa using h
  exact zul (by have:=zpe hok;omega) (zk7 hok) (fun v hv=>by cases hv)
theorem zpf:∀(l:List Sn) (i:Nat),l.length+i<=1000->∀v∈zbJ (outI l i),i64b v
 | [],i,_,v,hv=>by cases hv
 |s::l,i,h,v,hv=>by
  have ih:=zpf l (i+1) (by simp at h;omega);have hi:i64b (i:Int):=zcM (by omega) (by simp at h;omega);rw[outI] at hv
  split at hv
  ·simp only[List.cons_append,List.nil_append,zbJ,List.mem_cons] at hv;rcases hv with rfl|rfl|hv
   ·exact hi
   ·unfold i64b;decide
   ·exact ih v hv
  ·split at hv
   ·simp only[List.cons_append,List.nil_append,zbJ,List.mem_cons] at hv;rcases hv with rfl|rfl|hv
    ·exact hi
    ·unfold i64b;decide
    ·exact ih v hv
   ·exact ih v hv
theorem zio(D:Int)(ts:List Tl):∀v∈zbJ (za5 D ts).1,i64b v:=by
 unfold za5
 split
 ·intro v hv;cases hv
 ·rename_i h
  split
  ·intro v hv;cases hv
  ·have hok:okTr D ts=true:=by simpa using h
   have hD:1<=D/\D<=4:=by
    unfold okTr at hok;rw[Bool.and_eq_true] at hok;exact zam.1 hok.1
   refine zpf _ 0 ?_;rw[zeu];have:D.toNat=1\/D.toNat=2\/D.toNat=3\/D.toNat=4:=by omega
   rcases this with e|e|e|e<;>rw[e]<;>decide
theorem notW{s:ByteArray}{l l':List UInt8}(h:(s.toList==l)=true)(hne:(l==l')=false):(s.toList==l')=false:=by
 rw[eq_of_beq h];exact hne
theorem zpo{w w':World}{n:String}{cs:Array Value}{g B:Nat}(h:w.var? prog n=some cs)(hg:prog.globalNamed n=some g)(hB:g<B)(hb:Below B w w'):w'.var? prog n=some cs:=by
 unfold World.var? at h⊢;rw[hg] at h⊢;simp only[Option.bind_some] at h⊢;rw[hb.block g hB];exact h
theorem zdM{w w':World}{B:Nat}(h:TabP w)(hB:4<B)(hb:Below B w w'):TabP w':=by
 have e:prog.globalNamed "internal/strconv.uint64pow10" =some 4:=by kernel_rfl
 unfold TabP Lib.TabIs at h⊢;exact zpo h e hB hb
theorem zfZ{w w':World}{B:Nat}(h:SynP w)(hB:4<B)(hb:Below B w w'):SynP w':=by
 obtain⟨tp,p,h⟩:=h;have e:prog.globalNamed "strconv.ErrSyntax" =some 2:=by kernel_rfl
 exact⟨tp,p,zpo h e (Nat.lt_trans (by decide) hB) hb⟩
theorem zhW{w w':World}{B:Nat}{m:Int}(h:w.cell? ⟨1,0,none⟩=some (.int .i64 m))(hB:4<B)(hb:Below B w w'):w'.cell? ⟨1,0,none⟩=some (.int .i64 m):=
 (hb.cell (p:=⟨1,0,none⟩) (Nat.lt_trans (show 1<4 by decide) hB)).trans h
theorem CnP.upB{w w':World}{B:Nat}(h:CnP w)(hB:4<B)(hb:Below B w w'):CnP w':=fun i x hx=>
 (hb.cell (p:=⟨0,i,none⟩) (Nat.lt_trans (show 0<4 by decide) hB)).trans (h i x hx)
structure ExIn (w:World) (lo g:Nat) (h:DkH) (d:Dk) (rh:List RnH) (WA:Option Addr) (wn:Nat) (ws:List ByteArray) (NA:Option Addr) (nn:Nat) (ns:List Int) (m:Int):Prop where
 blk:Blk w g 32 #[.int .i64 d.net.sta,.slice h.A1 h.n1 h.c1,.slice h.A2 h.n2 h.c2,.slice h.A3 h.n3 h.c3,.string d.log]
 own:OwnD w lo w.heap.size h d rh
 gne:∀b,inD h rh b->b≠g
 glo:lo<=g
 small:DkS h d
 ok:okDk d=true
 wsr:zad w lo 1 WA wn (strs ws)
 nsr:zad w w.heap.size 1 NA nn (ints ns)
 wl:wn<=1048577
 nl:nn<=1048576
 wsz:∀x∈ws,x.size<=1048576
 nsb:∀x∈ns,i64b x
 max:w.cell? ⟨1,0,none⟩=some (.int .i64 m)
 tab:TabP w
 syn:SynP w
 low:4<lo
structure zdO (w w':World) (lo g:Nat) (h':DkH) (d':Dk) (rh':List RnH) (LA:Option Addr) (ln lc:Nat) (lines:List ByteArray):Prop where
 blk:Blk w' g 32 #[.int .i64 d'.net.sta,.slice h'.A1 h'.n1 h'.c1,.slice h'.A2 h'.n2 h'.c2,.slice h'.A3 h'.n3 h'.c3,.string d'.log]
 own:OwnD w' lo w'.heap.size h' d' rh'
 gne:∀b,inD h' rh' b->b≠g
 row:Sl w' lo w'.heap.size 9 1 LA ln lc (strs lines)
 lne:∀b,inB LA b->¬inD h' rh' b
 lng:∀b,inB LA b->b≠g
 bel:Below lo w w'
theorem ExIn.out{w w':World}{lo g:Nat}{h:DkH}{d:Dk}{rh:List RnH}{WA NA:Option Addr}{wn nn:Nat}{ws:List ByteArray}{ns:List Int}{m:Int}(x:ExIn w lo g h d rh WA wn ws NA nn ns m)(hb:Below w.heap.size w w'){LA:Option Addr}{ln lc:Nat}{lines:List ByteArray}(hs:Sl w' w.heap.size w'.heap.size 9 1 LA ln lc (strs lines)):zdO w w' lo g h d rh LA ln lc lines:=by
 have hg:=x.blk.lt;have hl:=x.glo;have hlo:lo<=w.heap.size:=by omega
 refine⟨x.blk.on hb,(x.own.on hb).wide lr hb.size,x.gne,hs.wide hlo lr,fun b hb' hd=>?_,fun b hb' e=>?_,hb.mono hlo⟩
 ·have:=hs.inB_lt hb';have:=x.own.inD_lt hd;omega
 ·have:=hs.inB_lt hb';omega
theorem Sl.one9{W:World}{lo:Nat}{s:ByteArray}(hb:lo<=W.heap.size):Sl (W.alloc (.cells #[.string s] 9)) lo (W.alloc (.cells #[.string s] 9)).heap.size 9 1 (some ⟨W.heap.size,0,none⟩) 1 1 (strs [s]):=
 Sl.of_blk (xs:=[.string s]) (Blk.new _ _ _) hb (by simp) rfl (by decide)
theorem zoo {w:World} {lo g:Nat} {h:DkH} {d:Dk} {rh:List RnH} {WA NA:Option Addr} {wn nn:Nat} {ws:List ByteArray} {ns:List Int} {m:Int} (wc nc:Nat) (x:ExIn w lo g h d rh WA wn ws NA nn ns m) (h0:0 < wn) (hw:((zag ws 0).toList == [119,97,121]) = true) (hn:2 <= nn) :
  Calls prog 36 #[.pointer (some ⟨g,0,none⟩),.slice WA wn wc,.slice NA nn nc] w fun e w'=>∃LA ln lc,e= .returned (.tuple #[.slice LA ln lc,.int .i64 (execF d ws ns).code])/\∃h' rh',zdO w w' lo g h' (execF d ws ns).dk rh' LA ln lc (execF d ws ns).lines:=by
 have HX:=hid (show execF d ws ns=zfa d ns by unfold execF;rw[eq_of_beq hw];rfl);have e0:=notW (l':=[110,101,116]) hw (by decide);have XI:=hid x;obtain⟨s,b0,o0,hs0,rfl,hb0,k0⟩:=zaP x.wsr h0;rw[Nat.add_zero] at k0;have hsw:zag ws 0=s:=by unfold zag;rw[List.getD_eq_getElem?_getD,hs0];rfl
 rw[hsw] at hw e0;obtain⟨c0,c1,c2,c3,c4⟩:=zaq x.blk;obtain⟨n0,bn0,on0,hn0,hNA0,_,q0⟩:=zax x.nsr (k:=0) (by omega);subst hNA0;rw[Nat.add_zero] at q0;have HN0:=hid (show zal ns 0=n0 by unfold zal;rw[List.getD_eq_getElem?_getD,hn0];rfl);obtain⟨n1,bn1,on1,hn1,hNA1,_,q1⟩:=zax x.nsr (k:=1) (by omega);injection hNA1 with hNA1;injection hNA1 with hNb1 hNo1;subst hNb1;subst hNo1;have HN1:=hid (show zal ns 1=n1 by unfold zal;rw[List.getD_eq_getElem?_getD,hn1];rfl);have hi0:0<nn:=by omega
 have hii1:(1:Int)<nn:=by omega
 clear x hs0 hsw hn0 hn1;go_enter func36,ntmps36
 go_wp2_with fail
 refine ez (fun V=>Below w.heap.size w V) ?_ fun hHeld=>?_
 ·exact(Below.refl _ _).drew
 refine dq 0 rfl (h:=dq 1 rfl (h:=dq 2 rfl (h:=dq 3 rfl (hy:=by intro w hSw;(try dsimp only at hSw);(have y0:=zaa hSw c0);(have y1:=zaa hSw c1);(try have z2:=zaa hSw q2);go_simp;try with_reducible rfl) (h:=dq 4 rfl (h:=dq 5 rfl (h:=dq 6 rfl (hy:=by intro w hSw;(try dsimp only at hSw);(try have z0:=zaa hSw q0);(try have z2:=zaa hSw q2);go_simp;try with_reducible rfl) (h:=dq 7 rfl (h:=?_))))))));refine dq 8 rfl (h:=dq 9 rfl (hy:=by intro w hSw;(try dsimp only at hSw);(try have z1:=zaa hSw q1);(try have z2:=zaa hSw q2);go_simp;try with_reducible rfl) (h:=?_));refine rd 10 rfl fun K hK=>?_;go_simp
 refine(zor h.A1 h.n1 h.c1 w.heap.size d.net n0 n1 _ ((XI.out.own.tubes.reads lr).on lr hHeld) hHeld.size XI.out.small.n1).mono ?_;rintro e w5 ⟨A5,m5,d5,rfl,s5,b5⟩;have HS5:=hid s5
 go_wp2_with fail
 refine ke hK ?_ ?_
 ·exact zac hHeld b5 lr
 clear hK K hHeld;intro hHeld;refine dq 11 rfl (h:=dq 12 rfl (h:=dq 13 rfl (h:=dq 14 rfl (h:=dq 15 rfl (h:=?_)))));refine dn ?_;have HB5:=hid hHeld;clear hHeld;have HWB:=hid (zlm d.net n0 n1);obtain⟨wl,hwl⟩:∃z,wayC d.net n0 n1=z:=⟨_,rfl⟩
 rw[hwl] at HS5 HWB⊢;have HWL:=hid hwl;have HXF:=hid (show execF d ws ns=⟨d,[zab (zaI wl.1)],wl.2⟩ by rw[HX.out,zfa,HN0.out,HN1.out,hwl]);clear hwl;have hm5:m5<=1048576:=by have h1:=zai (HS5.out.reads lr);have h2:=zj7 d.net n0 n1;rw[HWL.out] at h2;omega
 go_wp2_with fail
 refine(zcV A5 m5 d5 w5.heap.size wl.1 w5 (HS5.out.reads lr) lr hm5 HWB.out (zaw XI.out.tab HB5.out)).mono ?_;rintro e w6 ⟨rfl,b6⟩;have HB6:=hid (zac HB5.out b6 lr);clear b6;go_wp2;go_ret2;have hz:=HB6.out.size;exact⟨_,_,_,by rw[HXF.out];rfl,h,rh,by rw[HXF.out];exact XI.out.out (HB6.out.alloc hz _) (Sl.one9 hz)⟩
theorem zmQ {w:World} {lo g:Nat} {h:DkH} {d:Dk} {rh:List RnH} {WA NA:Option Addr} {wn nn:Nat} {ws:List ByteArray} {ns:List Int} {m:Int} (wc nc:Nat) (x:ExIn w lo g h d rh WA wn ws NA nn ns m) (h0:0 < wn) (hw:((zag ws 0).toList == [102,114,101,101]) = true) (hn:3 <= nn) :
  Calls prog 36 #[.pointer (some ⟨g,0,none⟩),.slice WA wn wc,.slice NA nn nc] w fun e w'=>∃LA ln lc,e= .returned (.tuple #[.slice LA ln lc,.int .i64 (execF d ws ns).code])/\∃h' rh',zdO w w' lo g h' (execF d ws ns).dk rh' LA ln lc (execF d ws ns).lines:=by
 have HX:=hid (show execF d ws ns=zeV d ns by unfold execF;rw[eq_of_beq hw];rfl);have e0:=notW (l':=[110,101,116]) hw (by decide);have e1:=notW (l':=[119,97,121]) hw (by decide);have e2:=notW (l':=[116,105,109,101,115]) hw (by decide);have e3:=notW (l':=[114,117,110]) hw (by decide);have e4:=notW (l':=[114,117,110,115]) hw (by decide);have XI:=hid x;obtain⟨s,b0,o0,hs0,rfl,hb0,k0⟩:=zaP x.wsr h0;rw[Nat.add_zero] at k0;have hsw:zag ws 0=s:=by unfold zag;rw[List.getD_eq_getElem?_getD,hs0];rfl
 rw[hsw] at hw e0 e1 e2 e3 e4;obtain⟨c0,c1,c2,c3,c4⟩:=zaq x.blk;obtain⟨n0,bn0,on0,hn0,hNA0,_,q0⟩:=zax x.nsr (k:=0) (by omega);subst hNA0;rw[Nat.add_zero] at q0;have HN0:=hid (show zal ns 0=n0 by unfold zal;rw[List.getD_eq_getElem?_getD,hn0];rfl);obtain⟨n1,bn1,on1,hn1,hNA1,_,q1⟩:=zax x.nsr (k:=1) (by omega);injection hNA1 with hNA1;injection hNA1 with hNb1 hNo1;subst hNb1;subst hNo1;have HN1:=hid (show zal ns 1=n1 by unfold zal;rw[List.getD_eq_getElem?_getD,hn1];rfl);obtain⟨n2,bn2,on2,hn2,hNA2,_,q2⟩:=zax x.nsr (k:=2) (by omega);injection hNA2 with hNA2;injection hNA2 with hNb2 hNo2;subst hNb2;subst hNo2;have HN2:=hid (show zal ns 2=n2 by unfold zal;rw[List.getD_eq_getElem?_getD,hn2];rfl)
 have hi0:0<nn:=by omega
 have hii1:(1:Int)<nn:=by omega
 have hii2:(2:Int)<nn:=by omega
 clear x hs0 hsw hn0 hn1 hn2;go_enter func36,ntmps36
 go_wp2_with fail
 refine ez (fun V=>Below w.heap.size w V) ?_ fun hHeld=>?_
 ·exact(Below.refl _ _).drew
 refine dq 0 rfl (h:=dq 1 rfl (h:=dq 2 rfl (h:=dq 3 rfl (hy:=by intro w hSw;(try dsimp only at hSw);(have y2:=zaa hSw c2);go_simp;try with_reducible rfl) (h:=dq 4 rfl (h:=dq 5 rfl (h:=dq 6 rfl (h:=dq 7 rfl (hy:=by intro w hSw;(try dsimp only at hSw);(have y3:=zaa hSw c3);go_simp;try with_reducible rfl) (h:=?_))))))));refine dq 8 rfl (h:=dq 9 rfl (h:=dq 10 rfl (hy:=by intro w hSw;(try dsimp only at hSw);(try have z0:=zaa hSw q0);go_simp;try with_reducible rfl) (h:=dq 11 rfl (h:=dq 12 rfl (h:=dq 13 rfl (hy:=by intro w hSw;(try dsimp only at hSw);(try have z1:=zaa hSw q1);go_simp;try with_reducible rfl) (h:=dq 14 rfl (h:=dq 15 rfl (h:=?_))))))))
 refine dq 16 rfl (hy:=by intro w hSw;(try dsimp only at hSw);(try have z2:=zaa hSw q2);go_simp;try with_reducible rfl) (h:=?_);refine rd 17 rfl fun K hK=>?_;go_simp;refine(zmY h.A2 h.n2 h.c2 d.times h.A3 h.n3 h.c3 d.runs w.heap.size n0 n1 n2 _ ((XI.out.own.times.reads lr).on lr hHeld) ((XI.out.own.runs.reads lr).on lr hHeld) hHeld.size XI.out.small.n2 XI.out.small.n3 XI.out.small.runs).mono ?_;rintro e w5 ⟨rfl,b5⟩
 go_wp2_with fail
 refine ke hK ?_ ?_
 ·exact zac hHeld b5 lr
 clear hK K hHeld;intro hHeld;refine dq 18 rfl (h:=dq 19 rfl (h:=dq 20 rfl (h:=dq 21 rfl (h:=dq 22 rfl (h:=?_)))));refine dn ?_;have HB5:=hid hHeld;clear hHeld;obtain⟨wl,hwl⟩:∃z,zbA d.times d.runs n0 n1 n2=z:=⟨_,rfl⟩
 rw[hwl];have HXF:=hid (show execF d ws ns=⟨d,[if wl.1=true then ⟨#[121,101,115]⟩ else ⟨#[110,111]⟩],wl.2⟩ by rw[HX.out,zeV,HN0.out,HN1.out,HN2.out,hwl]);clear hwl;obtain⟨w1,w2⟩:=wl;have hz:=HB5.out.size
 cases w1
 ·go_wp2;go_ret2;exact⟨_,_,_,by rw[HXF.out];rfl,h,rh,by rw[HXF.out];exact XI.out.out (HB5.out.alloc hz _) (Sl.one9 hz)⟩
 ·go_wp2;go_ret2;exact⟨_,_,_,by rw[HXF.out];rfl,h,rh,by rw[HXF.out];exact XI.out.out (HB5.out.alloc hz _) (Sl.one9 hz)⟩
theorem zkR {w:World} {lo g:Nat} {h:DkH} {d:Dk} {rh:List RnH} {WA NA:Option Addr} {wn nn:Nat} {ws:List ByteArray} {ns:List Int} {m:Int} (wc nc:Nat) (x:ExIn w lo g h d rh WA wn ws NA nn ns m) (h0:0 < wn) (hw:((zag ws 0).toList == [115,101,97,114,99,104]) = true) (hn:1 <= nn) (hcap:nn <= nc) :
  Calls prog 36 #[.pointer (some ⟨g,0,none⟩),.slice WA wn wc,.slice NA nn nc] w fun e w'=>∃LA ln lc,e= .returned (.tuple #[.slice LA ln lc,.int .i64 (execF d ws ns).code])/\∃h' rh',zdO w w' lo g h' (execF d ws ns).dk rh' LA ln lc (execF d ws ns).lines:=by
 have HX:=hid (show execF d ws ns=zcN d ns by unfold execF;rw[eq_of_beq hw];rfl);have e0:=notW (l':=[110,101,116]) hw (by decide);have e1:=notW (l':=[119,97,121]) hw (by decide);have e2:=notW (l':=[116,105,109,101,115]) hw (by decide);have e3:=notW (l':=[114,117,110]) hw (by decide);have e4:=notW (l':=[114,117,110,115]) hw (by decide);have e5:=notW (l':=[102,114,101,101]) hw (by decide);have XI:=hid x;obtain⟨s,b0,o0,hs0,rfl,hb0,k0⟩:=zaP x.wsr h0;rw[Nat.add_zero] at k0;have hsw:zag ws 0=s:=by unfold zag;rw[List.getD_eq_getElem?_getD,hs0];rfl
 rw[hsw] at hw e0 e1 e2 e3 e4 e5;obtain⟨c0,c1,c2,c3,c4⟩:=zaq x.blk;obtain⟨n0,bn0,on0,hn0,hNA0,_,q0⟩:=zax x.nsr (k:=0) (by omega);subst hNA0;rw[Nat.add_zero] at q0;have HN0:=hid (show zal ns 0=n0 by unfold zal;rw[List.getD_eq_getElem?_getD,hn0];rfl);have hi0:0<nn:=by omega
 obtain⟨TA,hTA⟩:∃z,(if nc=1 then some (⟨bn0,on0,none⟩:Addr) else some ⟨bn0,on0+1,none⟩)=z:=⟨_,rfl⟩
 have hi9:(1:Int)<=nn:=by omega
 have hSB:=(show zad w w.heap.size 1 TA (nn-1) (ints (ns.drop 1)) by
  have hl:=zai x.nsr;by_cases h1:nc=1
  ·rw[if_pos h1] at hTA;refine⟨by simp[ints];omega,fun h=>by omega⟩
  ·rw[if_neg h1] at hTA;rw[<-hTA];have hr:=x.nsr.sub (i:=1) (m:=nn-1) (by omega);rwa[show((ints ns).drop 1).take (nn-1)=ints (ns.drop 1) by rw[List.take_of_length_le (by simp[ints];omega)];simp[ints]] at hr)
 obtain⟨tl,htl⟩:∃z,ns.drop 1=z:=⟨_,rfl⟩
 rw[htl] at hSB;have HTL:=hid htl;have HSB:=hid hSB;clear htl hSB;clear x hs0 hsw hn0;go_enter func36,ntmps36
 go_wp2_with fail
 refine ez (fun V=>Below w.heap.size w V) ?_ fun hHeld=>?_
 ·exact(Below.refl _ _).drew
 refine dq 0 rfl (h:=dq 1 rfl (h:=dq 2 rfl (h:=dq 3 rfl (h:=dq 4 rfl (hy:=by intro w hSw;(try dsimp only at hSw);(try have z0:=zaa hSw q0);(try have z1:=zaa hSw q1);(try have z2:=zaa hSw q2);go_simp;try with_reducible rfl) (h:=?_)))));refine rd 5 rfl fun K hK=>?_;go_simp;refine(zkU TA (nn-1) (nc-1) w.heap.size tl n0 _ (HSB.out.on lr hHeld) hHeld.size (by have:=XI.out.nl;omega)).mono ?_;rintro e w5 ⟨A5,m5,d5,rfl,s5,b5⟩;have HS5:=hid s5
 go_wp2_with fail
 refine ke hK ?_ ?_
 ·exact zac hHeld b5 lr
 clear hK K hHeld;intro hHeld;refine dq 6 rfl (h:=dq 7 rfl (h:=dq 8 rfl (h:=dq 9 rfl (h:=dq 10 rfl (h:=dq 11 rfl (h:=dq 12 rfl (h:=?_)))))));refine dn ?_;have HB5:=hid hHeld;clear hHeld;have HWB:=hid (zi7 tl n0);have HWLN:=hid (zjt tl n0);obtain⟨wl,hwl⟩:∃z,seaC tl n0=z:=⟨_,rfl⟩
 rw[hwl] at HS5 HWB HWLN⊢;have HXF:=hid (show execF d ws ns=⟨d,[zab (zaI wl.1),zab (itoa wl.2.1)],wl.2.2⟩ by rw[HX.out,zcN,HN0.out,HTL.out,hwl]);clear hwl;have hm5:m5<=1048576:=by have h1:=zai (HS5.out.reads lr);have h2:=HWLN.out;omega
 go_wp2_with fail
 refine(zcV A5 m5 d5 w5.heap.size wl.1 w5 (HS5.out.reads lr) lr hm5 HWB.out.1 (zaw XI.out.tab HB5.out)).mono ?_;rintro e w6 ⟨rfl,b6⟩;have HB6:=hid (zac HB5.out b6 lr);clear b6
 go_wp2_with fail
 refine(zaL wl.2.1 w6 HWB.out.2.1 HWB.out.2.2 (zaw XI.out.tab HB6.out)).mono ?_;rintro e w7 ⟨rfl,b7⟩;have HB7:=hid (zac HB6.out b7 lr);clear b7;go_wp2;go_ret2;have hz:=HB7.out.size;exact⟨_,_,_,by rw[HXF.out];rfl,h,rh,by rw[HXF.out];exact XI.out.out (HB7.out.alloc hz _) (Sl.of_blk (xs:=[.string (zab (zaI wl.1)),.string (zab (itoa wl.2.1))]) (Blk.new _ _ _) hz (by simp) rfl (by decide))⟩
theorem OwnD.newTimes {u:World} {lo hi:Nat} {h:DkH} {d:Dk} {rh:List RnH} {A5:Option Addr} {n5 d5:Nat} {ts:List Int} (k:OwnD u lo hi h d rh) (s:Sl u hi u.heap.size 2 1 A5 n5 d5 (ints ts)) (hl:lo <= hi) (hh:hi <= u.heap.size) :
  OwnD u lo u.heap.size ⟨h.A1,h.n1,h.c1,A5,n5,d5,none,0,0⟩ ⟨d.net,ts,[],d.log⟩ []:=by
 refine⟨k.tubes.wide lr hh,s.wide hl lr,OwnR.nil _ _ _,fun b hb hc=>?_,fun b hb hc=>?_,fun b hb hc=>?_⟩
 ·have:=k.tubes.inB_lt hb;have:=s.inB_lt hc;omega
 ·rcases hc with hc|⟨i,y,hy,_⟩
  ·exact zb4 hc
  ·simp at hy
 ·rcases hc with hc|⟨i,y,hy,_⟩
  ·exact zb4 hc
  ·simp at hy
theorem zd8{ts:List Int}(h:zaK ts=true):1<=ts.length/\ts.length<=24:=by
 unfold zaK at h;rw[Bool.and_eq_true] at h;have:=zam.1 h.1;omega
theorem zms {w:World} {lo g:Nat} {h:DkH} {d:Dk} {rh:List RnH} {WA NA:Option Addr} {wn nn:Nat} {ws:List ByteArray} {ns:List Int} {m:Int} (wc nc:Nat) (x:ExIn w lo g h d rh WA wn ws NA nn ns m) (h0:0 < wn) (hw:((zag ws 0).toList == [116,105,109,101,115]) = true) :
  Calls prog 36 #[.pointer (some ⟨g,0,none⟩),.slice WA wn wc,.slice NA nn nc] w fun e w'=>∃LA ln lc,e= .returned (.tuple #[.slice LA ln lc,.int .i64 (execF d ws ns).code])/\∃h' rh',zdO w w' lo g h' (execF d ws ns).dk rh' LA ln lc (execF d ws ns).lines:=by
 have HX:=hid (show execF d ws ns=zcG d ns by unfold execF;rw[eq_of_beq hw];rfl);have e0:=notW (l':=[110,101,116]) hw (by decide);have e1:=notW (l':=[119,97,121]) hw (by decide);have XI:=hid x;obtain⟨s,b0,o0,hs0,rfl,hb0,k0⟩:=zaP x.wsr h0;rw[Nat.add_zero] at k0;have hsw:zag ws 0=s:=by unfold zag;rw[List.getD_eq_getElem?_getD,hs0];rfl
 rw[hsw] at hw e0 e1;obtain⟨c0,c1,c2,c3,c4⟩:=zaq x.blk;clear x hs0 hsw;go_enter func36,ntmps36
 go_wp2_with fail
 refine(zgD NA nn nc w.heap.size ns w XI.out.nsr lr XI.out.nl).mono ?_;rintro e w1 ⟨rfl,b1⟩;have HB1:=hid b1;clear b1;rcases ho:zaK ns with _|_
 ·have HXF:=hid (show execF d ws ns=⟨d,[],1⟩ by rw[HX.out,zcG,if_pos ho]);go_wp2;go_ret2;exact⟨none,0,0,by rw[HXF.out];rfl,h,rh,by rw[HXF.out];exact XI.out.out HB1.out (Sl.nil _ _ _ _ _)⟩
 have HXF:=hid (show execF d ws ns=⟨⟨d.net,ns,[],d.log⟩,[zcc ⟨d.net,ns,[],d.log⟩],0⟩ by rw[HX.out,zcG,if_neg (by rw[ho];decide)]);have hnl:=zd8 ho;have hnn:=zai XI.out.nsr;obtain⟨y0,b2,o2,_,rfl,_,_⟩:=zax XI.out.nsr (k:=0) (by omega);have HPL:=hid (show zd6 (some (⟨b2,o2,none⟩:Addr)) from fun ad had=>by injection had with had;rw[<-had]);have hnn2:nn<=24:=by omega
 clear ho hnl hnn
 go_wp2_with fail
 refine(zaR _ nn nc w.heap.size ns w1 HPL.out (XI.out.nsr.on lr HB1.out) XI.out.nl).mono ?_;rintro e w2 ⟨A5,d5,rfl,s5,b5⟩;have HB2:=hid (zac HB1.out b5 lr);have HS5:=hid (s5.wide HB1.out.size lr);clear b5 s5;have Y2:=XI.out.blk.on HB2.out;have f2:=Y2.frozen 2;have f3:=Y2.frozen 3;replace c2:=zaa HB2.out c2;replace c3:=zaa HB2.out c3;have HY2:=hid Y2;clear Y2 c0 c1 c4
 go_upto_region 15 with fail
 obtain⟨u,hu⟩:∃y,(w2.setCell ⟨g,2,none⟩ (.slice A5 nn d5)).setCell ⟨g,3,none⟩ (.slice none 0 0)=y:=⟨_,rfl⟩
 have yu:Blk u g 32 #[.int .i64 d.net.sta,.slice h.A1 h.n1 h.c1,.slice A5 nn d5,.slice none 0 0,.string d.log]:=by
  rw[<-hu];have:=(HY2.out.set_ 2 (.slice A5 nn d5)).set_ 3 (.slice none 0 0);simpa using this
 have ho:Only g (g+1) w2 u:=by
  rw[<-hu];exact((Only.refl g (g+1) w2).setCell (p:=⟨g,2,none⟩) lr (Nat.lt_succ_self _) _).setCell (p:=⟨g,3,none⟩) lr (Nat.lt_succ_self _) _
 rw[hu];have hgw:=XI.out.blk.lt;have hgl:=XI.out.glo;have su:=HS5.out.apart ho (.inr (by omega));have ou:=(XI.out.own.on HB2.out).off (S:=fun b=>b=g) ⟨ho.os,ho.tape,ho.output,ho.size,fun k hk hn=>ho.block k hk (by omega)⟩ (fun b hb=>XI.out.gne b hb);have hz2:w.heap.size<=u.heap.size:=Nat.le_trans HB2.out.size ho.size;have on_:=ou.newTimes (su.low) (by omega) hz2;have bu:Below lo w u:=(HB2.out.mono (by omega)).trans (ho.below (by omega) (by have:=HB2.out.size;omega));have HYU:=hid yu;have HSL:=hid su.low;have HON:=hid on_;have HBU:=hid bu;obtain⟨d0,d1,d2,d3,d4⟩:=zaq yu;clear hu yu ho hgw hgl su ou hz2 on_ bu c2 c3 f2 f3
 go_wp2_with fail
 have hsm:DkS ⟨h.A1,h.n1,h.c1,A5,nn,d5,none,0,0⟩ ⟨d.net,ns,[],d.log⟩:=⟨XI.out.small.n1,by show nn<=1048576;omega,by show 0<=1048576;omega,fun k r hk=>by simp at hk,XI.out.small.log⟩
 refine(zfI ⟨h.A1,h.n1,h.c1,A5,nn,d5,none,0,0⟩ ⟨d.net,ns,[],d.log⟩ m u.heap.size u (HON.out.reads lr) hsm lr (zhW XI.out.max XI.out.low HBU.out) (zdM XI.out.tab XI.out.low HBU.out) (zfZ XI.out.syn XI.out.low HBU.out)).mono ?_;rintro e w7 ⟨rfl,b7⟩;have HB7:=hid b7;clear b7 hsm;go_wp2;go_ret2;have hz:=HB7.out.size;have b8:=HB7.out.alloc hz (.cells #[.string (zcc ⟨d.net,ns,[],d.log⟩)] 9);refine⟨_,_,_,by rw[HXF.out];rfl,⟨h.A1,h.n1,h.c1,A5,nn,d5,none,0,0⟩,[],?_⟩;rw[HXF.out];have hgw:=HYU.out.lt;have hgl:=XI.out.glo;have s8:=Sl.one9 (W:=w7) (s:=zcc ⟨d.net,ns,[],d.log⟩) hz
 refine⟨HYU.out.on b8,(HON.out.on b8).wide lr b8.size,fun b hb e=>?_,s8.wide (by omega) lr,fun b hb hd=>?_,fun b hb e=>?_,HBU.out.trans (b8.mono (by omega))⟩
 ·rcases hb with hb|hb|hb
  ·exact XI.out.gne b (.inl hb) e
  ·have:=HSL.out.inB_lt hb;have:=XI.out.blk.lt;omega
  ·rcases hb with hb|⟨i,y,hy,_⟩
   ·exact zb4 hb
   ·simp at hy
 ·have:=s8.inB_lt hb;have:=HON.out.inD_lt hd;omega
 ·have:=s8.inB_lt hb;omega
theorem zm3 (c:UInt8) (b off d:Nat) (xs:List ByteArray) (w:World) (hc:∀ (j:Nat) x,xs[j]? = some x -> w.cell? ⟨b,off + j,none⟩ = some (.string x)) (hb:b < w.heap.size) (h0:0 < xs.length) (hn:xs.length <= 1048577) (hd:xs.length <= d) (hl:(zaF c (xs.map fun s=>s.data.toList)).length <= 140737488355328) :
  Calls prog 80 #[.slice (some ⟨b,off,none⟩) xs.length d,.string ⟨#[c]⟩] w fun e w'=>e= .returned (.string (zab (zaF c (xs.map fun s=>s.data.toList))))/\Below w.heap.size w w':=by
 refine(Tryz.strings_Join b off d xs ⟨#[c]⟩ w hc hb (by omega) hd (by rw[show(⟨#[c]⟩:ByteArray).data.toList=[c] from rfl,ze4];exact hl)).mono ?_;rintro e w' ⟨rfl,b⟩;exact⟨by rw[show(⟨#[c]⟩:ByteArray).data.toList=[c] from rfl,ze4];rfl,b⟩
theorem OwnD.newTubes {u:World} {lo hi:Nat} {h:DkH} {d:Dk} {rh:List RnH} {A5:Option Addr} {n5 d5:Nat} {nt:Nt} (k:OwnD u lo hi h d rh) (s:Sl u hi u.heap.size 101 3 A5 n5 d5 (tbs nt.tubes)) (hl:lo <= hi) (hh:hi <= u.heap.size) :
  OwnD u lo u.heap.size ⟨A5,n5,d5,h.A2,h.n2,h.c2,h.A3,h.n3,h.c3⟩ ⟨nt,d.times,d.runs,d.log⟩ rh:=by
 refine⟨s.wide hl lr,k.times.wide lr hh,k.runs.wide lr hh,fun b hb hc=>?_,fun b hb hc=>?_,k.n2r⟩
 ·have:=s.inB_lt hb;have:=k.times.inB_lt hc;omega
 ·have:=s.inB_lt hb;have:=k.runs.inRn_lt hc;omega
theorem zom {w:World} {lo g:Nat} {h:DkH} {d:Dk} {rh:List RnH} {WA NA:Option Addr} {wn nn:Nat} {ws:List ByteArray} {ns:List Int} {m:Int} (wc nc:Nat) (x:ExIn w lo g h d rh WA wn ws NA nn ns m) (h0:0 < wn) (hw:((zag ws 0).toList == [110,101,116]) = true) (hcap:wn <= wc) (h2:2 <= wn) (hsz:(zaF 32 ((ws.drop 1).map fun s=>s.data.toList)).length <= 1048576) :
  Calls prog 36 #[.pointer (some ⟨g,0,none⟩),.slice WA wn wc,.slice NA nn nc] w fun e w'=>∃LA ln lc,e= .returned (.tuple #[.slice LA ln lc,.int .i64 (execF d ws ns).code])/\∃h' rh',zdO w w' lo g h' (execF d ws ns).dk rh' LA ln lc (execF d ws ns).lines:=by
 have HX:=hid (show execF d ws ns=netC d ws by unfold execF;rw[if_pos hw]);have XI:=hid x;obtain⟨s,b0,o0,hs0,rfl,hb0,k0⟩:=zaP x.wsr h0;rw[Nat.add_zero] at k0;have hsw:zag ws 0=s:=by unfold zag;rw[List.getD_eq_getElem?_getD,hs0];rfl
 rw[hsw] at hw;obtain⟨c0,c1,c2,c3,c4⟩:=zaq x.blk;have hwl:ws.length=wn:=zs5 x.wsr
 have HJ:=hid (show∀(j:Nat) y,(ws.drop 1)[j]?=some y->w.cell? ⟨b0,o0+1+j,none⟩=some (.string y) from fun j y hy=>by
  have:=x.wsr.cells (1+j) (.string y) (zeQ (by rw[List.getElem?_drop] at hy;exact hy));rwa[show o0+(1+j)=o0+1+j by omega] at this)
 have HB0:=hid (show b0<w.heap.size by have:=x.blk.lt;have:=x.glo;omega);obtain⟨tl,htl⟩:∃z,ws.drop 1=z:=⟨_,rfl⟩
 have htlen:tl.length=wn-1:=by rw[<-htl,List.length_drop,hwl]
 rw[htl] at HJ hsz;have HTL:=hid htl;have HLE:=hid htlen;have HSZ:=hid hsz;have hw1:(1:Int)<=wn:=by omega
 have hw2:¬wc=1:=by omega
 clear htl htlen hwl hsz;clear x hs0 hsw;go_enter func36,ntmps36
 go_wp2_with fail
 have hcall:=zm3 32 b0 (o0+1) (wc-1) tl w HJ.out HB0.out (by rw[HLE.out];omega) (by rw[HLE.out];have:=XI.out.wl;omega) (by rw[HLE.out];omega) (by have:=HSZ.out;omega);rw[HLE.out] at hcall;refine hcall.mono ?_;rintro e w1 ⟨rfl,b1⟩;have HB1:=hid b1;clear b1 hcall;obtain⟨J,hJ⟩:∃z,zab (zaF 32 (tl.map fun s=>s.data.toList))=z:=⟨_,rfl⟩
 have HJJ:=hid (show zaF 32 (tl.map fun s=>s.data.toList)=J.data.toList by rw[<-hJ,zaf]);have HJZ:=hid (show J.size<=1048576 by rw[<-hJ,zaj];exact HSZ.out);rw[hJ];have HJE:=hid hJ;clear hJ
 go_wp2_with fail
 refine(zgh J m w1 HJZ.out (zaa HB1.out XI.out.max) (zaw XI.out.tab HB1.out) (zbk XI.out.syn HB1.out)).mono ?_;rintro e w2 ⟨A5,n5,d5,rfl,s5,b5⟩;have HB2:=hid (zac HB1.out b5 lr);have HS5:=hid (s5.wide HB1.out.size lr);clear b5 s5;obtain⟨nt,hnt⟩:∃z,netV J=z:=⟨_,rfl⟩
 rw[hnt] at HS5⊢
 go_upto_region 4 with fail
 obtain⟨u1,hu1⟩:∃y,w2.alloc (.cells #[.int .i64 nt.sta,.slice A5 n5 d5] 28)=y:=⟨_,rfl⟩
 have y1:Blk u1 w2.heap.size 28 #[.int .i64 nt.sta,.slice A5 n5 d5]:=by rw[<-hu1];exact Blk.new _ _ _
 have b1:Below w2.heap.size w2 u1:=by rw[<-hu1];exact bal _
 rw[hu1];have HB3:=hid (zac HB2.out b1 lr);have HS6:=hid (HS5.out.on b1).low;have t0:=y1.cellAt 0 (by simp);have t1:=y1.cellAt 1 (by simp);simp only[ly] at t0 t1;clear hu1 y1 b1;rcases ho:(netF J.data.toList).isSome with _|_
 ·have HXF:=hid (show execF d ws ns=⟨d,[],7⟩ by rw[HX.out,netC,HTL.out,HJJ.out,if_pos ho]);go_wp2;go_ret2;exact⟨none,0,0,by rw[HXF.out];rfl,h,rh,by rw[HXF.out];exact XI.out.out HB3.out (Sl.nil _ _ _ _ _)⟩
 obtain⟨nt',hnt'⟩:=Option.isSome_iff_exists.1 ho;obtain rfl:nt=nt':=by rw[<-hnt,zdr hnt']
 have HOK:=hid (zgn hnt').1
 have HXF:=hid (show execF d ws ns=⟨⟨nt,d.times,d.runs,d.log⟩,[zcc ⟨nt,d.times,d.runs,d.log⟩],0⟩ by
  rw[HX.out,netC,HTL.out,HJJ.out,if_neg (by rw[ho];decide)];have e:netV (zab J.data.toList)=nt:=by rw[<-HJJ.out,HJE.out,hnt]
  rw[e])
 clear hnt ho hnt';have Y2:=XI.out.blk.on HB3.out;have f0:=Y2.frozen 0;have f1:=Y2.frozen 1;replace c0:=zaa HB3.out c0;replace c1:=zaa HB3.out c1;have HY2:=hid Y2;clear Y2 c2 c3 c4
 go_upto_region 7 with fail
 obtain⟨u,hu⟩:∃y,(u1.setCell ⟨g,0,none⟩ (.int .i64 nt.sta)).setCell ⟨g,1,none⟩ (.slice A5 n5 d5)=y:=⟨_,rfl⟩
 have yu:Blk u g 32 #[.int .i64 nt.sta,.slice A5 n5 d5,.slice h.A2 h.n2 h.c2,.slice h.A3 h.n3 h.c3,.string d.log]:=by
  rw[<-hu];have:=(HY2.out.set_ 0 (.int .i64 nt.sta)).set_ 1 (.slice A5 n5 d5);simpa using this
 have ho:Only g (g+1) u1 u:=by
  rw[<-hu];exact((Only.refl g (g+1) u1).setCell (p:=⟨g,0,none⟩) lr (Nat.lt_succ_self _) _).setCell (p:=⟨g,1,none⟩) lr (Nat.lt_succ_self _) _
 rw[hu];have hgw:=XI.out.blk.lt;have hgl:=XI.out.glo;have su:=HS6.out.apart ho (.inr (by omega));have ou:=(XI.out.own.on HB3.out).off (S:=fun b=>b=g) ⟨ho.os,ho.tape,ho.output,ho.size,fun k hk hn=>ho.block k hk (by omega)⟩ (fun b hb=>XI.out.gne b hb);have hz2:w.heap.size<=u.heap.size:=Nat.le_trans HB3.out.size ho.size;have on_:=ou.newTubes (nt:=nt) (su.low) (by omega) hz2;have bu:Below lo w u:=(HB3.out.mono (by omega)).trans (ho.below (by omega) (by have:=HB3.out.size;omega));have HYU:=hid yu;have HSL:=hid su.low;have HON:=hid on_;have HBU:=hid bu;obtain⟨d0,d1,d2,d3,d4⟩:=zaq yu;clear hu yu ho hgw hgl su ou hz2 on_ bu c0 c1 f0 f1 t0 t1
 go_wp2_with fail
 have hn5:n5<=24:=by have:=zbW (HSL.out.reads lr);have:=(zbx HOK.out).2.2.1;omega
 have hsm:DkS ⟨A5,n5,d5,h.A2,h.n2,h.c2,h.A3,h.n3,h.c3⟩ ⟨nt,d.times,d.runs,d.log⟩:=⟨by show n5<=1048576;omega,XI.out.small.n2,XI.out.small.n3,XI.out.small.runs,XI.out.small.log⟩
 refine(zfI ⟨A5,n5,d5,h.A2,h.n2,h.c2,h.A3,h.n3,h.c3⟩ ⟨nt,d.times,d.runs,d.log⟩ m u.heap.size u (HON.out.reads lr) hsm lr (zhW XI.out.max XI.out.low HBU.out) (zdM XI.out.tab XI.out.low HBU.out) (zfZ XI.out.syn XI.out.low HBU.out)).mono ?_;rintro e w7 ⟨rfl,b7⟩;have HB7:=hid b7;clear b7 hsm;go_wp2;go_ret2;have hz:=HB7.out.size;have b8:=HB7.out.alloc hz (.cells #[.string (zcc ⟨nt,d.times,d.runs,d.log⟩)] 9);refine⟨_,_,_,by rw[HXF.out];rfl,⟨A5,n5,d5,h.A2,h.n2,h.c2,h.A3,h.n3,h.c3⟩,rh,?_⟩;rw[HXF.out];have hgw:=HYU.out.lt;have hgl:=XI.out.glo;have s8:=Sl.one9 (W:=w7) (s:=zcc ⟨nt,d.times,d.runs,d.log⟩) hz
 refine⟨HYU.out.on b8,(HON.out.on b8).wide lr b8.size,fun b hb e=>?_,s8.wide (by omega) lr,fun b hb hd=>?_,fun b hb e=>?_,HBU.out.trans (b8.mono (by omega))⟩
 ·rcases hb with hb|hb
  ·have:=HSL.out.inB_lt hb;have:=XI.out.blk.lt;omega
  ·exact XI.out.gne b (.inr hb) e
 ·have:=s8.inB_lt hb;have:=HON.out.inD_lt hd;omega
 ·have:=s8.inB_lt hb;omega
end
end Go.Proofs.YtjalgpioklcbfaaGreatDoor
