/- Steps of the proof. -/
import Derived.Test.YtjalgpioklcbfaaGreatDoorMgDesksAV
set_option maxHeartbeats 4000000
set_option maxRecDepth 100000
set_option linter.unusedVariables false
set_option linter.unusedSimpArgs false
namespace Go.Proofs.YtjalgpioklcbfaaGreatDoor
section
open Go.RowKit Go.Lib Go.Proofs.Tryz
theorem Aw.same{w w':World}{N:Nat->Prop}{size n:Nat}{X:Option Addr}{xs:List Value}(h:Aw w N size X n xs)(hz:w.heap.size<=w'.heap.size)(hk:∀b,0<n->inB X b->b<w.heap.size->w'.heap[b]?=w.heap[b]?):Aw w' N size X n xs:=
 ⟨⟨h.1.1,fun hn=>by
  obtain⟨ad,e,hs,hb,hc⟩:=h.1.2 hn;exact⟨ad,e,hs,Nat.lt_of_lt_of_le hb hz,fun j u hu=>(zej (p:=⟨ad.block,ad.off+j,none⟩) (hk _ hn ⟨ad,e,rfl⟩ hb)).trans (hc j u hu)⟩⟩,h.2⟩
theorem AwR.push {w w':World} {low lo z g n c m d5 d7:Nat} {A A' A5 A7:Option Addr} {rs:List Rn} {rh:List RnH} {way:List Int} {st:Int}
  (h:OwnR w lo z A' n c rs rh) (hg:g<lo) (hA:∀b,inB A b->b<lo) (hw:low<=lo) (s5:Aw w (Nn low g A) 1 A5 m (ints way)) (h5:∀b,0<m->inB A5 b->¬inB A' b) (hm:m<=9223372036854775807)
  (s7:Sl w' lo w'.heap.size 123 2 A7 (n+1) d7 (rns rh++ [.slice A5 m d5,.int .i64 st])) (b7:Below lo w w')
  (f7:∀b,b<w.heap.size->(∀ad,A'=some ad->ad.block≠b)->w'.heap[b]?=w.heap[b]?):AwR w' (Nn low g A) A7 (n+1) (rs++ [⟨way,st⟩]):=by
 have ho:=zb5 b7 f7;refine⟨rh++ [⟨A5,m,d5,st⟩],Aw.of_sl (by rw[<-zn7];exact s7) hg hA hw,by rw[List.length_append,h.len];rfl,fun i x q hx hq=>?_⟩;rw[List.getElem?_append] at hx
 split at hx
 ·rename_i hi;rw[List.getElem?_append_left (by rw[h.len,<-h.hlen];exact hi)] at hq;have h9:=h.at_ i x q hx hq;exact⟨h9.1,h9.2.1,Aw.of_sl (h9.2.2.off ho fun b hb=>h.ne i x hx b hb) hg hA hw⟩
 ·rename_i hi;have hl:=h.hlen
  have hi0:i-rh.length=0:=by
   by_cases e:i-rh.length=0
   ·exact e
   ·rw[List.getElem?_eq_none (by simp;omega)] at hx;cases hx
  rw[hi0] at hx;simp at hx;rw[List.getElem?_append_right (by rw[h.len];omega),show i-rs.length=0 by rw[h.len];omega] at hq;simp at hq;subst hx hq;exact⟨rfl,hm,s5.same b7.size fun b hn hb hlt=>f7 b hlt fun ad had e=>h5 b hn hb ⟨ad,had,e⟩⟩
theorem zko{d:Dk}(h:okDk d=true):∀r∈d.runs,r.way.length<=1048576:=by
 intro r hr;obtain⟨k,hk,he⟩:=List.getElem_of_mem hr;have hq:=zbG (zaT h).2.1 (k:=k) (r:=r) (by rw[List.getElem?_eq_getElem hk,he]);have hw:=zaJ hq.1;omega
theorem zs0{d:Dk}{ns tl:List Int}{n0:Int}(h1:ns.drop 1=tl)(h2:zal ns 0=n0)(hc:(earlF d.times d.runs tl n0).2≠0):runC d ns=⟨d,[],(earlF d.times d.runs tl n0).2⟩:=by
 subst h1 h2;unfold runC;rw[if_pos hc]
theorem zrp{d:Dk}{ns tl:List Int}{n0:Int}(h1:ns.drop 1=tl)(h2:zal ns 0=n0)(hc:(earlF d.times d.runs tl n0).2=0)(h3:d.runs.length=12):runC d ns=⟨d,[],5⟩:=by
 subst h1 h2;unfold runC;rw[if_neg (by rw[hc];decide),if_pos h3]
theorem zs1{d:Dk}{ns tl:List Int}{n0:Int}(h1:ns.drop 1=tl)(h2:zal ns 0=n0)(hc:(earlF d.times d.runs tl n0).2=0)(h3:¬d.runs.length=12):runC d ns=⟨⟨d.net,d.times,d.runs++ [⟨tl,(earlF d.times d.runs tl n0).1⟩],d.log⟩,[zab (itoa (earlF d.times d.runs tl n0).1)],0⟩:=by
 subst h1 h2;unfold runC;rw[if_neg (by rw[hc];decide),if_neg h3]
theorem zo9{ts:List Int}{rs:List Rn}{way:List Int}{st:Int}(h:zap ts rs=true)(hw:zaN ts way=true)(h0:0<=st)(h1:st<=100000)(hl:rs.length<12):zap ts (rs++ [⟨way,st⟩])=true:=by
 unfold zap at h⊢;simp only[Bool.and_eq_true,List.all_append,List.all_cons,List.all_nil,decide_eq_true_eq,List.length_append,List.length_singleton] at h⊢;have hr:zby ts ⟨way,st⟩=true:=by unfold zby;simp[hw,zam.2 ⟨h0,h1⟩]
 simp[h,hr];omega
theorem zpM {w:World} {lo g:Nat} {h:DkH} {d:Dk} {A:Option Addr} {n c:Nat} {ls:List ByteArray} {NA:Option Addr} {nn nc:Nat} {ns:List Int} {TA:Option Addr} {tn tc:Nat} {ts:List ByteArray} (x:StI w lo g h d A n c ls NA nn nc ns TA tn tc ts) (hn:1 <= nn) :
  Calls prog 109 #[.pointer (some ⟨g,0,none⟩)] w fun e w'=>e= .returned (.tuple #[])/\zbY w w' lo g A (ansD d (runC d ns)) (ls++ansL (runC d ns)):=by
 have XI:=hid x;obtain⟨c0,c1,c2,c3,c4,c5,c6,c7⟩:=x.st.cells;have HS:=hid x.st.small;obtain⟨n0,bn0,on0,hn0,hNA0,_,q0⟩:=zax x.nums.1 (k:=0) (by omega);subst hNA0;rw[Nat.add_zero] at q0;have HN0:=hid (show zal ns 0=n0 by unfold zal;rw[List.getD_eq_getElem?_getD,hn0];rfl);have hi0:0<nn:=by omega
 obtain⟨TA9,hTA⟩:∃z,(if nc=1 then some (⟨bn0,on0,none⟩:Addr) else some ⟨bn0,on0+1,none⟩)=z:=⟨_,rfl⟩
 have hi9:(1:Int)<=nn:=by omega
 have hic:=x.ncl
 have hSB:=(show zad w w.heap.size 1 TA9 (nn-1) (ints (ns.drop 1)) by
  have hl:=zai x.nums.1;by_cases h1:nc=1
  ·rw[if_pos h1] at hTA;refine⟨by simp[ints];omega,fun h=>by omega⟩
  ·rw[if_neg h1] at hTA;rw[<-hTA];have hr:=x.nums.1.sub (i:=1) (m:=nn-1) (by omega);rwa[show((ints ns).drop 1).take (nn-1)=ints (ns.drop 1) by rw[List.take_of_length_le (by simp[ints];omega)];simp[ints]] at hr)
 obtain⟨tl,htl⟩:∃z,ns.drop 1=z:=⟨_,rfl⟩
 rw[htl] at hSB;have HTL:=hid htl;have HOW:=hid (zgX TA9 (nn-1) (nc-1) w.heap.size tl w hSB lr (by have:=x.nnl;omega));have hnn9:=x.nnl;clear htl hSB;clear x hn0;go_enter func109,ntmps109
 go_wp2_with fail
 refine HOW.out.mono ?_;rintro e w5 ⟨A5,d5,rfl,s5,b5⟩;have HS5:=hid s5;have HB5:=hid b5;have HST5:=hid (XI.out.st.on b5);replace q0:=zaa b5 q0;clear s5 b5 c0 c1 c2 c3 c4 c5 c6 c7;obtain⟨c0,c1,c2,c3,c4,c5,c6,c7⟩:=HST5.out.cells;obtain⟨ln,hln⟩:∃z,nn-1=z:=⟨_,rfl⟩
 have HLN:=hid hln;have hln9:ln<=1048576:=by omega
 rw[hln] at HS5⊢;clear hln
 go_upto_region 1 with fail
 refine ez (fun V=>Below w5.heap.size w5 V) ?_ fun hHeld=>?_
 ·exact(Below.refl _ _).drew
 refine dq 0 rfl (h:=dq 1 rfl (h:=dq 2 rfl (h:=dq 3 rfl (h:=dq 4 rfl (hy:=by intro w hSw;(try dsimp only at hSw);(have y2:=zaa hSw c2);(try have z1:=zaa hSw q1);(try have z2:=zaa hSw q2);(try have zk:=zaa hSw k0);go_simp;try with_reducible rfl) (h:=dq 5 rfl (h:=dq 6 rfl (h:=dq 7 rfl (h:=?_))))))))
 refine dq 8 rfl (h:=dq 9 rfl (hy:=by intro w hSw;(try dsimp only at hSw);(have y3:=zaa hSw c3);(try have z1:=zaa hSw q1);(try have z2:=zaa hSw q2);(try have zk:=zaa hSw k0);go_simp;try with_reducible rfl) (h:=dq 10 rfl (h:=dq 11 rfl (h:=dq 12 rfl (h:=dq 13 rfl (h:=dq 14 rfl (hy:=by intro w hSw;(try dsimp only at hSw);(have y6:=zaa hSw c6);(try have z1:=zaa hSw q1);(try have z2:=zaa hSw q2);(try have zk:=zaa hSw k0);go_simp;try with_reducible rfl) (h:=dq 15 rfl (h:=?_))))))));refine dq 16 rfl (hy:=by intro w hSw;(try dsimp only at hSw);(try have z0:=zaa hSw q0);(try have z1:=zaa hSw q1);(try have z2:=zaa hSw q2);(try have zk:=zaa hSw k0);go_simp;try with_reducible rfl) (h:=?_)
 refine rd 17 rfl fun K hK=>?_;go_simp;refine(zjw h.A2 h.n2 h.c2 d.times h.A3 h.n3 h.c3 d.runs A5 ln d5 w5.heap.size tl n0 _ (HST5.out.times.1.on lr hHeld) (HST5.out.runs.reads.on lr hHeld) ((HS5.out.reads lr).on lr hHeld) hHeld.size HS.out.n2 HS.out.n3 HS.out.runs hln9).mono ?_;rintro e w8 ⟨rfl,b8⟩
 go_wp2_with fail
 refine ke hK ?_ ?_
 ·exact zac hHeld b8 lr
 clear hK K hHeld;intro hHeld;refine dq 18 rfl (h:=dq 19 rfl (h:=dq 20 rfl (h:=dq 21 rfl (h:=dq 22 rfl (h:=?_)))));refine dn ?_;have HB8:=hid (zac HB5.out hHeld lr);have HST8:=hid (HST5.out.on hHeld);have HS8:=hid (HS5.out.on hHeld);have HMV:=hid (Mv.below (g:=g) (A:=A) HB8.out);have HN3:=hid HST8.out.runs.reads.len;have hn12:h.n3<=12:=by have:=zbB (zaT XI.out.st.ok).2.1;have:=HN3.out;omega
 clear hHeld c0 c1 c2 c3 c4 c5 c6 c7 q0;obtain⟨c0,c1,c2,c3,c4,c5,c6,c7⟩:=HST8.out.cells;have HCD:=hid (show 0<=(earlF d.times d.runs tl n0).2/\(earlF d.times d.runs tl n0).2<=10 by have:=zmN d.times d.runs tl n0;omega);by_cases hc:(earlF d.times d.runs tl n0).2=0;rotate_left
 ·have HAN:=hid (zs0 HTL.out HN0.out hc);obtain⟨v1,hv1⟩:∃z,(earlF d.times d.runs tl n0).1=z:=⟨_,rfl⟩
  obtain⟨v2,hv2⟩:∃z,(earlF d.times d.runs tl n0).2=z:=⟨_,rfl⟩
  rw[hv2] at HCD HAN hc⊢;rw[hv1];have d1:(v2==0)=false:=by simpa using hc
  clear hv1 hv2
  go_wp2_with fail
  refine(zcq HST8.out.says (Nat.le_trans XI.out.low HMV.out.off.size) XI.out.nl HCD.out.1 HCD.out.2 hc).mono ?_;rintro e w6 ⟨rfl,A',c',hs⟩;have HSS:=hid ((HST8.out.out hs).after HMV.out);clear hs;go_wp2;go_end0;exact⟨rfl,outE HSS.out (by rw[HAN.out]) hc⟩
 by_cases h12:h.n3=12
 ·have HAN:=hid (zrp HTL.out HN0.out hc (by rw[HN3.out];exact h12));obtain⟨v1,hv1⟩:∃z,(earlF d.times d.runs tl n0).1=z:=⟨_,rfl⟩
  rw[hv1,hc];have d2:(12:Int)<=(h.n3:Int):=by omega
  clear hc HCD hv1;have hc:¬(5:Int)=0:=by decide
  have HCD:=hid (show(0:Int)<=5/\(5:Int)<=10 by decide);clear h12
  go_wp2_with fail
  refine(zcq HST8.out.says (Nat.le_trans XI.out.low HMV.out.off.size) XI.out.nl HCD.out.1 HCD.out.2 hc).mono ?_;rintro e w6 ⟨rfl,A',c',hs⟩;have HSS:=hid ((HST8.out.out hs).after HMV.out);clear hs;go_wp2;go_end0;exact⟨rfl,outE HSS.out (by rw[HAN.out]) hc⟩
 have HAN:=hid (zs1 HTL.out HN0.out hc (by rw[HN3.out];exact h12));obtain⟨z1,z2,z3,z4⟩:=zgM hc;have HOK:=hid (show okDk ⟨d.net,d.times,d.runs++ [⟨tl,(earlF d.times d.runs tl n0).1⟩],d.log⟩=true from zdW (zaT XI.out.st.ok).1 (zo9 z1 z2 z3 z4 (by rw[HN3.out];omega)) (zaT XI.out.st.ok).2.2);obtain⟨v1,hv1⟩:∃z,(earlF d.times d.runs tl n0).1=z:=⟨_,rfl⟩
 rw[hv1] at HAN HOK z3 z4⊢;rw[hc];have d2:¬(12:Int)<=(h.n3:Int):=by omega
 have hn11:h.n3<=11:=by omega
 have HRW:=hid (fun r (hr:r∈d.runs)=>(zko XI.out.st.ok r hr));clear hc HCD hv1 h12 z1 z2
 go_wp2_with fail
 refine(zeL g w8).mono ?_;rintro e w9 ⟨rfl,hw⟩;rw[<-hw];clear hw w9
 go_wp2_with fail
 refine(zkc h.A3 h.n3 h.c3 w8.heap.size d.runs w8 HST8.out.runs.reads lr HS.out.n3 HRW.out).mono ?_;rintro e w10 ⟨A10,d10,rh10,rfl,o10,b10⟩;have HO10:=hid o10;have HB10:=hid b10;have HST10:=hid (HST8.out.on b10);have HS10:=hid (HS8.out.on b10);have hz10:w8.heap.size<=w10.heap.size:=b10.size;have HG:=hid HST10.out.glt;have HGN:=hid (show∀ad,A10=some ad->ad.block≠g from fun ad had e=>by have h1:=(o10.row.inB_lt ⟨ad,had,rfl⟩).1;have h2:=HST8.out.glt;omega);clear o10 b10 c0 c1 c2 c3 c4 c5 c6 c7
 go_upto_region 6 with (at_builtin;refine zat rfl _ _ 30 rfl 123 _ 2 32 underlying30 zeJ rfl (by decide) (by decide) HO10.out.row hz10 rfl [.slice A5 ln d5,.int .i64 v1] w10.heap.size rfl rfl rfl (zfE A5 ln d5 v1) (by omega) ?_;intro A7 d7 w11 hs11 b11 z11 f11 k11;have HS11:=hid hs11;have HB11:=hid b11;have HF11:=hid f11;have y11:=(f11 g HG.out HGN.out).trans HST10.out.says.blk;have HY11:=hid y11;have f3:w11.frozen? ⟨g,3,none⟩=false:=(show Blk w11 g _ _ from y11).frozen 3;have gl:g<w11.heap.size:=(show Blk w11 g _ _ from y11).lt;have cz3:w11.cell? ⟨g,3,none⟩=some (.slice h.A3 h.n3 h.c3):=(show Blk w11 g _ _ from y11).cellAt 3 (by simp);clear hs11 b11 z11 f11 k11 y11)
 have HB8X:=hid (show Below w8.heap.size w8 w11 from HB10.out.trans HB11.out);have HST11:=hid (HST8.out.on HB8X.out);have HRUN:=hid (AwR.push (g:=g) (A:=A) HO10.out HST8.out.glt HST8.out.alt (Nat.le_trans XI.out.low HB8.out.size) (Aw.of_sl (HS10.out) XI.out.st.glt XI.out.st.alt XI.out.low) (fun b _ hb hb'=>by have h1:=(HS8.out.inB_heap hb);have h2:=(HO10.out.row.inB_lt hb').1;omega) (by omega) HS11.out HB11.out HF11.out);have ho6:Off (fun b=>b=g) w11 (w11.setCell ⟨g,3,none⟩ (.slice A7 (h.n3+1) d7)):=(Off.refl (fun b=>b=g) _).setCell (p:=⟨g,3,none⟩) rfl _;have hb6:=HST11.out.says.blk.set_ 3 (.slice A7 (h.n3+1) d7);obtain⟨w12,hw12⟩:∃y,w11.setCell ⟨g,3,none⟩ (.slice A7 (h.n3+1) d7)=y:=⟨_,rfl⟩
 rw[hw12] at ho6 hb6⊢;have hmv6:Mv g w11 w12 A A:=Mv.ofg ho6
 have HS12:=hid (show StD w12 lo g ⟨h.A1,h.n1,h.c1,h.A2,h.n2,h.c2,A7,h.n3+1,d7⟩ ⟨d.net,d.times,d.runs++ [⟨tl,v1⟩],d.log⟩ A n c ls (.slice (some ⟨bn0,on0,none⟩) nn nc) (.slice TA tn tc) from
  HST11.out.turn ho6 hb6 (HST11.out.tubes.mv hmv6) (HST11.out.times.mv hmv6) (HRUN.out.mv hmv6) HOK.out)
 have HM12:=hid (((HMV.out.trans (Mv.below (A:=A) HB8X.out)).trans hmv6));clear hw12 ho6 hb6 hmv6 f3 gl cz3
 go_wp2_with fail
 refine(zbj v1 w12 (by omega) (by omega)).mono ?_;rintro e w13 ⟨rfl,b13⟩;have HS13:=hid (HS12.out.on b13);have HM13:=hid (HM12.out.trans (Mv.below b13));clear b13
 go_wp2_with fail
 refine(zbR lo g _ A n c ls (zab (itoa v1)) w13 HS13.out.says (Nat.le_trans XI.out.low HM13.out.off.size) (by have:=XI.out.nl;omega)).mono ?_;rintro e w14 ⟨rfl,A',c',hs⟩;have HSS:=hid ((HS13.out.out hs).after HM13.out);clear hs;go_wp2;go_end0;exact⟨rfl,out0 HSS.out HAN.out⟩
theorem zo5 {w:World} {lo g:Nat} {h:DkH} {d:Dk} {A:Option Addr} {n c:Nat} {ls:List ByteArray} {NA:Option Addr} {nn nc:Nat} {ns:List Int} {TA:Option Addr} {tn tc:Nat} {ts:List ByteArray} (x:StI w lo g h d A n c ls NA nn nc ns TA tn tc ts) (hn:3 <= nn) :
  Calls prog 105 #[.pointer (some ⟨g,0,none⟩)] w fun e w'=>e= .returned (.tuple #[])/\zbY w w' lo g A (ansD d (zeV d ns)) (ls++ansL (zeV d ns)):=by
 have XI:=hid x;obtain⟨c0,c1,c2,c3,c4,c5,c6,c7⟩:=x.st.cells;have HS:=hid x.st.small;obtain⟨n0,bn0,on0,hn0,hNA0,_,q0⟩:=zax x.nums.1 (k:=0) (by omega);subst hNA0;rw[Nat.add_zero] at q0;have HN0:=hid (show zal ns 0=n0 by unfold zal;rw[List.getD_eq_getElem?_getD,hn0];rfl);obtain⟨n1,bn1,on1,hn1,hNA1,_,q1⟩:=zax x.nums.1 (k:=1) (by omega);injection hNA1 with hNA1;injection hNA1 with hNb1 hNo1;subst hNb1;subst hNo1;have HN1:=hid (show zal ns 1=n1 by unfold zal;rw[List.getD_eq_getElem?_getD,hn1];rfl);obtain⟨n2,bn2,on2,hn2,hNA2,_,q2⟩:=zax x.nums.1 (k:=2) (by omega);injection hNA2 with hNA2;injection hNA2 with hNb2 hNo2;subst hNb2;subst hNo2
 have HN2:=hid (show zal ns 2=n2 by unfold zal;rw[List.getD_eq_getElem?_getD,hn2];rfl);have hi0:0<nn:=by omega
 have hii1:(1:Int)<nn:=by omega
 have hii2:(2:Int)<nn:=by omega
 clear x hn0 hn1 hn2;go_enter func105,ntmps105
 go_wp2_with fail
 refine ez (fun V=>Below w.heap.size w V) ?_ fun hHeld=>?_
 ·exact(Below.refl _ _).drew
 refine dq 0 rfl (h:=dq 1 rfl (h:=dq 2 rfl (h:=dq 3 rfl (h:=dq 4 rfl (hy:=by intro w hSw;(try dsimp only at hSw);(have y2:=zaa hSw c2);(try have zk:=zaa hSw k0);go_simp;try with_reducible rfl) (h:=dq 5 rfl (h:=dq 6 rfl (h:=dq 7 rfl (h:=?_))))))))
 refine dq 8 rfl (h:=dq 9 rfl (hy:=by intro w hSw;(try dsimp only at hSw);(have y3:=zaa hSw c3);(try have zk:=zaa hSw k0);go_simp;try with_reducible rfl) (h:=dq 10 rfl (h:=dq 11 rfl (h:=dq 12 rfl (h:=dq 13 rfl (hy:=by intro w hSw;(try dsimp only at hSw);(have y6:=zaa hSw c6);(try have zk:=zaa hSw k0);go_simp;try with_reducible rfl) (h:=dq 14 rfl (h:=dq 15 rfl (hy:=by intro w hSw;(try dsimp only at hSw);(try have z0:=zaa hSw q0);(try have zk:=zaa hSw k0);go_simp;try with_reducible rfl) (h:=?_))))))))
 refine dq 16 rfl (h:=dq 17 rfl (h:=dq 18 rfl (h:=dq 19 rfl (hy:=by intro w hSw;(try dsimp only at hSw);(have y6:=zaa hSw c6);(try have zk:=zaa hSw k0);go_simp;try with_reducible rfl) (h:=dq 20 rfl (h:=dq 21 rfl (hy:=by intro w hSw;(try dsimp only at hSw);(try have z1:=zaa hSw q1);(try have zk:=zaa hSw k0);go_simp;try with_reducible rfl) (h:=dq 22 rfl (h:=dq 23 rfl (h:=?_))))))))
 refine dq 24 rfl (h:=dq 25 rfl (hy:=by intro w hSw;(try dsimp only at hSw);(have y6:=zaa hSw c6);(try have zk:=zaa hSw k0);go_simp;try with_reducible rfl) (h:=dq 26 rfl (h:=dq 27 rfl (hy:=by intro w hSw;(try dsimp only at hSw);(try have z2:=zaa hSw q2);(try have zk:=zaa hSw k0);go_simp;try with_reducible rfl) (h:=?_))));refine rd 28 rfl fun K hK=>?_;go_simp;refine(znM h.A2 h.n2 h.c2 d.times h.A3 h.n3 h.c3 d.runs w.heap.size n0 n1 n2 _ (XI.out.st.times.1.on lr hHeld) (XI.out.st.runs.reads.on lr hHeld) hHeld.size HS.out.n2 HS.out.n3 HS.out.runs).mono ?_;rintro e w5 ⟨rfl,b5⟩
 go_wp2_with fail
 refine ke hK ?_ ?_
 ·exact zac hHeld b5 lr
 clear hK K hHeld;intro hHeld;refine dq 29 rfl (h:=dq 30 rfl (h:=dq 31 rfl (h:=dq 32 rfl (h:=dq 33 rfl (h:=?_)))));refine dn ?_;have HSD:=hid (XI.out.st.on hHeld);have HMV:=hid (Mv.below (g:=g) (A:=A) hHeld);have HLO:=hid (Nat.le_trans XI.out.low hHeld.size);clear hHeld c0 c1 c2 c3 c4 c5 c6 c7;have HCD:=hid (show 0<=(zbA d.times d.runs n0 n1 n2).2/\(zbA d.times d.runs n0 n1 n2).2<=10 by have:=zmU d.times d.runs n0 n1 n2;omega);have HAN:=hid (show zeV d ns=⟨d,[if (zbA d.times d.runs n0 n1 n2).1=true then ⟨#[121,101,115]⟩ else ⟨#[110,111]⟩],(zbA d.times d.runs n0 n1 n2).2⟩ by rw[zeV,HN0.out,HN1.out,HN2.out]);obtain⟨v1,hv1⟩:∃z,(zbA d.times d.runs n0 n1 n2).1=z:=⟨_,rfl⟩
 obtain⟨v2,hv2⟩:∃z,(zbA d.times d.runs n0 n1 n2).2=z:=⟨_,rfl⟩
 rw[hv1] at HAN⊢;rw[hv2] at HCD HAN⊢;clear hv1 hv2;by_cases hc:v2=0
 ·subst hc
  go_wp2_with fail
  refine(zeL g w5).mono ?_;rintro e w6 ⟨rfl,hw⟩;rw[<-hw];clear hw w6
  cases v1
  ·skip
   go_wp2_with fail
   refine(zbR lo g _ A n c ls ⟨#[110,111]⟩ w5 HSD.out.says HLO.out (by have:=XI.out.nl;omega)).mono ?_;rintro e w7 ⟨rfl,A',c',hs⟩;have HSS:=hid ((HSD.out.out hs).after HMV.out);clear hs;go_wp2;go_end0;exact⟨rfl,out0 HSS.out HAN.out⟩
  ·skip
   go_wp2_with fail
   refine(zbR lo g _ A n c ls ⟨#[121,101,115]⟩ w5 HSD.out.says HLO.out (by have:=XI.out.nl;omega)).mono ?_;rintro e w7 ⟨rfl,A',c',hs⟩;have HSS:=hid ((HSD.out.out hs).after HMV.out);clear hs;go_wp2;go_end0;exact⟨rfl,out0 HSS.out HAN.out⟩
 ·skip
  go_wp2_with fail
  refine(zcq HSD.out.says (Nat.le_trans XI.out.low HMV.out.off.size) XI.out.nl HCD.out.1 HCD.out.2 hc).mono ?_;rintro e w6 ⟨rfl,A',c',hs⟩;have HSS:=hid ((HSD.out.out hs).after HMV.out);clear hs;go_wp2;refine bodyPost_ret (results_none rfl _ _ _) rfl ?_;exact⟨rfl,outE HSS.out (by rw[HAN.out]) hc⟩
structure LowD (w:World) (lo:Nat) (h:DkH) (d:Dk):Prop where
 tubes:Sl w lo w.heap.size 101 3 h.A1 h.n1 h.c1 (tbs d.net.tubes)
 times:Sl w lo w.heap.size 2 1 h.A2 h.n2 h.c2 (ints d.times)
 runs:∃rh,OwnR w lo w.heap.size h.A3 h.n3 h.c3 d.runs rh
theorem LowD.wide{w:World}{lo lo':Nat}{h:DkH}{d:Dk}(l:LowD w lo h d)(hl:lo'<=lo):LowD w lo' h d:=
 ⟨l.tubes.wide hl lr,l.times.wide hl lr,by obtain⟨rh,o⟩:=l.runs;exact⟨rh,o.wide hl lr⟩⟩
theorem zj2(l:List Tb):∀u∈tbs l,u.oneCell'=true:=by
 intro u hu;obtain⟨t,_,ht⟩:=List.mem_flatMap.1 hu;exact zcO t u ht
theorem zeo{w:World}{g b o:Nat}{v0 v1 x:Value}(h:w.cell? ⟨b,o,none⟩=some x)(hne:b≠g):((w.setCell ⟨g,0,none⟩ v0).setCell ⟨g,1,none⟩ v1).cell? ⟨b,o,none⟩=some x:=
 (zej (p:=⟨b,o,none⟩) ((Below.heap_setCell _ ⟨g,1,none⟩ v1 b hne).trans (Below.heap_setCell w ⟨g,0,none⟩ v0 b hne))).trans h
theorem zdG{w:World}{g b o:Nat}{v0 v1 v2 v3 v4 x:Value}(h:w.cell? ⟨b,o,none⟩=some x)(hne:b≠g):(((((w.setCell ⟨g,0,none⟩ v0).setCell ⟨g,1,none⟩ v1).setCell ⟨g,2,none⟩ v2).setCell ⟨g,3,none⟩ v3).setCell ⟨g,4,none⟩ v4).cell? ⟨b,o,none⟩=some x:=
 (zej (p:=⟨b,o,none⟩) ((Below.heap_setCell _ ⟨g,4,none⟩ v4 b hne).trans ((Below.heap_setCell _ ⟨g,3,none⟩ v3 b hne).trans ((Below.heap_setCell _ ⟨g,2,none⟩ v2 b hne).trans ((Below.heap_setCell _ ⟨g,1,none⟩ v1 b hne).trans (Below.heap_setCell w ⟨g,0,none⟩ v0 b hne)))))).trans h
theorem zo2 (h:DkH) (d:Dk) (B gd:Nat) (w:World) (hr:DkR w B h d) (hs:DkS h d) (hB:B <= w.heap.size) (ok:okDk d = true) (y:Blk w gd 32 #[.int .i64 d.net.sta,.slice h.A1 h.n1 h.c1,.slice h.A2 h.n2 h.c2,.slice h.A3 h.n3 h.c3,.string d.log]) :
  Calls prog 48 #[.pointer (some ⟨gd,0,none⟩)] w fun e w'=>∃h':DkH,e= .returned (dkv h' d)/\LowD w' w.heap.size h' d/\Below w.heap.size w w':=by
 have b0:Below w.heap.size w (w.alloc (.cells #[.int .i64 0,.slice none 0 0,.slice none 0 0,.slice none 0 0,.string ⟨#[]⟩] 32)):=bal _;obtain⟨W,hW⟩:∃z,w.alloc (.cells #[.int .i64 0,.slice none 0 0,.slice none 0 0,.slice none 0 0,.string ⟨#[]⟩] 32)=z:=⟨_,rfl⟩
 have YR:=hid (show Blk W w.heap.size 32 #[.int .i64 0,.slice none 0 0,.slice none 0 0,.slice none 0 0,.string ⟨#[]⟩] by rw[<-hW];exact Blk.new _ _ _);have HWZ:=hid (show W.heap.size=w.heap.size+1 by rw[<-hW];simp);rw[hW] at b0;have HW:=hid hW;have HB0:=hid b0;have YD:=hid (y.on b0);have HR:=hid (hr.on hB b0);have HS:=hid hs;have HWY:=hid (zko ok);have HT:=hid (HR.out.tubes);have hBW:B<=W.heap.size:=Nat.le_trans hB b0.size;have hgdw:=y.lt;clear hW b0 y hr hs hB;go_enter func48,ntmps48
 go_upto_region 1 with fail
 rw[HW.out]
 go_cut [3] (fun s3 wx=>∃(g3:Nat) (A15:Option Addr) (d15:Nat),s3= .pointer (some ⟨g3,0,none⟩)/\Blk wx g3 28 #[.int .i64 d.net.sta,.slice A15 h.n1 d15]/\Sl wx W.heap.size wx.heap.size 101 3 A15 h.n1 d15 (tbs d.net.tubes)/\W.heap.size<=g3/\Below W.heap.size W wx)
 case first=>as_aux_lemma=>
  have c0:=YD.out.cellAt 0 (by simp);have c1:=YD.out.cellAt 1 (by simp);simp only[ly] at c0 c1;have hgW:gd<W.heap.size:=YD.out.lt;have hn1:=HS.out.n1;refine ez (fun V=>V.cell? ⟨gd,0,none⟩=some (.int .i64 d.net.sta)/\V.cell? ⟨gd,1,none⟩=some (.slice h.A1 h.n1 h.c1)) ?_ fun hHeld=>?_
  ·exact⟨c0,c1⟩
  refine dq 0 rfl (h:=dq 1 rfl (h:=dq 2 rfl (h:=dq 3 rfl (h:=dq 4 rfl (h:=dq 6 rfl (h:=dq 7 rfl (h:=dq 8 rfl (h:=?_))))))));refine dq 9 rfl (h:=dq 10 rfl (h:=?_));refine wpAnyH_ready (rs:=[5,13]) (by kernel_rfl) (by simp) ?_;refine AllReadyH.cons rfl (fun K hK=>?_) ?_
  ·skip
   go_simp;refine ke hK ?_ ?_
   ·exact⟨zaa (bal _) hHeld.1,zaa (bal _) hHeld.2⟩
   clear hK K hHeld;intro hHeld;refine wpAnyH_ready (rs:=[11,13]) (by kernel_rfl) (by simp) ?_;refine AllReadyH.cons rfl (fun K hK=>?_) ?_
   ·skip
    refine zin rfl _ _ 26 rfl 101 _ 3 24 underlying26 zcf rfl (by decide) (by decide) (lo:=W.heap.size) (hi:=W.heap.size+1) (Sl.of_blk (xs:=[]) (n:=0) (g:=W.heap.size) (Blk.new _ _ _) lr (Nat.lt_succ_self _) rfl (Nat.zero_le _)) (bal _).size rfl h.A1 h.n1 h.c1 (tbs d.net.tubes) rfl HT.out.1 (fun hn=>(HT.out.on hBW (bal _)).cellsAt hn) (zj2 _) (by omega) ?_;intro A9 d9 w9 hs9 b9 f9 k9;refine ke hK ?_ ?_
    ·exact⟨(b9.cell (p:=⟨gd,0,none⟩) hgW).trans hHeld.1,(b9.cell (p:=⟨gd,1,none⟩) hgW).trans hHeld.2⟩
    clear hK K hHeld;intro hHeld;refine dq 12 rfl (h:=?_);refine rd 13 rfl fun K hK=>?_;go_simp;refine ke hK ?_ ?_
    ·exact⟨zaa (bal _) hHeld.1,zaa (bal _) hHeld.2⟩
    clear hK K hHeld;intro hHeld;refine rd 14 rfl fun K hK=>?_;go_simp;refine ke hK ?_ ?_
    ·first|exact⟨zeo hHeld.1 (by first|omega|(have:=b9.size;simp at this;omega)),zeo hHeld.2 (by first|omega|(have:=b9.size;simp at this;omega))⟩|exact⟨zaa (bal _) ((b9.cell (p:=⟨gd,0,none⟩) hgW).trans (zaa (bal _).drew c0)),zaa (bal _) ((b9.cell (p:=⟨gd,1,none⟩) hgW).trans (zaa (bal _).drew c1))⟩
    clear hK K hHeld;intro hHeld;refine dn ?_
    try (go_wp2_with fail)
    go_meet
    rw[Nat.zero_add,List.nil_append] at hs9;have hb9:Below W.heap.size W w9:=(bal _).drew.trans b9;have hz9:=hb9.size;exact⟨w9.heap.size,A9,d9,rfl,Blk.new _ _ _,(hs9.on (bal _)).low,hz9,hb9.alloc hz9 _⟩
   refine AllReadyH.cons rfl (fun K hK=>?_) ?_
   ·skip
    go_simp;refine ke hK ?_ ?_
    ·exact⟨zaa (bal _) hHeld.1,zaa (bal _) hHeld.2⟩
    clear hK K hHeld;intro hHeld;refine rd 11 rfl fun K hK=>?_;refine zin rfl _ _ 26 rfl 101 _ 3 24 underlying26 zcf rfl (by decide) (by decide) (lo:=W.heap.size) (hi:=W.heap.size+1) (Sl.of_blk (xs:=[]) (n:=0) (g:=W.heap.size) ((Blk.new _ _ _).alloc _) lr (Nat.lt_succ_self _) rfl (Nat.zero_le _)) ((bal _).alloc (by simp) _).size rfl h.A1 h.n1 h.c1 (tbs d.net.tubes) rfl HT.out.1 (fun hn=>(HT.out.on hBW ((bal _).alloc (by simp) _)).cellsAt hn) (zj2 _) (by omega) ?_;intro A9 d9 w9 hs9 b9 f9 k9
    have y9:Blk w9 (W.heap.size+1) 28 #[.int .i64 0,.slice none 0 0]:=(f9 (W.heap.size+1) (by simp) (fun ad e hh=>by injection e with e;subst e;simp at hh)).trans (by have q:=Blk.new (W.alloc (.cells #[] 101)) 28 #[.int .i64 0,.slice none 0 0];rw[zfF] at q;exact q);have q0:=y9.cellAt 0 (by simp);have q1:=y9.cellAt 1 (by simp);have z0:=y9.frozen 0;have z1:=y9.frozen 1;have hl9:=y9.lt;refine ke hK ?_ ?_
    ·exact⟨(b9.cell (p:=⟨gd,0,none⟩) hgW).trans hHeld.1,(b9.cell (p:=⟨gd,1,none⟩) hgW).trans hHeld.2⟩
    clear hK K hHeld;intro hHeld;refine dq 12 rfl (h:=?_);refine rd 14 rfl fun K hK=>?_;go_simp;refine ke hK ?_ ?_
    ·first|exact⟨zeo hHeld.1 (by first|omega|(have:=b9.size;simp at this;omega)),zeo hHeld.2 (by first|omega|(have:=b9.size;simp at this;omega))⟩|exact⟨zaa (bal _) ((b9.cell (p:=⟨gd,0,none⟩) hgW).trans (zaa (bal _).drew c0)),zaa (bal _) ((b9.cell (p:=⟨gd,1,none⟩) hgW).trans (zaa (bal _).drew c1))⟩
    clear hK K hHeld;intro hHeld;refine dn ?_
    try (go_wp2_with fail)
    go_meet
    rw[Nat.zero_add,List.nil_append] at hs9;have hb9:Below W.heap.size W w9:=(((bal _).alloc (by simp) _).drew.trans b9)
    have hne:∀c,inB A9 c->¬c=(W.heap.size+1):=fun c hc e=>by obtain⟨ad,e1,e2⟩:=hc;exact k9 (W.heap.size+1) (by simp;try omega) (fun ad e hh=>by injection e with e;subst e;simp at hh) ad e1 (e2.trans e)
    have ho:Off (fun c=>c=(W.heap.size+1)) w9 ((w9.setCell ⟨(W.heap.size+1),0,none⟩ (.int .i64 d.net.sta)).setCell ⟨(W.heap.size+1),1,none⟩ (.slice A9 h.n1 d9)):=((Off.refl (fun c=>c=(W.heap.size+1)) w9).setCell (p:=⟨(W.heap.size+1),0,none⟩) rfl _).setCell (p:=⟨(W.heap.size+1),1,none⟩) rfl _;exact⟨(W.heap.size+1),A9,d9,rfl,(y9.set_ 0 _).set_ 1 _,(hs9.off ho hne).low,by omega,(hb9.setCell (p:=⟨(W.heap.size+1),0,none⟩) (by simp) _).setCell (p:=⟨(W.heap.size+1),1,none⟩) (by simp) _⟩
   exact AllReadyH.nil
  refine AllReadyH.cons rfl (fun K hK=>?_) ?_
  ·skip
   go_simp;refine ke hK ?_ ?_
   ·exact⟨zaa (bal _) hHeld.1,zaa (bal _) hHeld.2⟩
   clear hK K hHeld;intro hHeld;refine rd 5 rfl fun K hK=>?_;go_simp;refine ke hK ?_ ?_
   ·exact⟨zaa (bal _) hHeld.1,zaa (bal _) hHeld.2⟩
   clear hK K hHeld;intro hHeld;refine rd 11 rfl fun K hK=>?_;refine zin rfl _ _ 26 rfl 101 _ 3 24 underlying26 zcf rfl (by decide) (by decide) (lo:=W.heap.size) (hi:=W.heap.size+1+1) (Sl.of_blk (xs:=[]) (n:=0) (g:=W.heap.size+1) (show Blk _ (W.heap.size+1) 101 #[] by have q:=Blk.new (W.alloc (.cells #[.int .i64 0,.slice none 0 0] 28)) 101 #[];rw[zfF] at q;exact q) (Nat.le_succ _) (Nat.lt_succ_self _) rfl (Nat.zero_le _)) ((bal _).alloc (by simp) _).size rfl h.A1 h.n1 h.c1 (tbs d.net.tubes) rfl HT.out.1 (fun hn=>(HT.out.on hBW ((bal _).alloc (by simp) _)).cellsAt hn) (zj2 _) (by omega) ?_;intro A9 d9 w9 hs9 b9 f9 k9
   have y9:Blk w9 W.heap.size 28 #[.int .i64 0,.slice none 0 0]:=(f9 W.heap.size (by simp;omega) (fun ad e hh=>by injection e with e;subst e;simp at hh)).trans ((Blk.new _ _ _).alloc _);have q0:=y9.cellAt 0 (by simp);have q1:=y9.cellAt 1 (by simp);have z0:=y9.frozen 0;have z1:=y9.frozen 1;have hl9:=y9.lt;refine ke hK ?_ ?_
   ·exact⟨(b9.cell (p:=⟨gd,0,none⟩) hgW).trans hHeld.1,(b9.cell (p:=⟨gd,1,none⟩) hgW).trans hHeld.2⟩
   clear hK K hHeld;intro hHeld;refine dq 12 rfl (h:=?_);refine rd 14 rfl fun K hK=>?_;go_simp;refine ke hK ?_ ?_
   ·first|exact⟨zeo hHeld.1 (by first|omega|(have:=b9.size;simp at this;omega)),zeo hHeld.2 (by first|omega|(have:=b9.size;simp at this;omega))⟩|exact⟨zaa (bal _) ((b9.cell (p:=⟨gd,0,none⟩) hgW).trans (zaa (bal _).drew c0)),zaa (bal _) ((b9.cell (p:=⟨gd,1,none⟩) hgW).trans (zaa (bal _).drew c1))⟩
   clear hK K hHeld;intro hHeld;refine dn ?_
   try (go_wp2_with fail)
   go_meet
   rw[Nat.zero_add,List.nil_append] at hs9;have hb9:Below W.heap.size W w9:=(((bal _).alloc (by simp) _).drew.trans b9)
   have hne:∀c,inB A9 c->¬c=W.heap.size:=fun c hc e=>by obtain⟨ad,e1,e2⟩:=hc;exact k9 W.heap.size (by simp;try omega) (fun ad e hh=>by injection e with e;subst e;simp at hh) ad e1 (e2.trans e)
   have ho:Off (fun c=>c=W.heap.size) w9 ((w9.setCell ⟨W.heap.size,0,none⟩ (.int .i64 d.net.sta)).setCell ⟨W.heap.size,1,none⟩ (.slice A9 h.n1 d9)):=((Off.refl (fun c=>c=W.heap.size) w9).setCell (p:=⟨W.heap.size,0,none⟩) rfl _).setCell (p:=⟨W.heap.size,1,none⟩) rfl _;exact⟨W.heap.size,A9,d9,rfl,(y9.set_ 0 _).set_ 1 _,(hs9.off ho hne).low,by omega,(hb9.setCell (p:=⟨W.heap.size,0,none⟩) (by simp) _).setCell (p:=⟨W.heap.size,1,none⟩) (by simp) _⟩
  exact AllReadyH.nil
 obtain⟨g3,A15,d15,rfl,y3,r15,hg3,b3⟩:=hcut;have HR15:=hid r15;have HB3:=hid b3;have HTM:=hid (HR.out.times.on hBW b3);have HRN:=hid (HR.out.runs.on hBW b3);have HYR:=hid (YR.out.on b3);have p0:=y3.cellAt 0 (by simp);have p1:=y3.cellAt 1 (by simp);have YC:=YD.out.on b3;have p2:=YC.cellAt 2 (by simp);have p3:=YC.cellAt 3 (by simp);have p4:=YC.cellAt 4 (by simp);simp only[ly] at p0 p1 p2 p3 p4;have hg9:w.heap.size<g3:=by have:=HWZ.out;omega
 have hwz:w.heap.size<=wc.heap.size:=Nat.le_trans HB0.out.size b3.size;have hWz:W.heap.size<=wc.heap.size:=b3.size;have hBc:B<=wc.heap.size:=Nat.le_trans hBW b3.size;clear YC y3 r15 b3
 go_upto_region 2 with fail
 refine ez (fun V=>V.cell? ⟨g3,0,none⟩=some (.int .i64 d.net.sta)/\V.cell? ⟨g3,1,none⟩=some (.slice A15 h.n1 d15)/\V.cell? ⟨gd,2,none⟩=some (.slice h.A2 h.n2 h.c2)/\V.cell? ⟨gd,3,none⟩=some (.slice h.A3 h.n3 h.c3)/\V.cell? ⟨gd,4,none⟩=some (.string d.log)) ?_ fun hHeld=>?_
 ·exact⟨p0,p1,p2,p3,p4⟩
 refine dq 0 rfl (h:=dq 1 rfl (h:=dq 2 rfl (h:=dq 3 rfl (h:=dq 4 rfl (h:=dq 6 rfl (h:=dq 7 rfl (h:=dq 8 rfl (h:=?_))))))));refine dq 9 rfl (h:=dq 11 rfl (h:=dq 12 rfl (h:=dq 13 rfl (h:=dq 14 rfl (h:=?_)))));refine rd 5 rfl fun K hK=>?_;go_simp;refine(zgX h.A2 h.n2 h.c2 B d.times wc.drew (HTM.out.keep fun _ _=>rfl) hBc HS.out.n2).mono ?_;rintro e w5 ⟨A5,d5,rfl,s5,b5⟩;have b5w:Below wc.heap.size wc w5:=(Below.refl _ _).drew.trans b5;have HB5:=hid b5w;have HS5:=hid s5;have Y5:=hid (HYR.out.on b5w);have hB5:B<=w5.heap.size:=Nat.le_trans hBc b5w.size;clear s5 b5 b5w
 go_wp2_with fail
 refine ke hK ?_ ?_
 ·exact⟨zaa HB5.out p0,zaa HB5.out p1,zaa HB5.out p2,zaa HB5.out p3,zaa HB5.out p4⟩
 clear hK K hHeld;intro hHeld;refine rd 10 rfl fun K hK=>?_;go_simp;refine(zkc h.A3 h.n3 h.c3 B d.runs w5 (HRN.out.on hBc HB5.out) hB5 HS.out.n3 HWY.out).mono ?_;rintro e w6 ⟨A6,d6,rh6,rfl,o6,b6⟩;have HB6:=hid b6;have HO6:=hid o6;have Y6:=hid (Y5.out.on b6);obtain⟨Q0,Q1,Q2,Q3,Q4⟩:=zaq Y6.out;obtain⟨F0,F1,F2,F3,F4⟩:=zbF Y6.out;clear o6 b6
 go_wp2_with fail
 refine ke hK ?_ ?_
 ·exact⟨zaa HB6.out hHeld.1,zaa HB6.out hHeld.2.1,zaa HB6.out hHeld.2.2.1,zaa HB6.out hHeld.2.2.2.1,zaa HB6.out hHeld.2.2.2.2⟩
 clear hK K hHeld;intro hHeld;refine dq 15 rfl (h:=?_);refine rd 16 rfl fun K hK=>?_;go_simp;refine hK.out _ _ ?_ (fun hNew=>?_)
 ·exact⟨zdG hHeld.1 (by omega),zdG hHeld.2.1 (by omega),zdG hHeld.2.2.1 (by omega),zdG hHeld.2.2.2.1 (by omega),zdG hHeld.2.2.2.2 (by omega)⟩
 clear hK K hHeld;clear hNew
 try simp only[Act.put,ly]
 refine dn ?_;obtain⟨q1,q2,q3⟩:=zb0 Y6.out (.int .i64 d.net.sta) (.slice A15 h.n1 d15) (.slice A5 h.n2 d5) (.slice A6 h.n3 d6) (.string d.log);have g0:=q1.cellAt 0 (by simp);have g1:=q1.cellAt 1 (by simp);have g2:=q1.cellAt 2 (by simp);have g3':=q1.cellAt 3 (by simp);have g4:=q1.cellAt 4 (by simp);have h5z:wc.heap.size<=w5.heap.size:=HB5.out.size;have hB6:Below w.heap.size w w6:=((HB0.out.trans (HB3.out.mono HB0.out.size)).trans (HB5.out.mono hwz)).trans (HB6.out.mono (Nat.le_trans hwz h5z));have hbF:=zbN hB6 q3 lr lr;have hwz1:=HWZ.out
 obtain⟨F,hF⟩:∃y,((((w6.setCell ⟨w.heap.size,0,none⟩ (.int .i64 d.net.sta)).setCell ⟨w.heap.size,1,none⟩ (.slice A15 h.n1 d15)).setCell ⟨w.heap.size,2,none⟩ (.slice A5 h.n2 d5)).setCell ⟨w.heap.size,3,none⟩ (.slice A6 h.n3 d6)).setCell ⟨w.heap.size,4,none⟩ (.string d.log)=y:=⟨_,rfl⟩
 rw[hF] at q2 q3 hbF;have ho:Off (fun b=>b=w.heap.size) w6 F:=⟨q3.os,q3.tape,q3.output,q3.size,fun k hk hn=>q3.block k hk (by omega)⟩
 have t1:=(((HR15.out.on HB5.out).on HB6.out).off ho (fun b hb e=>by have:=(HR15.out.inB_lt hb).1;omega)).low.wide (show w.heap.size<=W.heap.size by omega) lr;have t2:=((HS5.out.on HB6.out).off ho (fun b hb e=>by have:=(show wc.heap.size<=b from(HS5.out.inB_lt hb).1);omega)).low.wide hwz lr;have t3:=(HO6.out.off ho (fun b hb e=>by have:=(HO6.out.inRn_lt hb).1;omega)).low.wide (show w.heap.size<=w5.heap.size by omega) lr;clear Q0 Q1 Q2 Q3 Q4
 try (go_wp2_with fail)
 exact bodyPost_ret (v:=dkv ⟨A15,h.n1,d15,A5,h.n2,d5,A6,h.n3,d6⟩ d) (by simp[results,dkv,results48,go_sem,g0,g1,g2,g3',g4]) rfl ⟨⟨A15,h.n1,d15,A5,h.n2,d5,A6,h.n3,d6⟩,rfl,by first|(rw[hF];exact⟨t1,t2,_,t3⟩)|exact hF▸⟨t1,t2,_,t3⟩,by first|(rw[hF];exact hbF)|exact hF▸hbF⟩
end
end Go.Proofs.YtjalgpioklcbfaaGreatDoor
