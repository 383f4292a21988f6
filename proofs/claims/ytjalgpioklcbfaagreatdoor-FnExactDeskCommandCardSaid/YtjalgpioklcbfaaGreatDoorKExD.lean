/- Commands of the console, as the program carries them out: run. -/
import Derived.Test.YtjalgpioklcbfaaGreatDoorMgDesksAR
set_option maxHeartbeats 4000000
set_option maxRecDepth 100000
set_option linter.unusedVariables false
set_option linter.unusedSimpArgs false
namespace Go.Proofs.YtjalgpioklcbfaaGreatDoor
open Go.RowKit Go.Lib Go.Proofs.Tryz
theorem zog(ts:List Int)(rs:List Rn)(way:List Int)(a:Int):i64b (earlF ts rs way a).1:=by
 unfold earlF
 split
 ·unfold i64b;decide
 ·split
  ·unfold i64b;decide
  ·rename_i h1 h2
   split
   ·unfold i64b;decide
   ·rename_i h3;have hr:zap ts rs=true:=by simpa using h1
    have hw:(zaN ts way&&inR a 0 100000)=true:=by simpa using h2
    rw[Bool.and_eq_true] at hw;have ha:=zam.1 hw.2;have he:=(zeE hr hw.1 a).1;exact zcM (by show-1000000000<=earl ts rs way a;omega) (by show earl ts rs way a<=1000000000;omega)
theorem zon {w:World} {lo g:Nat} {h:DkH} {d:Dk} {rh:List RnH} {WA NA:Option Addr} {wn nn:Nat} {ws:List ByteArray} {ns:List Int} {m:Int} (wc nc:Nat) (x:ExIn w lo g h d rh WA wn ws NA nn ns m) (h0:0 < wn) (hw:((zag ws 0).toList == [114,117,110]) = true) (hn:1 <= nn) (hcap:nn <= nc) :
  Calls prog 36 #[.pointer (some ⟨g,0,none⟩),.slice WA wn wc,.slice NA nn nc] w fun e w'=>∃LA ln lc,e= .returned (.tuple #[.slice LA ln lc,.int .i64 (execF d ws ns).code])/\∃h' rh',zdO w w' lo g h' (execF d ws ns).dk rh' LA ln lc (execF d ws ns).lines:=by
 have HX:=hid (show execF d ws ns=runC d ns by unfold execF;rw[eq_of_beq hw];rfl);have e0:=notW (l':=[110,101,116]) hw (by decide);have e1:=notW (l':=[119,97,121]) hw (by decide);have e2:=notW (l':=[116,105,109,101,115]) hw (by decide);have XI:=hid x;obtain⟨s,b0,o0,hs0,rfl,hb0,k0⟩:=zaP x.wsr h0;rw[Nat.add_zero] at k0;have hsw:zag ws 0=s:=by unfold zag;rw[List.getD_eq_getElem?_getD,hs0];rfl
 rw[hsw] at hw e0 e1 e2;obtain⟨c0,c1,c2,c3,c4⟩:=zaq x.blk;obtain⟨n0,bn0,on0,hn0,hNA0,_,q0⟩:=zax x.nsr (k:=0) (by omega);subst hNA0;rw[Nat.add_zero] at q0;have HN0:=hid (show zal ns 0=n0 by unfold zal;rw[List.getD_eq_getElem?_getD,hn0];rfl);have hi0:0<nn:=by omega
 obtain⟨TA,hTA⟩:∃z,(if nc=1 then some (⟨bn0,on0,none⟩:Addr) else some ⟨bn0,on0+1,none⟩)=z:=⟨_,rfl⟩
 have hi9:(1:Int)<=nn:=by omega
 have hSB:=(show zad w w.heap.size 1 TA (nn-1) (ints (ns.drop 1)) by
  have hl:=zai x.nsr;by_cases h1:nc=1
  ·rw[if_pos h1] at hTA;refine⟨by simp[ints];omega,fun h=>by omega⟩
  ·rw[if_neg h1] at hTA;rw[<-hTA];have hr:=x.nsr.sub (i:=1) (m:=nn-1) (by omega);rwa[show((ints ns).drop 1).take (nn-1)=ints (ns.drop 1) by rw[List.take_of_length_le (by simp[ints];omega)];simp[ints]] at hr)
 obtain⟨tl,htl⟩:∃z,ns.drop 1=z:=⟨_,rfl⟩
 rw[htl] at hSB;have HTL:=hid htl;have HSB:=hid hSB;clear htl hSB;clear x hs0 hsw hn0;go_enter func36,ntmps36
 go_wp2_with fail
 refine ez (fun V=>Below w.heap.size w V) ?_ fun hHeld=>?_
 ·exact(Below.refl _ _).drew
 refine dq 0 rfl (h:=dq 1 rfl (h:=dq 2 rfl (h:=dq 3 rfl (hy:=by intro w hSw;(try dsimp only at hSw);(have y2:=zaa hSw c2);(try have z1:=zaa hSw q1);(try have z2:=zaa hSw q2);go_simp;try with_reducible rfl) (h:=dq 4 rfl (h:=dq 5 rfl (h:=dq 6 rfl (h:=dq 7 rfl (hy:=by intro w hSw;(try dsimp only at hSw);(have y3:=zaa hSw c3);(try have z1:=zaa hSw q1);(try have z2:=zaa hSw q2);go_simp;try with_reducible rfl) (h:=?_))))))));refine dq 8 rfl (h:=dq 9 rfl (h:=dq 10 rfl (h:=dq 11 rfl (h:=dq 12 rfl (hy:=by intro w hSw;(try dsimp only at hSw);(try have z0:=zaa hSw q0);(try have z1:=zaa hSw q1);(try have z2:=zaa hSw q2);go_simp;try with_reducible rfl) (h:=?_)))));refine rd 13 rfl fun K hK=>?_;go_simp
 refine(zjj h.A2 h.n2 h.c2 d.times h.A3 h.n3 h.c3 d.runs TA (nn-1) (nc-1) w.heap.size tl n0 _ ((XI.out.own.times.reads lr).on lr hHeld) ((XI.out.own.runs.reads lr).on lr hHeld) (HSB.out.on lr hHeld) hHeld.size XI.out.small.n2 XI.out.small.n3 XI.out.small.runs (by have:=XI.out.nl;omega)).mono ?_;rintro e w5 ⟨rfl,b5⟩
 go_wp2_with fail
 refine ke hK ?_ ?_
 ·exact zac hHeld b5 lr
 clear hK K hHeld;intro hHeld;refine dq 14 rfl (h:=dq 15 rfl (h:=dq 16 rfl (h:=dq 17 rfl (h:=dq 18 rfl (h:=?_)))));refine dn ?_;have HB5:=hid hHeld;clear hHeld;have HEB:=hid (zog d.times d.runs tl n0);obtain⟨el,hel⟩:∃z,earlF d.times d.runs tl n0=z:=⟨_,rfl⟩
 rw[hel] at HEB⊢;have HX2:=hid (show execF d ws ns=if el.2≠0 then ⟨d,[],el.2⟩ else if d.runs.length=12 then ⟨d,[],5⟩ else ⟨⟨d.net,d.times,d.runs++ [⟨tl,el.1⟩],d.log⟩,[zab (itoa el.1)],0⟩ by rw[HX.out,runC,HN0.out,HTL.out,hel]);clear hel;obtain⟨el1,el2⟩:=el;simp only at HEB HX2;have HLR:=hid XI.out.own.runs.len;replace c3:=zaa HB5.out c3;clear c0 c1 c2 c4;by_cases hc:el2=0;rotate_left
 ·have HXF:=hid (show execF d ws ns=⟨d,[],el2⟩ by rw[HX2.out,if_pos hc]);have hcd:(el2 !=0)=true:=by simpa using hc
  clear hc;go_wp2;go_ret2;exact⟨none,0,0,by rw[HXF.out];rfl,h,rh,by rw[HXF.out];exact XI.out.out HB5.out (Sl.nil _ _ _ _ _)⟩
 subst hc;by_cases h12:h.n3=12
 ·have HXF:=hid (show execF d ws ns=⟨d,[],5⟩ by rw[HX2.out,if_neg (by simp),if_pos (by rw[HLR.out];exact h12)]);have hcc:((h.n3:Int)==12)=true:=by rw[h12];rfl
  clear h12;go_wp2;go_ret2;exact⟨none,0,0,by rw[HXF.out];rfl,h,rh,by rw[HXF.out];exact XI.out.out HB5.out (Sl.nil _ _ _ _ _)⟩
 have HXF:=hid (show execF d ws ns=⟨⟨d.net,d.times,d.runs++ [⟨tl,el1⟩],d.log⟩,[zab (itoa el1)],0⟩ by rw[HX2.out,if_neg (by simp),if_neg (by rw[HLR.out];exact h12)])
 have hcc:((h.n3:Int)==12)=false:=by
  rw[beq_eq_false_iff_ne];omega
 have HPL:=hid (show zd6 TA by
  intro ad had;rw[<-hTA] at had
  split at had<;>(injection had with had;rw[<-had]))
 clear h12
 go_upto_region 22 with fail
 refine ez (fun _=>True) ?_ fun hHeld=>?_
 ·trivial
 refine dq 0 rfl (h:=dq 1 rfl (h:=dq 2 rfl (h:=dq 3 rfl (h:=dq 5 rfl (h:=dq 6 rfl (h:=dq 8 rfl (h:=?_)))))));refine wpAnyH_ready (rs:=[4,7]) (by kernel_rfl) (by simp) ?_;refine AllReadyH.cons rfl (fun K hK=>?_) ?_
 ·skip
  go_simp;refine ke hK trivial fun _=>?_;clear hK K;refine rd 7 rfl fun K hK=>?_;go_simp;refine(zaR TA (nn-1) (nc-1) w.heap.size tl w5.drew HPL.out ((HSB.out.on lr HB5.out).keep fun _ _=>rfl) (by have:=XI.out.nl;omega)).mono ?_;rintro e w6 ⟨A6,d6,rfl,s6,b6⟩;have b6u:=(show Below w5.heap.size w5 w6 from(Below.refl _ _).drew.trans b6)
  have HB6:=hid (zac HB5.out b6u lr);have HS6:=hid (s6.wide HB5.out.size lr);replace c3:=zaa b6u c3;have HR6:=hid ((XI.out.own.runs.on HB6.out).low);have hz6:lo<=w6.heap.size:=by have:=XI.out.glo;have:=XI.out.blk.lt;have:=HB6.out.size;omega
  clear s6 b6 b6u
  go_wp2_with fail
  refine ke hK trivial fun _=>?_;clear hK K;refine dq 9 rfl (h:=?_);refine rd 10 rfl fun K hK=>?_;go_simp;refine ke hK trivial fun _=>?_;clear hK K;refine rd 11 rfl fun K hK=>?_;refine zbH rfl _ _ 30 rfl 123 _ 2 32 underlying30 zeJ rfl (by decide) (by decide) HR6.out.row hz6 rfl [.slice A6 (nn-1) d6,.int .i64 el1] w6.heap.size rfl rfl rfl (zfE A6 (nn-1) d6 el1) (by have:=XI.out.small.n3;omega) ?_;intro A7 d7 w7 hs7 b7 f7 k7;have HS7:=hid hs7;have HB7:=hid b7;have HF7:=hid f7;have HK7:=hid k7
  have Y7:Blk w7 g 32 #[.int .i64 d.net.sta,.slice h.A1 h.n1 h.c1,.slice h.A2 h.n2 h.c2,.slice h.A3 h.n3 h.c3,.string d.log]:=(f7 g (by have:=XI.out.blk.lt;have:=HB6.out.size;omega) (fun ad had e=>XI.out.gne g (.inr (.inr (.inl ⟨ad,had,e⟩))) rfl)).trans (XI.out.blk.on HB6.out);clear hs7 b7 f7 k7;refine ke hK trivial fun _=>?_;clear hK K;refine dq 12 rfl (h:=dq 13 rfl (h:=?_));refine rd 14 rfl fun K hK=>?_;have f3:=Y7.frozen 3;have c3z:=Y7.cellAt 3 (by simp);go_simp;refine ke hK trivial fun _=>?_;clear hK K;refine dn ?_;have ho7:=zb5 HB7.out HF7.out;have y8:=Y7.set_ 3 (.slice A7 (h.n3+1) d7);obtain⟨u,hu⟩:∃y,w7.setCell ⟨g,3,none⟩ (.slice A7 (h.n3+1) d7)=y:=⟨_,rfl⟩
  have ho:Only g (g+1) w7 u:=by rw[<-hu];exact(Only.refl g (g+1) w7).setCell (p:=⟨g,3,none⟩) lr (Nat.lt_succ_self _) _
  have yu:Blk u g 32 #[.int .i64 d.net.sta,.slice h.A1 h.n1 h.c1,.slice h.A2 h.n2 h.c2,.slice A7 (h.n3+1) d7,.string d.log]:=by rw[<-hu];simpa using y8
  rw[hu];have hgw:=XI.out.blk.lt;have hgl:=XI.out.glo;have hgo:∀b,inD h rh b->b≠g:=XI.out.gne;have og:Off (fun b=>b=g) w7 u:=⟨ho.os,ho.tape,ho.output,ho.size,fun k hk hn=>ho.block k hk (by omega)⟩
  have HO6:=XI.out.own.on HB6.out;have t1:=(HO6.tubes.off ho7 (fun b hb hc=>HO6.n1r b hb (.inl hc))).off og (fun b hb=>hgo b (.inl hb));have t2:=(HO6.times.off ho7 (fun b hb hc=>HO6.n2r b hb (.inl hc))).off og (fun b hb=>hgo b (.inr (.inl hb)));have r7:=OwnR.snoc (r:=⟨tl,el1⟩) HO6.runs HB6.out.size (by omega) HS6.out (by have:=XI.out.nl;omega) HS7.out (HB7.out) HF7.out HK7.out
  have hA7g:∀b,inRn A7 (rh++ [⟨A6,nn-1,d6,el1⟩]) b->b≠g:=fun b hb e=>by
   rcases hb with hb|⟨i,y,hy,hb⟩
   ·obtain⟨ad,e1,e2⟩:=hb;exact HK7.out g (by have:=HB6.out.size;omega) (fun ad' e' hh'=>hgo g (.inr (.inr (.inl ⟨ad',e',hh'⟩))) rfl) ad e1 (e2.trans e)
   ·rw[List.getElem?_append] at hy
    split at hy
    ·exact hgo b (.inr (.inr (.inr ⟨i,y,hy,hb⟩))) e
    ·rename_i hi
     have:i-rh.length=0:=by
      by_cases e:i-rh.length=0
      ·exact e
      ·rw[List.getElem?_eq_none (by simp;omega)] at hy;cases hy
     rw[this] at hy;simp at hy;subst hy;have:=(HS6.out.inB_lt hb).1;omega
  have r8:=r7.off og hA7g;have bu:Below lo w u:=((HB6.out.mono (by omega)).trans HB7.out).trans (ho.below (by omega) (by have:=HB6.out.size;have:=HB7.out.size;omega))
  have hold:∀b,inRn A7 (rh++ [⟨A6,nn-1,d6,el1⟩]) b->b<w.heap.size->inRn h.A3 rh b:=fun b hb hlt=>by
   rcases hb with hb|⟨i,y,hy,hb⟩
   ·by_cases hc:inB h.A3 b
    ·exact .inl hc
    ·obtain⟨ad,e1,e2⟩:=hb;exact absurd e2 (HK7.out b (by have:=HB6.out.size;omega) (fun ad' e' hh'=>hc ⟨ad',e',hh'⟩) ad e1)
   ·rw[List.getElem?_append] at hy
    split at hy
    ·exact .inr ⟨i,y,hy,hb⟩
    ·rename_i hi
     have:i-rh.length=0:=by
      by_cases e:i-rh.length=0
      ·exact e
      ·rw[List.getElem?_eq_none (by simp;omega)] at hy;cases hy
     rw[this] at hy;simp at hy;subst hy;have:=(HS6.out.inB_lt hb).1;omega
  have hown:OwnD u lo u.heap.size ⟨h.A1,h.n1,h.c1,h.A2,h.n2,h.c2,A7,h.n3+1,d7⟩ ⟨d.net,d.times,d.runs++ [⟨tl,el1⟩],d.log⟩ (rh++ [⟨A6,nn-1,d6,el1⟩]):=
   ⟨t1.low,t2.low,r8.low,HO6.n12,fun b hb hc=>HO6.n1r b hb (hold b hc (HO6.tubes.inB_lt hb).2),fun b hb hc=>HO6.n2r b hb (hold b hc (HO6.times.inB_lt hb).2)⟩
  have hgn:∀b,inD ⟨h.A1,h.n1,h.c1,h.A2,h.n2,h.c2,A7,h.n3+1,d7⟩ (rh++ [⟨A6,nn-1,d6,el1⟩]) b->b≠g:=fun b hb=>by
   rcases hb with hb|hb|hb
   ·exact hgo b (.inl hb)
   ·exact hgo b (.inr (.inl hb))
   ·exact hA7g b hb
  have HYU:=hid yu;have HON:=hid hown;have HBU:=hid bu;have HGN:=hid hgn;clear hHeld c3 Y7 f3 ho7 y8 hu ho yu hgw hgl hgo og HO6 t1 t2 r7 hA7g r8 bu hold hown hgn
  go_wp2_with fail
  refine(zaL el1 u HEB.out.1 HEB.out.2 (zdM XI.out.tab XI.out.low HBU.out)).mono ?_;rintro e w8 ⟨rfl,b8⟩;have HB8:=hid b8;clear b8;go_wp2;go_ret2;have hz:=HB8.out.size;have b9:=HB8.out.alloc hz (.cells #[.string (zab (itoa el1))] 9);have hgw:=HYU.out.lt;have hgl:=XI.out.glo;have s9:=Sl.one9 (W:=w8) (s:=zab (itoa el1)) hz;refine⟨_,_,_,by rw[HXF.out];rfl,⟨h.A1,h.n1,h.c1,h.A2,h.n2,h.c2,A7,h.n3+1,d7⟩,rh++ [⟨A6,nn-1,d6,el1⟩],?_⟩;rw[HXF.out];refine⟨HYU.out.on b9,(HON.out.on b9).wide lr b9.size,HGN.out,s9.wide (by omega) lr,fun b hb hd=>?_,fun b hb e=>?_,HBU.out.trans (b9.mono (by omega))⟩
  ·have:=s9.inB_lt hb;have:=HON.out.inD_lt hd;omega
  ·have:=s9.inB_lt hb;omega
 refine AllReadyH.cons rfl (fun K hK=>?_) ?_
 ·skip
  go_simp;refine(zaR TA (nn-1) (nc-1) w.heap.size tl w5.drew HPL.out ((HSB.out.on lr HB5.out).keep fun _ _=>rfl) (by have:=XI.out.nl;omega)).mono ?_;rintro e w6 ⟨A6,d6,rfl,s6,b6⟩;have b6u:=(show Below w5.heap.size w5 w6 from(Below.refl _ _).drew.trans b6)
  have HB6:=hid (zac HB5.out b6u lr);have HS6:=hid (s6.wide HB5.out.size lr);replace c3:=zaa b6u c3;have HR6:=hid ((XI.out.own.runs.on HB6.out).low);have hz6:lo<=w6.heap.size:=by have:=XI.out.glo;have:=XI.out.blk.lt;have:=HB6.out.size;omega
  clear s6 b6 b6u
  go_wp2_with fail
  refine ke hK trivial fun _=>?_;clear hK K;refine dq 9 rfl (h:=?_);refine wpAnyH_ready (rs:=[4,10]) (by kernel_rfl) (by simp) ?_;refine AllReadyH.cons rfl (fun K hK=>?_) ?_
  ·skip
   go_simp;refine ke hK trivial fun _=>?_;clear hK K;refine rd 10 rfl fun K hK=>?_;go_simp;refine ke hK trivial fun _=>?_;clear hK K;refine rd 11 rfl fun K hK=>?_;refine zbH rfl _ _ 30 rfl 123 _ 2 32 underlying30 zeJ rfl (by decide) (by decide) HR6.out.row hz6 rfl [.slice A6 (nn-1) d6,.int .i64 el1] w6.heap.size rfl rfl rfl (zfE A6 (nn-1) d6 el1) (by have:=XI.out.small.n3;omega) ?_;intro A7 d7 w7 hs7 b7 f7 k7;have HS7:=hid hs7;have HB7:=hid b7;have HF7:=hid f7;have HK7:=hid k7
   have Y7:Blk w7 g 32 #[.int .i64 d.net.sta,.slice h.A1 h.n1 h.c1,.slice h.A2 h.n2 h.c2,.slice h.A3 h.n3 h.c3,.string d.log]:=(f7 g (by have:=XI.out.blk.lt;have:=HB6.out.size;omega) (fun ad had e=>XI.out.gne g (.inr (.inr (.inl ⟨ad,had,e⟩))) rfl)).trans (XI.out.blk.on HB6.out);clear hs7 b7 f7 k7;refine ke hK trivial fun _=>?_;clear hK K;refine dq 12 rfl (h:=dq 13 rfl (h:=?_));refine rd 14 rfl fun K hK=>?_;have f3:=Y7.frozen 3;have c3z:=Y7.cellAt 3 (by simp);go_simp;refine ke hK trivial fun _=>?_;clear hK K;refine dn ?_;have ho7:=zb5 HB7.out HF7.out;have y8:=Y7.set_ 3 (.slice A7 (h.n3+1) d7);obtain⟨u,hu⟩:∃y,w7.setCell ⟨g,3,none⟩ (.slice A7 (h.n3+1) d7)=y:=⟨_,rfl⟩
   have ho:Only g (g+1) w7 u:=by rw[<-hu];exact(Only.refl g (g+1) w7).setCell (p:=⟨g,3,none⟩) lr (Nat.lt_succ_self _) _
   have yu:Blk u g 32 #[.int .i64 d.net.sta,.slice h.A1 h.n1 h.c1,.slice h.A2 h.n2 h.c2,.slice A7 (h.n3+1) d7,.string d.log]:=by rw[<-hu];simpa using y8
   rw[hu];have hgw:=XI.out.blk.lt;have hgl:=XI.out.glo;have hgo:∀b,inD h rh b->b≠g:=XI.out.gne;have og:Off (fun b=>b=g) w7 u:=⟨ho.os,ho.tape,ho.output,ho.size,fun k hk hn=>ho.block k hk (by omega)⟩
   have HO6:=XI.out.own.on HB6.out;have t1:=(HO6.tubes.off ho7 (fun b hb hc=>HO6.n1r b hb (.inl hc))).off og (fun b hb=>hgo b (.inl hb));have t2:=(HO6.times.off ho7 (fun b hb hc=>HO6.n2r b hb (.inl hc))).off og (fun b hb=>hgo b (.inr (.inl hb)));have r7:=OwnR.snoc (r:=⟨tl,el1⟩) HO6.runs HB6.out.size (by omega) HS6.out (by have:=XI.out.nl;omega) HS7.out (HB7.out) HF7.out HK7.out
   have hA7g:∀b,inRn A7 (rh++ [⟨A6,nn-1,d6,el1⟩]) b->b≠g:=fun b hb e=>by
    rcases hb with hb|⟨i,y,hy,hb⟩
    ·obtain⟨ad,e1,e2⟩:=hb;exact HK7.out g (by have:=HB6.out.size;omega) (fun ad' e' hh'=>hgo g (.inr (.inr (.inl ⟨ad',e',hh'⟩))) rfl) ad e1 (e2.trans e)
    ·rw[List.getElem?_append] at hy
     split at hy
     ·exact hgo b (.inr (.inr (.inr ⟨i,y,hy,hb⟩))) e
     ·rename_i hi
      have:i-rh.length=0:=by
       by_cases e:i-rh.length=0
       ·exact e
       ·rw[List.getElem?_eq_none (by simp;omega)] at hy;cases hy
      rw[this] at hy;simp at hy;subst hy;have:=(HS6.out.inB_lt hb).1;omega
   have r8:=r7.off og hA7g;have bu:Below lo w u:=((HB6.out.mono (by omega)).trans HB7.out).trans (ho.below (by omega) (by have:=HB6.out.size;have:=HB7.out.size;omega))
   have hold:∀b,inRn A7 (rh++ [⟨A6,nn-1,d6,el1⟩]) b->b<w.heap.size->inRn h.A3 rh b:=fun b hb hlt=>by
    rcases hb with hb|⟨i,y,hy,hb⟩
    ·by_cases hc:inB h.A3 b
     ·exact .inl hc
     ·obtain⟨ad,e1,e2⟩:=hb;exact absurd e2 (HK7.out b (by have:=HB6.out.size;omega) (fun ad' e' hh'=>hc ⟨ad',e',hh'⟩) ad e1)
    ·rw[List.getElem?_append] at hy
     split at hy
     ·exact .inr ⟨i,y,hy,hb⟩
     ·rename_i hi
      have:i-rh.length=0:=by
       by_cases e:i-rh.length=0
       ·exact e
       ·rw[List.getElem?_eq_none (by simp;omega)] at hy;cases hy
      rw[this] at hy;simp at hy;subst hy;have:=(HS6.out.inB_lt hb).1;omega
   have hown:OwnD u lo u.heap.size ⟨h.A1,h.n1,h.c1,h.A2,h.n2,h.c2,A7,h.n3+1,d7⟩ ⟨d.net,d.times,d.runs++ [⟨tl,el1⟩],d.log⟩ (rh++ [⟨A6,nn-1,d6,el1⟩]):=
    ⟨t1.low,t2.low,r8.low,HO6.n12,fun b hb hc=>HO6.n1r b hb (hold b hc (HO6.tubes.inB_lt hb).2),fun b hb hc=>HO6.n2r b hb (hold b hc (HO6.times.inB_lt hb).2)⟩
   have hgn:∀b,inD ⟨h.A1,h.n1,h.c1,h.A2,h.n2,h.c2,A7,h.n3+1,d7⟩ (rh++ [⟨A6,nn-1,d6,el1⟩]) b->b≠g:=fun b hb=>by
    rcases hb with hb|hb|hb
    ·exact hgo b (.inl hb)
    ·exact hgo b (.inr (.inl hb))
    ·exact hA7g b hb
   have HYU:=hid yu;have HON:=hid hown;have HBU:=hid bu;have HGN:=hid hgn;clear hHeld c3 Y7 f3 ho7 y8 hu ho yu hgw hgl hgo og HO6 t1 t2 r7 hA7g r8 bu hold hown hgn
   go_wp2_with fail
   refine(zaL el1 u HEB.out.1 HEB.out.2 (zdM XI.out.tab XI.out.low HBU.out)).mono ?_;rintro e w8 ⟨rfl,b8⟩;have HB8:=hid b8;clear b8;go_wp2;go_ret2;have hz:=HB8.out.size;have b9:=HB8.out.alloc hz (.cells #[.string (zab (itoa el1))] 9);have hgw:=HYU.out.lt;have hgl:=XI.out.glo;have s9:=Sl.one9 (W:=w8) (s:=zab (itoa el1)) hz;refine⟨_,_,_,by rw[HXF.out];rfl,⟨h.A1,h.n1,h.c1,h.A2,h.n2,h.c2,A7,h.n3+1,d7⟩,rh++ [⟨A6,nn-1,d6,el1⟩],?_⟩;rw[HXF.out];refine⟨HYU.out.on b9,(HON.out.on b9).wide lr b9.size,HGN.out,s9.wide (by omega) lr,fun b hb hd=>?_,fun b hb e=>?_,HBU.out.trans (b9.mono (by omega))⟩
   ·have:=s9.inB_lt hb;have:=HON.out.inD_lt hd;omega
   ·have:=s9.inB_lt hb;omega
  refine AllReadyH.cons rfl (fun K hK=>?_) ?_
  ·skip
   go_simp;refine ke hK trivial fun _=>?_;clear hK K;refine rd 4 rfl fun K hK=>?_;have c3b:=zaa ((Below.refl w6.heap.size w6).alloc lr (.cells #[.slice A6 (nn-1) d6,.int .i64 el1] 123)) c3;have hgl9:=World.block_lt_of_cell? _ _ c3;go_simp;refine ke hK trivial fun _=>?_;clear hK K;refine rd 11 rfl fun K hK=>?_;refine zbH rfl _ _ 30 rfl 123 _ 2 32 underlying30 zeJ rfl (by decide) (by decide) HR6.out.row hz6 rfl [.slice A6 (nn-1) d6,.int .i64 el1] w6.heap.size rfl rfl rfl (zfE A6 (nn-1) d6 el1) (by have:=XI.out.small.n3;omega) ?_;intro A7 d7 w7 hs7 b7 f7 k7;have HS7:=hid hs7;have HB7:=hid b7;have HF7:=hid f7;have HK7:=hid k7
   have Y7:Blk w7 g 32 #[.int .i64 d.net.sta,.slice h.A1 h.n1 h.c1,.slice h.A2 h.n2 h.c2,.slice h.A3 h.n3 h.c3,.string d.log]:=(f7 g (by have:=XI.out.blk.lt;have:=HB6.out.size;omega) (fun ad had e=>XI.out.gne g (.inr (.inr (.inl ⟨ad,had,e⟩))) rfl)).trans (XI.out.blk.on HB6.out);clear hs7 b7 f7 k7;refine ke hK trivial fun _=>?_;clear hK K;refine dq 12 rfl (h:=dq 13 rfl (h:=?_));refine rd 14 rfl fun K hK=>?_;have f3:=Y7.frozen 3;have c3z:=Y7.cellAt 3 (by simp);go_simp;refine ke hK trivial fun _=>?_;clear hK K;refine dn ?_;have ho7:=zb5 HB7.out HF7.out;have y8:=Y7.set_ 3 (.slice A7 (h.n3+1) d7);obtain⟨u,hu⟩:∃y,w7.setCell ⟨g,3,none⟩ (.slice A7 (h.n3+1) d7)=y:=⟨_,rfl⟩
   have ho:Only g (g+1) w7 u:=by rw[<-hu];exact(Only.refl g (g+1) w7).setCell (p:=⟨g,3,none⟩) lr (Nat.lt_succ_self _) _
   have yu:Blk u g 32 #[.int .i64 d.net.sta,.slice h.A1 h.n1 h.c1,.slice h.A2 h.n2 h.c2,.slice A7 (h.n3+1) d7,.string d.log]:=by rw[<-hu];simpa using y8
   rw[hu];have hgw:=XI.out.blk.lt;have hgl:=XI.out.glo;have hgo:∀b,inD h rh b->b≠g:=XI.out.gne;have og:Off (fun b=>b=g) w7 u:=⟨ho.os,ho.tape,ho.output,ho.size,fun k hk hn=>ho.block k hk (by omega)⟩
   have HO6:=XI.out.own.on HB6.out;have t1:=(HO6.tubes.off ho7 (fun b hb hc=>HO6.n1r b hb (.inl hc))).off og (fun b hb=>hgo b (.inl hb));have t2:=(HO6.times.off ho7 (fun b hb hc=>HO6.n2r b hb (.inl hc))).off og (fun b hb=>hgo b (.inr (.inl hb)));have r7:=OwnR.snoc (r:=⟨tl,el1⟩) HO6.runs HB6.out.size (by omega) HS6.out (by have:=XI.out.nl;omega) HS7.out (HB7.out) HF7.out HK7.out
   have hA7g:∀b,inRn A7 (rh++ [⟨A6,nn-1,d6,el1⟩]) b->b≠g:=fun b hb e=>by
    rcases hb with hb|⟨i,y,hy,hb⟩
    ·obtain⟨ad,e1,e2⟩:=hb;exact HK7.out g (by have:=HB6.out.size;omega) (fun ad' e' hh'=>hgo g (.inr (.inr (.inl ⟨ad',e',hh'⟩))) rfl) ad e1 (e2.trans e)
    ·rw[List.getElem?_append] at hy
     split at hy
     ·exact hgo b (.inr (.inr (.inr ⟨i,y,hy,hb⟩))) e
     ·rename_i hi
      have:i-rh.length=0:=by
       by_cases e:i-rh.length=0
       ·exact e
       ·rw[List.getElem?_eq_none (by simp;omega)] at hy;cases hy
      rw[this] at hy;simp at hy;subst hy;have:=(HS6.out.inB_lt hb).1;omega
   have r8:=r7.off og hA7g;have bu:Below lo w u:=((HB6.out.mono (by omega)).trans HB7.out).trans (ho.below (by omega) (by have:=HB6.out.size;have:=HB7.out.size;omega))
   have hold:∀b,inRn A7 (rh++ [⟨A6,nn-1,d6,el1⟩]) b->b<w.heap.size->inRn h.A3 rh b:=fun b hb hlt=>by
    rcases hb with hb|⟨i,y,hy,hb⟩
    ·by_cases hc:inB h.A3 b
     ·exact .inl hc
     ·obtain⟨ad,e1,e2⟩:=hb;exact absurd e2 (HK7.out b (by have:=HB6.out.size;omega) (fun ad' e' hh'=>hc ⟨ad',e',hh'⟩) ad e1)
    ·rw[List.getElem?_append] at hy
     split at hy
     ·exact .inr ⟨i,y,hy,hb⟩
     ·rename_i hi
      have:i-rh.length=0:=by
       by_cases e:i-rh.length=0
       ·exact e
       ·rw[List.getElem?_eq_none (by simp;omega)] at hy;cases hy
      rw[this] at hy;simp at hy;subst hy;have:=(HS6.out.inB_lt hb).1;omega
   have hown:OwnD u lo u.heap.size ⟨h.A1,h.n1,h.c1,h.A2,h.n2,h.c2,A7,h.n3+1,d7⟩ ⟨d.net,d.times,d.runs++ [⟨tl,el1⟩],d.log⟩ (rh++ [⟨A6,nn-1,d6,el1⟩]):=
    ⟨t1.low,t2.low,r8.low,HO6.n12,fun b hb hc=>HO6.n1r b hb (hold b hc (HO6.tubes.inB_lt hb).2),fun b hb hc=>HO6.n2r b hb (hold b hc (HO6.times.inB_lt hb).2)⟩
   have hgn:∀b,inD ⟨h.A1,h.n1,h.c1,h.A2,h.n2,h.c2,A7,h.n3+1,d7⟩ (rh++ [⟨A6,nn-1,d6,el1⟩]) b->b≠g:=fun b hb=>by
    rcases hb with hb|hb|hb
    ·exact hgo b (.inl hb)
    ·exact hgo b (.inr (.inl hb))
    ·exact hA7g b hb
   have HYU:=hid yu;have HON:=hid hown;have HBU:=hid bu;have HGN:=hid hgn;clear hHeld c3 Y7 f3 ho7 y8 hu ho yu hgw hgl hgo og HO6 t1 t2 r7 hA7g r8 bu hold hown hgn
   go_wp2_with fail
   refine(zaL el1 u HEB.out.1 HEB.out.2 (zdM XI.out.tab XI.out.low HBU.out)).mono ?_;rintro e w8 ⟨rfl,b8⟩;have HB8:=hid b8;clear b8;go_wp2;go_ret2;have hz:=HB8.out.size;have b9:=HB8.out.alloc hz (.cells #[.string (zab (itoa el1))] 9);have hgw:=HYU.out.lt;have hgl:=XI.out.glo;have s9:=Sl.one9 (W:=w8) (s:=zab (itoa el1)) hz;refine⟨_,_,_,by rw[HXF.out];rfl,⟨h.A1,h.n1,h.c1,h.A2,h.n2,h.c2,A7,h.n3+1,d7⟩,rh++ [⟨A6,nn-1,d6,el1⟩],?_⟩;rw[HXF.out];refine⟨HYU.out.on b9,(HON.out.on b9).wide lr b9.size,HGN.out,s9.wide (by omega) lr,fun b hb hd=>?_,fun b hb e=>?_,HBU.out.trans (b9.mono (by omega))⟩
   ·have:=s9.inB_lt hb;have:=HON.out.inD_lt hd;omega
   ·have:=s9.inB_lt hb;omega
  exact AllReadyH.nil
 exact AllReadyH.nil
end Go.Proofs.YtjalgpioklcbfaaGreatDoor
