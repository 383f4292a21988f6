/- The shortest way, as the program finds it: the way. -/
import Derived.Test.YtjalgpioklcbfaaGreatDoorMgDesksAL
set_option maxHeartbeats 4000000
set_option maxRecDepth 100000
set_option linter.unusedVariables false
set_option linter.unusedSimpArgs false
namespace Go.Proofs.YtjalgpioklcbfaaGreatDoor
open Go.RowKit Go.Lib Go.Proofs.Tryz
theorem zex{L:List Int}{p:Int}{t:Tb}:zc3 L p t=true↔t.from_=p/\0<=at0 L t.to_/\at0 L t.to_+t.len=at0 L p:=by simp[zc3]
theorem zim{L:List Int}{p:Int}{t:Tb}(h:¬(t.from_=p/\0<=at0 L t.to_/\at0 L t.to_+t.len=at0 L p)):zc3 L p t=false:=by
 rcases e:zc3 L p t with _|_
 ·rfl
 ·exact absurd (zex.1 e) h
theorem ztu{l:List Nat}(h:l.Pairwise (· < ·)){q e i:Nat}(he:l[q]?=some e)(hi:i∈l.drop q):e<=i/\(e≠i->i∈l.drop (q+1)):=by
 have hq:=(List.getElem?_eq_some_iff.1 he).1
 have e1:l.drop q=e::l.drop (q+1):=by
  rw[List.drop_eq_getElem_cons hq]
  congr 1
  exact(List.getElem?_eq_some_iff.1 he).2
 rw[e1] at hi;have hp:(e::l.drop (q+1)).Pairwise (· < ·):=by rw[<-e1];exact h.sublist (List.drop_sublist _ _)
 rcases List.mem_cons.1 hi with rfl|hi
 ·exact⟨Nat.le_refl _,fun h=>absurd rfl h⟩
 ·exact⟨Nat.le_of_lt (List.rel_of_pairwise_cons hp hi),fun _=>hi⟩
theorem zrD{x:Nt}{a b:Int}(h:zdw x [a,b]≠0):wayC x a b=([],zdw x [a,b]):=by
 unfold zdw at h⊢;unfold wayC;simp only[List.all_cons,List.all_nil,Bool.and_true] at h⊢
 split
 ·rfl
 ·rename_i h1;rw[if_neg h1] at h
  split
  ·rfl
  ·rename_i h2;rw[if_neg h2] at h;exact absurd rfl h
theorem zrS{x:Nt}{a b:Int}(h:zdw x [a,b]=0):okNt x=true/\(0<=a/\a<x.sta)/\(0<=b/\b<x.sta)/\wayC x a b=if at0 (farF x b) a<0 then ([],3) else (wayG x.tubes (farF x b) b a,0):=by
 unfold zdw at h;simp only[List.all_cons,List.all_nil,Bool.and_true] at h
 split at h
 ·cases h
 ·rename_i h1
  split at h
  ·cases h
  ·rename_i h2;have h3:(inR a 0 (x.sta-1)&&inR b 0 (x.sta-1))=true:=by simpa using h2
   have h4:=h3;rw[Bool.and_eq_true] at h4;have h5:=zam.1 h4.1;have h6:=zam.1 h4.2;refine⟨by simpa using h1,⟨h5.1,by omega⟩,⟨h6.1,by omega⟩,?_⟩;unfold wayC;rw[if_neg h1,h3];rfl
theorem zor (A:Option Addr) (n c B:Nat) (x:Nt) (a b:Int) (w:World) (h:zad w B 3 A n (tbs x.tubes)) (hB:B <= w.heap.size) (hn:n <= 1048576) :
  Calls prog 81 #[.agg #[.int .i64 x.sta,.slice A n c],.int .i64 a,.int .i64 b] w fun e w'=>∃A' m d,e= .returned (.tuple #[.slice A' m d,.int .i64 (wayC x a b).2])/\Sl w' w.heap.size w'.heap.size 2 1 A' m d (ints (wayC x a b).1)/\Below w.heap.size w w':=by
 obtain⟨W,hW,y0,hb⟩:∃W,W=w.alloc (.cells #[.int .i64 x.sta,.slice A n c] 28)/\Blk W w.heap.size 28 #[.int .i64 x.sta,.slice A n c]/\Below w.heap.size w W:=⟨_,rfl,Blk.new _ _ _,bal _⟩
 have HW:=hid hW;have HB:=hid hb;have HY:=hid y0;have HR:=hid h;clear hW hb y0 h;go_enter func81,ntmps81
 go_upto_region 1 with fail
 rw[<-HW.out];obtain⟨u1,hu1⟩:∃y,W.alloc (.cells #[.int .i64 a,.int .i64 b] 2)=y:=⟨_,rfl⟩
 have yv:Blk u1 W.heap.size 2 (ints [a,b]).toArray:=by rw[<-hu1];exact Blk.new _ _ _
 have bu1:Below W.heap.size W u1:=by rw[<-hu1];exact bal _
 have HYu:=hid (HY.out.on bu1);have HBu:=hid (zac HB.out bu1 lr);have hrq:=yv.readsL (size:=1) (n:=2) rfl;have c0:=HYu.out.cellAt 0 (by simp);have c1:=HYu.out.cellAt 1 (by simp);have d0:=HY.out.cellAt 0 (by simp);have d1:=HY.out.cellAt 1 (by simp);simp only[ly] at c0 c1 d0 d1
 go_wp2_with fail
 refine(zo8 A n c B x (some ⟨W.heap.size,0,none⟩) 2 2 u1.heap.size [a,b] u1 (HR.out.on hB HBu.out) (Nat.le_trans hB HBu.out.size) hn hrq lr (by decide)).mono ?_;rintro e w1 ⟨rfl,b1⟩;have HB1:=hid (zac HBu.out b1 lr);have HY1:=hid (HYu.out.on b1);clear hu1 yv bu1 hrq c0 c1 d0 d1 b1;by_cases hc:zdw x [a,b]=0
 ·obtain⟨ho,ha,hb,hw⟩:=zrS hc;rw[hc];have HWC:=hid hw;have HOK:=hid ho;obtain⟨k1,k2,k3,k4⟩:=zbx ho;have HT:=hid k4;have hln:x.tubes.length=n:=zbW HR.out;have hn24:n<=24:=by omega
  obtain⟨p,hp⟩:=Int.eq_ofNat_of_zero_le ha.1;obtain⟨q,hq⟩:=Int.eq_ofNat_of_zero_le hb.1;subst hp hq;obtain⟨s,hs⟩:∃s:Nat,x.sta.toNat=s:=⟨_,rfl⟩
  have hps:p<s:=by omega
  have hqs:q<s:=by omega
  have hse:x.sta=(s:Int):=by omega
  have HSE:=hid hse;have HSN:=hid hs;have hqx:=hb.2;have HLN:=hid hln;have HQX:=hid hqx;have hsl2:=hs;have HSL:=hid hs;clear hc hw ho k1 k2 k3 k4 ha hb hse hqx hs hsl2 hln;have c0:=HY1.out.cellAt 0 (by simp);have c1:=HY1.out.cellAt 1 (by simp);simp only[ly] at c0 c1
  go_wp2_with fail
  refine(zmo A n c B x q w1 (HR.out.on hB HB1.out) (Nat.le_trans hB HB1.out.size) HOK.out HQX.out).mono ?_;rintro e w2 ⟨g,rfl,y2,hg,b2⟩;rw[HSN.out];have HB2:=hid (zac HB1.out b2 lr);have HY2:=hid (HY1.out.on b2);have HL:=hid (zgP HOK.out (by omega) HQX.out);have HBD:=hid (zkS HOK.out (by omega) HQX.out);have HSTEP:=hid (fun(r:Nat) (h1:(r:Int)<x.sta) h2 h3=>zmi HOK.out (to_:=(q:Int)) (by omega) HQX.out (p:=(r:Int)) (by omega) h1 h2 h3);have HEND:=hid (zob (x:=x) (to_:=(q:Int)));obtain⟨L,hL⟩:∃L,farF x (q:Int)=L:=⟨_,rfl⟩
  have HEL:=hid hL;rw[hL] at y2 HL HBD HSTEP HEND HWC;have hLl:L.length=s:=by rw[<-HSL.out];exact HL.out.len
  have H2:=hid y2;have vp:=y2.intAt (i:=p) (by omega);obtain⟨pp,hpp⟩:∃z,at0 L (p:Int)=z:=⟨_,rfl⟩
  rw[hpp] at vp HWC;have HPP:=hid hpp;have HLL:=hid hLl;have hps1:(p:Int)<s:=by omega
  have hp01:(0:Int)<=p:=by omega
  clear hL hpp y2 b2 hg hLl c0 c1;by_cases hneg:pp<0
  ·have hd:decide (pp<0)=true:=decide_eq_true hneg;have HO:=hid (show wayC x (p:Int) (q:Int)=([],3) by rw[HWC.out,if_pos hneg]);go_wp2;go_ret2;exact⟨none,0,0,by rw[HO.out];rfl,by rw[HO.out];exact Sl.nil _ _ _ _ _,HB2.out⟩
  ·have hd:decide (pp<0)=false:=decide_eq_false hneg;have HO:=hid (show wayC x (p:Int) (q:Int)=(wayG x.tubes L (q:Int) (p:Int),0) by rw[HWC.out,if_neg hneg]);have hsl0:=(Acc.made w2 2 1).sl (lo:=w2.heap.size) lr lr;have hpp0:=HPP.out;have hfu:=zfb x.tubes L (q:Int) ((at0 L (p:Int)).toNat+1) (p:Int)
   have hfl:(wayG x.tubes L (q:Int) (p:Int)).length<=480001:=by
    have:=HBD.out (p:Int) (by omega);unfold wayG;omega
   have HFL:=hid hfl;have hsta:(p:Int)<x.sta:=by rw[HSE.out];exact hps1
   have HS0:=hid hsl0;have HWZ:=hid HB2.out.size;clear hsl0 hpp0 hfu hfl
   go_wp2_with fail
   go_loopw [1,10] (fun pf o wr=>∃(r:Nat) (done:List Int) (A':Option Addr) (m d:Nat),pf= .int .i64 (r:Int)/\o= .slice A' m d/\(r:Int)<x.sta/\0<=at0 L (r:Int)/\Sl wr w2.heap.size wr.heap.size 2 1 A' m d (ints done)/\done++wayG x.tubes L (q:Int) (r:Int)=wayG x.tubes L (q:Int) (p:Int)/\Below w2.heap.size w2 wr) (fun pf _ _=>(at0 L (RowKit.intOf pf)).toNat)
   case atStart=>exact⟨p,[],_,_,_,rfl,rfl,hsta,by rw[HPP.out];omega,HS0.out.low,rfl,bal _⟩
   case round=>
    obtain⟨r,done,A',m,d',rfl,rfl,hrs,hr0,hsl,hdone,hbel⟩:=hrel;have HS:=hid hsl;have HD:=hid hdone;have HBr:=hid (zac HB2.out hbel lr);have HYr:=hid (HY2.out.on hbel);have HLr:=hid (H2.out.on hbel);have HZr:=hid hbel.size;have HW2:=hid hbel
    have hm:m<=480001:=by
     have h1:=hsl.len;have h2:=congrArg List.length hdone;have h3:=HFL.out;rw[za4] at h1;rw[List.length_append] at h2;omega
    clear hsl hdone hbel vp;by_cases hrq:r=q
    ·subst hrq;have HE:=hid (show done=wayG x.tubes L (r:Int) (p:Int) by have:=HD.out;rw[HEND.out,List.append_nil] at this;exact this);go_wp2;go_ret2;exact⟨A',m,d',by rw[HO.out];rfl,by rw[HO.out,<-HE.out];exact HS.out.wide HWZ.out lr,HBr.out⟩
    ·obtain⟨i,t,hti,hst,hall,ht0,htlt,htt,htt2,hcons⟩:=HSTEP.out r hrs hr0 (by omega);have hnn:((r:Int) !=(q:Int))=true:=by rw[bne_iff_ne];omega
     have hin:i∈zca x.tubes (r:Int) n:=by
      rw[zjK];have h1:=(List.getElem?_eq_some_iff.1 hti).1;refine⟨by rw[<-HLN.out];exact h1,?_⟩;unfold isF;rw[hti];simpa using(zex.1 hst).1
     have HIN:=hid hin;have HTI:=hid hti;have HST:=hid hst;have HALL:=hid hall;have HCONS:=hid hcons;have HT0:=hid (And.intro ht0 (And.intro htlt (And.intro htt htt2)));have hr1:(r:Int)<s:=by rw[<-HSE.out];exact hrs
     have hr2:(0:Int)<=r:=by omega
     have cA:=HYr.out.cellAt 0 (by simp);have cB:=HYr.out.cellAt 1 (by simp);simp only[ly] at cA cB;clear hin hti hst hall hcons ht0 htlt htt htt2 hrs hr0
     go_wp2_with fail
     refine(zm4 A n c B x (r:Int) wr (HR.out.on hB HBr.out) (Nat.le_trans hB HBr.out.size) hn24).mono ?_;rintro e w5 ⟨A5,m5,d5,rfl,s5,b5⟩;have HB5:=hid (zac HBr.out b5 lr);have HZ5:=hid (Nat.le_trans HZr.out b5.size);have HZ5b:=hid b5.size;have HW5:=hid (zac HW2.out b5 lr);have HS5:=hid (HS.out.on b5);have HY5:=hid (HYr.out.on b5);have HL5:=hid (HLr.out.on b5);have R5:=hid (s5.reads lr);have hm5:(zca x.tubes (r:Int) n).length=m5:=by have:=s5.len;simpa[natI,za4] using this
     have HM5:=hid hm5;have hm24:m5<=24:=by rw[<-hm5];exact Nat.le_trans (zp5 _ _ _) hn24
     clear b5 s5 cA cB hm5
     go_wp2_with fail
     go_loopw [1,10,38] (fun pf o ix wq=>pf= .int .i64 (r:Int)/\o= .slice A' m d'/\∃j:Nat,ix= .int .i64 j/\j<=m5/\i∈(zca x.tubes (r:Int) n).drop j/\Below w5.heap.size w5 wq) (fun _ _ ix _=>m5-(RowKit.intOf ix).toNat)
     case atStart=>exact⟨rfl,rfl,0,rfl,Nat.zero_le _,by simpa using HIN.out,Below.refl _ _⟩
     case round=>
      rename World=>wq
      obtain⟨rfl,rfl,j,rfl,hj,hij,hbq⟩:=hrel
      have hjm:j<m5:=by
       have:=List.length_pos_of_mem hij;rw[List.length_drop,HM5.out] at this;omega
      have hej:(zca x.tubes (r:Int) n)[j]?=some ((zca x.tubes (r:Int) n)[j]'(by rw[HM5.out];exact hjm)):=List.getElem?_eq_getElem _;obtain⟨ei,hei⟩:∃z,(zca x.tubes (r:Int) n)[j]'(by rw[HM5.out];exact hjm)=z:=⟨_,rfl⟩
      rw[hei] at hej;have hemem:=zjK.1 (List.mem_of_getElem? hej);obtain⟨hle,hnext⟩:=ztu (zqH x.tubes (r:Int) n) hej hij;have HBq:=hid (zac HB5.out hbq lr);obtain⟨te,b,off,hte,rfl,hb,q0,q1,q2⟩:=zdD (HR.out.on hB HBq.out) hemem.1;obtain⟨t1,t2,t3,t4,t5,t6,t7⟩:=HT.out te (List.mem_of_getElem? hte);have hfr:te.from_=(r:Int):=by have:=hemem.2;unfold isF at this;rw[hte] at this;simpa using this
      obtain⟨d,hd'⟩:=Int.eq_ofNat_of_zero_le t3;have hds:d<s:=by rw[HSL.out] at t4;omega
      obtain⟨bj,offj,e1,_,hcj⟩:=(R5.out.on lr hbq).at_ (by omega);subst e1;have cj:=hcj j _ (zsp hej);have vd:=(HL5.out.on hbq).intAt (i:=d) (by rw[HLL.out];exact hds);have vr:=(HL5.out.on hbq).intAt (i:=r) (by rw[HLL.out];omega);have bdd:=HBD.out (d:Int) (by omega);have sdd:=HL.out.sign (d:Int) (by omega);have HTE:=hid hte;have HFR:=hid hfr;have HDD:=hid hd';have HNX:=hid hnext;have HLE:=hid hle;have hen:ei<n:=hemem.1;have HNE9:=hid (show∀ad,A'=some ad->ad.block≠wq.heap.size from fun ad had=>by have:=HS.out.2 ad had;have:=HZ5b.out;have:=hbq.size;omega);obtain⟨pd,hpd⟩:∃z,at0 L (d:Int)=z:=⟨_,rfl⟩
      obtain⟨pr,hpr⟩:∃z,at0 L (r:Int)=z:=⟨_,rfl⟩
      obtain⟨ln,hln⟩:∃z,te.len=z:=⟨_,rfl⟩
      obtain⟨fr,hfr2⟩:∃z,te.from_=z:=⟨_,rfl⟩
      have HPD:=hid hpd;have HPR:=hid hpr;have HLNN:=hid hln;rw[hpd] at vd bdd sdd;rw[hpr] at vr;rw[hd'] at q1;rw[hln] at q2 t6 t7;rw[hfr2] at q0;have hpdb:pd<=480000:=by omega
      have hpdm:-1<=pd:=by omega
      have hd0:(0:Int)<=d:=by omega
      have hds':(d:Int)<s:=by omega
      have hei0:(0:Int)<=ei:=by omega
      have hein:(ei:Int)<n:=by omega
      have hj0:(0:Int)<=j:=by omega
      have hjm':(j:Int)<m5:=by omega
      have HJM:=hid hjm
      have hwr:IntKind.i64.wrap (ln+pd)=ln+pd:=by
       unfold IntKind.wrap;simp[IntKind.bits,IntKind.signed];omega
      have hcA:=(HY5.out.on hbq).cellAt 1 (by simp);simp only[ly] at hcA;have HBQ:=hid hbq;clear hij hej hei hemem hle hnext hte t1 t2 t3 t4 t5 hfr hd' bdd sdd hpd hpr hln hfr2 hcj hbq
      go_upto_region 13 with fail
      obtain⟨u,hu⟩:∃y,wq.alloc (.cells #[.int .i64 fr,.int .i64 (d:Int),.int .i64 ln] 101)=y:=⟨_,rfl⟩
      have yu:Blk u wq.heap.size 101 #[.int .i64 fr,.int .i64 (d:Int),.int .i64 ln]:=by rw[<-hu];exact Blk.new _ _ _
      have bu:Below wq.heap.size wq u:=by rw[<-hu];exact bal _
      have hzu:u.heap.size=wq.heap.size+1:=by rw[<-hu];simp
      rw[hu];have p1:=yu.cellAt 1 (by simp);have p2:=yu.cellAt 2 (by simp);simp only[ly] at p1 p2;replace vd:=zaa bu vd;replace vr:=zaa bu vr;have HSu:=hid ((HS5.out.on HBQ.out).on bu);have HBu:=hid (zac HBQ.out bu lr);have HBf:=hid (zac HBq.out bu lr);have HZU:=hid hzu;clear hu bu yu q0 q1 q2 cj hcA hzu;by_cases hp:pd<0
      ·have hge:decide (0<=pd)=false:=decide_eq_false (by omega)
       go_wp2_with fail
       go_quiet (fail)
       go_wp2
       go_roundw
       case rel=>
        refine⟨rfl,rfl,j+1,by go_num,by have:=HJM.out;omega,HNX.out (fun e=>?_),zan HBu.out _⟩;subst e;have h1:=HTI.out;rw[HTE.out] at h1;injection h1 with h1;have h2:=(zex.1 HST.out).2.1;rw[<-h1,HDD.out,HPD.out] at h2;omega
       case measure=>have:=HJM.out;simp[RowKit.intOf];omega
      ·have hge:decide (0<=pd)=true:=decide_eq_true (by omega);by_cases he:ln+pd=pr
       ·have heq:((ln+pd)==pr)=true:=by rw[he];simp
        have hii:ei=i:=by
         rcases Nat.lt_or_eq_of_le HLE.out with hlt|heq
         ·have h1:=HALL.out ei te hlt HTE.out;rw[zex.2 ⟨HFR.out,by rw[HDD.out,HPD.out];omega,by rw[HDD.out,HPD.out,HLNN.out,HPR.out];omega⟩] at h1
          cases h1
         ·exact heq
        subst hii;have hte:te=t:=by have h1:=HTI.out;rw[HTE.out] at h1;injection h1
        have HTT:=hid (show t.to_=(d:Int) by rw[<-hte];exact HDD.out);clear he hte
        go_wp2_with fail
        go_quiet (fail)
        rename_i nq;obtain⟨v,hv⟩:∃y,u.drewN nq=y:=⟨_,rfl⟩
        have HSv:=hid (show Sl v _ _ _ 1 A' m d' (ints done) by rw[<-hv];exact HSu.out.drewN _);have HBv:=hid (show Below w5.heap.size w5 v by rw[<-hv];exact zan HBu.out _);have hbv:wq.heap.size<v.heap.size:=by rw[<-hv];show wq.heap.size<u.heap.size;rw[HZU.out];exact Nat.lt_succ_self _
        change (u.drewN nq).cell? _=_ at p1;rw[hv] at p1⊢;have hzv:w2.heap.size<=v.heap.size:=Nat.le_trans HZ5.out HBv.out.size;clear hv vd vr p2
        go_wp2_with fail
        refine ez (fun W=>W.cell? ⟨wq.heap.size,1,none⟩=some (.int .i64 (d:Int))) ?_ fun hHeld=>?_
        ·exact p1
        refine dq 0 rfl (h:=dq 1 rfl (h:=dq 4 rfl (h:=dq 5 rfl (h:=?_))));refine rd 2 rfl fun K hK=>?_;go_simp;refine ke hK ?_ ?_
        ·exact zaa (bal _) hHeld
        clear hK K hHeld;intro hHeld;refine rd 3 rfl fun K hK=>?_;refine zbH rfl _ _ 29 rfl 2 _ 1 8 underlying29 zaX rfl (by decide) (by decide) HSv.out.drew hzv rfl [.int .i64 (ei:Int)] v.heap.size rfl rfl rfl (fun u hu=>by simp at hu;subst hu;rfl) (by omega) ?_;intro A2 d2 w9 hs9 b9 f9 k9;refine ke hK ?_ ?_
        ·rw[World.cell?_of_block (f9 wq.heap.size hbv HNE9.out)];exact p1
        clear hK K hHeld;intro hHeld;refine dq 6 rfl (h:=dq 7 rfl (h:=?_));refine dn ?_;have HS9:=hid hs9;have HB9:=hid b9;clear hHeld hs9 b9 f9 k9;go_wp2
        go_roundw
        case rel=>
         have hT:=HT0.out;rw[HTT.out] at hT;refine⟨d,done++ [(ei:Int)],A2,m+1,d2,rfl,rfl,hT.2.2.2,hT.1,?_,?_,?_⟩
         ·rw[<-zbp];exact HS9.out
         ·rw[List.append_assoc,<-HD.out,HCONS.out,HTT.out];rfl
         ·exact(zac HW5.out HBv.out lr).drew.trans HB9.out
        case measure=>
         have hT:=HT0.out;rw[HTT.out] at hT;simp only[RowKit.intOf];omega
       ·have heq:((ln+pd)==pr)=false:=by simpa using he
        go_wp2_with fail
        go_quiet (fail)
        go_wp2
        go_roundw
        case rel=>
         refine⟨rfl,rfl,j+1,by go_num,by have:=HJM.out;omega,HNX.out (fun e=>he ?_),zan HBu.out _⟩;subst e;have h1:=HTI.out;rw[HTE.out] at h1;injection h1 with h1;have h2:=(zex.1 HST.out).2.2;rw[<-h1,HDD.out,HPD.out,HLNN.out,HPR.out] at h2;omega
        case measure=>have:=HJM.out;simp[RowKit.intOf];omega
 ·have hne:(zdw x [a,b] !=0)=true:=by simpa using hc
  have HO:=hid (zrD hc);obtain⟨v,hv⟩:∃v,zdw x [a,b]=v:=⟨_,rfl⟩
  rw[hv] at hne HO⊢;clear hc hv;go_wp2;go_ret2;exact⟨none,0,0,by rw[HO.out];rfl,by rw[HO.out];exact Sl.nil _ _ _ _ _,HB1.out⟩
end Go.Proofs.YtjalgpioklcbfaaGreatDoor
