/- Steps of the proof. -/
import Derived.Test.YtjalgpioklcbfaaGreatDoorMgDesksAD
import Derived.Test.YtjalgpioklcbfaaGreatDoorKShelf
import Derived.Lib.LaidTab
import Derived.Lib.Join
import Derived.Lib.ParseIntBTie
import Derived.Lib.AtoiErrMem
import Derived.Test.YtjalgpioklcbfaaGreatDoorRows
import Derived.HandedShaped
import Derived.Handed
import Derived.Shelf.Vars
import Derived.LaidMore
import Derived.Stop.LaidErr
set_option maxHeartbeats 4000000
set_option maxRecDepth 100000
set_option linter.unusedVariables false
set_option linter.unusedSimpArgs false
namespace Go.Proofs.YtjalgpioklcbfaaGreatDoor
section
open Go.RowKit Go.Lib Go.Proofs.Tryz
theorem zdZ(s:ByteArray)(j k:Nat):(s.extract j k).data.toList=(s.data.toList.drop j).take (k-j):=by
 simp[ByteArray.data_extract,Array.toList_extract,List.extract_eq_take_drop]
theorem zk1 {s:ByteArray} {c:UInt8} {j k:Nat} (hn:c ∉ (s.extract j k).data.toList) (hj:j <= k) (hk:k < s.size) (hc:s[k] = c) :
  zah c (s.extract j s.size)=s.extract j k::zah c (s.extract (k+1) s.size):=by
 have hl:=za8 s
 have e1:s.data.toList.drop j=(s.data.toList.drop j).take (k-j)++c::s.data.toList.drop (k+1):=by
  have e2:s.data.toList.drop k=c::s.data.toList.drop (k+1):=by
   rw[List.drop_eq_getElem_cons (by omega)];have:=zcK s k hk;rw[List.getElem?_eq_getElem (by omega)] at this;injection this with this;rw[this,hc]
  rw[<-e2]
  have e3:s.data.toList.drop k=(s.data.toList.drop j).drop (k-j):=by
   rw[List.drop_drop];congr 1;omega
  rw[e3,List.take_append_drop]
 unfold zah;rw[extract_to_end,extract_to_end,e1,<-zdZ,zba hn,List.map_cons,zaM]
theorem zpd{s:ByteArray}{c:UInt8}{j k:Nat}(hn:c∉(s.extract j k).data.toList)(hj:j<=k)(hk:k<s.size)(hc:s[k]≠c):c∉(s.extract j (k+1)).data.toList:=by
 have hl:=za8 s;rw[zdZ] at hn⊢;rw[show k+1-j=(k-j)+1 by omega,List.take_succ_eq_append_getElem (by rw[List.length_drop];omega)];intro h;rcases List.mem_append.1 h with h|h
 ·exact hn h
 ·rw[List.mem_singleton,List.getElem_drop] at h;have:=zcK s k hk;rw[List.getElem?_eq_getElem (by omega)] at this;injection this with this;apply hc;rw[h,<-this]
  congr 1
  omega
theorem zjo(s:ByteArray)(c:UInt8)(j:Nat):c∉(s.extract j j).data.toList:=by
 rw[zdZ];simp
theorem zik{s:ByteArray}{c:UInt8}(h:c∉s.data.toList):zah c s=[s]:=by
 unfold zah;rw[zcg h,List.map_cons,zaM,List.map_nil]
theorem zoc(s:ByteArray):s.extract 0 s.size=s:=by
 have h:=zdZ s 0 s.size;rw[show s.size-0=s.data.toList.length by rw[za8];rfl,List.drop_zero,List.take_length] at h;rw[<-zaM (s.extract 0 s.size),h,zaM]
theorem zly:(prog.info? 9).map (fun i=>(i.zero,i.size,i.bytes))=some (some (.string ⟨#[]⟩),1,16):=by kernel_rfl
theorem zk5(l:List ByteArray)(x:ByteArray):strs (l++ [x])=strs l++ [.string x]:=by simp[strs]
theorem zcD (s:ByteArray) (c:UInt8) (w:World) (hs:s.size <= 1048576) :
  Calls prog 40 #[.string s,.int .u8 (c.toNat:Int)] w fun e w'=>∃A m d,e= .returned (.slice A m d)/\Sl w' w.heap.size w'.heap.size 9 1 A m d (strs (zah c s))/\Below w.heap.size w w':=by
 have acc0:=Acc.made w 9 1;go_enter func40,ntmps40;go_wp2
 go_loopw [5,6,7] (fun o f i wr=>∃(k j:Nat) (A':Option Addr) (m d:Nat) (ds:List ByteArray),j<=k/\k<=s.size/\i= .int .i64 k/\f= .int .i64 j/\o= .slice A' m d/\Acc w.heap.size w.heap.size 9 1 w wr A' m d (strs ds)/\zah c s=ds++zah c (s.extract j s.size)/\c∉(s.extract j k).data.toList/\ds.length<=j) (fun _ _ i _=>s.size-(RowKit.intOf i).toNat)
 case atStart=>exact⟨0,0,_,_,_,[],Nat.le_refl _,Nat.zero_le _,rfl,rfl,rfl,acc0,by rw[zoc];rfl,zjo s c 0,Nat.le_refl _⟩
 case round=>
  obtain⟨k,j,A',m,d,ds,hjk,hk,rfl,rfl,rfl,hacc,hsp,hno,hdl⟩:=hrel;have HA:=hid hacc;have HS:=hid hsp;have HN:=hid hno;have hml:m<=s.size:=by have h1:=hacc.len;rw[za6] at h1;omega
  clear acc0 hacc hsp hno;have h0j:(0:Int)<=(j:Int):=by omega
  have hjki:(j:Int)<=(k:Int):=by omega
  have hki:(k:Int)<=(s.size:Int):=by omega
  by_cases hlt:k<s.size
  ·have hlti:(k:Int)<(s.size:Int):=by omega
   by_cases hc:s[k]=c
   ·have hq:((s[k].toNat:Int)==(c.toNat:Int))=true:=by rw[hc];simp
    have HS2:=hid (show zah c s=(ds++ [s.extract j k])++zah c (s.extract (k+1) s.size) by
     rw[HS.out,zk1 HN.out hjk hlt hc,List.append_assoc];rfl)
    clear hc
    go_wp2_with (at_builtin;refine zeC rfl _ _ 24 rfl 9 _ 1 16 underlying24 zly rfl (by decide) (by decide) HA.out lr rfl [.string (s.extract j k)] rfl rfl (fun u hu=>by simp at hu;subst hu;rfl) (by omega) ?_;intro A2 d2 w9 hacc2;have HA2:=hid hacc2;clear hacc2)
    go_roundw
    case rel=>exact⟨k+1,k+1,_,_,_,ds++ [s.extract j k],Nat.le_refl _,by omega,by go_num,by go_num,rfl,by rw[zk5];exact HA2.out,HS2.out,zjo s c (k+1),by simp;omega⟩
    case measure=>simp[RowKit.intOf];omega
   ·have hq:((s[k].toNat:Int)==(c.toNat:Int))=false:=by
     rw[beq_eq_false_iff_ne];intro e;exact hc (by rw[<-UInt8.toNat_inj];omega)
    have HN2:=hid (zpd HN.out hjk hlt hc);clear hc;go_wp2
    go_roundw
    case rel=>exact⟨k+1,j,_,_,_,ds,by omega,by omega,by go_num,rfl,rfl,HA.out,HS.out,HN2.out,hdl⟩
    case measure=>simp[RowKit.intOf];omega
  ·obtain rfl:k=s.size:=by omega
   have hkk:¬((s.size:Int)<(s.size:Int)):=by omega
   have HS2:=hid (show zah c s=ds++ [s.extract j s.size] by rw[HS.out,zik HN.out])
   go_wp2_with (at_builtin;refine zeC rfl _ _ 24 rfl 9 _ 1 16 underlying24 zly rfl (by decide) (by decide) HA.out lr rfl [.string (s.extract j s.size)] rfl rfl (fun u hu=>by simp at hu;subst hu;rfl) (by omega) ?_;intro A2 d2 w9 hacc2;have HA2:=hid hacc2;clear hacc2)
   go_ret;refine⟨_,_,_,rfl,?_,HA2.out.below lr lr⟩;rw[HS2.out,zk5];exact HA2.out.sl lr lr
end
section
open Go.RowKit Go.Proofs.Tryz
theorem zp2 (A A':Option Addr) (m c m' c' B:Nat) (st:Int) (l:List Int) (w:World) (h:zad w B 1 A m (ints l)) (h':zad w B 1 A' m' (ints l)) (hB:B <= w.heap.size) (hm:m <= 1048576) :
  Calls prog 122 #[.agg #[.slice A m c,.int .i64 st],.agg #[.slice A' m' c',.int .i64 st]] w fun e w'=>e= .returned (.bool true)/\Below w.heap.size w w':=by
 obtain rfl:m=m':=by have:=zai h;have:=zai h';omega
 have hb:Below w.heap.size w ((w.alloc (.cells #[.slice A m c,.int .i64 st] 123)).alloc (.cells #[.slice A' m c',.int .i64 st] 123)):=(bal _).alloc (by simp) _;have HR:=hid (h.on hB hb);have HR':=hid (h'.on hB hb);have HB:=hid hb;have HT:=hid (zku zkt l);clear h h' hb;go_enter func122,ntmps122
 go_wp2_with fail
 refine(zhr A m c l A' m c' l B _ HR.out HR'.out hm hm).mono ?_;rintro e w1 ⟨rfl,q,rfl⟩;rw[HT.out];go_wp2;go_ret;exact⟨rfl,zan HB.out _⟩
theorem zoi (A A':Option Addr) (n c c' B:Nat) (rs:List Rn) (w:World) (h:zaC w B A n rs) (h':zaC w B A' n rs) (hn:n <= 1048576) (hB:B <= w.heap.size) (hsm:zbM rs) :
  Calls prog 54 #[.slice A n c,.slice A' n c'] w fun e w'=>e= .returned (.bool true)/\Below w.heap.size w w':=by
 have HSM:=hid hsm;clear hsm;go_enter func54,ntmps54;go_wp2
 go_loopw [5] (fun i wr=>∃k:Nat,k<=n/\i= .int .i64 k/\Below w.heap.size w wr) (fun i _=>n-(RowKit.intOf i).toNat)
 case atStart=>exact⟨0,Nat.zero_le _,rfl,Below.refl _ _⟩
 case round=>
  obtain⟨k,hk,rfl,hbel⟩:=hrel;by_cases hlt:k<n
  ·obtain⟨x,b,off,P,m,d,he,rfl,hb,c0,c1,hr,hm⟩:=zcn (h.on hB hbel) hlt;obtain⟨x',b',off',P',m',d',he',rfl,hb',d0,d1,hr',hm'⟩:=zcn (h'.on hB hbel) hlt;obtain rfl:x=x':=by rw[he] at he';injection he'
   have hm2:m<=1048576:=by have:=HSM.out k x he;have:=zai hr;omega
   have HB:=hid hbel;have HBw:=hid (Nat.le_trans hB hbel.size)
   have HC:=hid (show∀W,Below wr.heap.size wr W->Calls prog 122 #[.agg #[.slice P m d,.int .i64 x.st],.agg #[.slice P' m' d',.int .i64 x.st]] W fun e w'=>e= .returned (.bool true)/\Below W.heap.size W w' from fun W hW=>
    zp2 P P' m d m' d' B x.st x.way W (hr.on HBw.out hW) (hr'.on HBw.out hW) (Nat.le_trans HBw.out hW.size) hm2)
   have hlt':(k:Int)<n:=by omega
   have hk0:(0:Int)<=k:=by omega
   clear he he' hbel h h' hr hr'
   go_wp2_with fail
   go_region_held3 (fun W=>Below wr.heap.size wr W/\W.cell? ⟨b,off+k*2,none⟩=some (.slice P m d)/\W.cell? ⟨b,off+k*2+1,none⟩=some (.int .i64 x.st)/\W.cell? ⟨b',off'+k*2,none⟩=some (.slice P' m' d')/\W.cell? ⟨b',off'+k*2+1,none⟩=some (.int .i64 x.st)) (first|exact⟨(Below.refl _ _).drew,c0,c1,d0,d1⟩|(go_split_ands;exact⟨zac (by assumption) hb1 lr,zaa hb1 (by assumption),zaa hb1 (by assumption),zaa hb1 (by assumption),zaa hb1 (by assumption)⟩)) (first|(go_at_call 122;refine(HC.out _ (by go_split_ands;assumption)).mono ?_;rintro e w1 ⟨rfl,hb1⟩))
   rename_i hS;have HS:=hid (zac HB.out hS.1 lr);clear hS hb1 c0 c1 d0 d1;go_wp2
   go_roundw
   case rel=>exact⟨k+1,by omega,by go_num,HS.out⟩
   case measure=>simp[RowKit.intOf];omega
  ·obtain rfl:k=n:=by omega
   go_wp2;go_ret;exact⟨rfl,hbel⟩
end
section
open Go.RowKit Go.Lib Go.Proofs.Tryz
theorem ziz(c:UInt8):zaY c=inR (c.toNat:Int) 48 57:=by
 rw[Bool.eq_iff_iff,zdp,zam];omega
theorem zme(s:ByteArray)(k:Nat)(h:k<s.size):valD (s.data.toList.take (k+1))=valD (s.data.toList.take k)*10+(s[k].toNat-48)/\(s.data.toList.take (k+1)).all zaY=((s.data.toList.take k).all zaY&&zaY s[k]):=by
 have e:s.data.toList.take (k+1)=s.data.toList.take k++ [s[k]]:=by
  rw[List.take_succ_eq_append_getElem (by simpa using h)];rfl
 rw[e,zmd];exact⟨rfl,by simp⟩
theorem zbX (s:ByteArray) (w:World) (hs:s.size <= 281474976710656) :
  Calls prog 170 #[.string s] w fun e w'=>e= .returned (.tuple #[.int .i64 (zak s.data.toList).1,.bool (zak s.data.toList).2])/\Below w.heap.size w w':=by
 rcases hneg:negS s.data.toList with _|_
 ·have hbare:=hid (show s.data.toList=bare s.data.toList by
   cases hl:s.data.toList with
   |nil=>rfl
   |cons c r=>rw[hl] at hneg;simp[negS] at hneg;simp[bare,hneg])
  have hsl:s.data.toList.length=s.size:=by rw[Array.length_toList];rfl
  by_cases h1:s.size<1
  ·have hnil:s.data.toList=[]:=List.eq_nil_of_length_eq_zero (by omega);have HO:=hid (zbd (ziE (s:=s.data.toList) (by rw[hnil];rfl)));have he:s.toList=[]:=by rw[Go.ByteArray.toList_eq];exact hnil
   have h1i:(s.size:Int)<1:=by omega
   clear hneg hnil;go_enter func170,ntmps170;go_wp2;go_ret2;rw[HO.out];exact⟨rfl,Below.refl _ _⟩
  ·have h1i:decide ((s.size:Int)<1)=false:=decide_eq_false (by omega);have hpos:0<s.size:=by omega
   have hpi:(0:Int)<(s.size:Int):=by omega
   have hne:s.toList.isEmpty=false:=by
    rw[Go.ByteArray.toList_eq]
    cases hl:s.data.toList with
    |nil=>rw[hl] at hsl;simp at hsl;omega
    |cons c r=>rfl
   have hne2:(!s.toList.isEmpty)=true:=by rw[hne];rfl
   have h45:((s[0].toNat:Int)==45)=false:=by
    have hb:=zcK s 0 hpos
    cases hl:s.data.toList with
    |nil=>rw[hl] at hsl;simp at hsl;omega
    |cons c r=>
     rw[hl] at hneg hb;simp[negS] at hneg;simp at hb;rw[<-hb,beq_eq_false_iff_ne];intro e;exact hneg (by rw[<-UInt8.toNat_inj];show c.toNat=45;omega)
   by_cases h18:18<s.size
   ·have HO:=hid (zbd (zfv (s:=s.data.toList) (by rw[<-hbare.out];omega)));have h18i:(18:Int)<(s.size:Int):=by omega
    clear hneg;go_enter func170,ntmps170;go_wp2;go_ret2;rw[HO.out];exact⟨rfl,Below.refl _ _⟩
   ·have h18i:decide ((18:Int)<(s.size:Int))=false:=decide_eq_false (by omega);have htl:=hid (show s.data.toList.length<=18 by omega);have HN:=hid hneg;clear hneg hsl;go_enter func170,ntmps170;go_wp2
    go_loop [5,6] (fun n i=>∃k:Nat,k<=s.size/\i= .int .i64 k/\n= .int .i64 (valD (s.data.toList.take k):Int)/\(s.data.toList.take k).all zaY=true) (fun _ i=>s.size-(RowKit.intOf i).toNat)
    case atStart=>exact⟨0,Nat.zero_le _,rfl,rfl,rfl⟩
    case round=>
     obtain⟨k,hk,rfl,rfl,hall⟩:=hrel;have hvb:=zdB hall (by rw[List.length_take];have:=htl.out;omega);have HA:=hid hall;clear hall;by_cases hlt:k<s.size
     ·obtain⟨st1,st2⟩:=zme s k hlt;rcases hd:zaY s[k] with _|_
      ·have HO:=hid (zbd (zhF (s:=s.data.toList) (by
        rw[<-hbare.out];exact zcd (zcK s k hlt) hd)))
       have hin:inR (s[k].toNat:Int) 48 57=false:=by rw[<-ziz];exact hd
       clear st1 st2 hd
       go_wp2_with fail
       refine(zcl _ _).mono ?_;rintro e w2 ⟨rfl,rfl⟩;go_wp2;go_ret2;rw[HO.out];exact⟨rfl,Below.refl _ _⟩
      ·have hdr:=zdp.1 hd;have hin:inR (s[k].toNat:Int) 48 57=true:=by rw[<-ziz];exact hd
       have HS1:=hid st1;have HS2:=hid (show(s.data.toList.take (k+1)).all zaY=true by rw[st2,HA.out,hd];rfl);obtain⟨v,hv⟩:∃v,valD (s.data.toList.take k)=v:=⟨_,rfl⟩
       obtain⟨cn,hcn⟩:∃cn,s[k].toNat=cn:=⟨_,rfl⟩
       rw[hv] at hvb HS1⊢;rw[hcn] at hdr hin HS1;have hnx:=zdB HS2.out (by rw[List.length_take];have:=htl.out;omega);rw[HS1.out] at hnx;have hv17:(v:Int)<100000000000000000:=by omega
       clear st1 st2 hd hv
       go_wp2_with fail
       refine(zcl _ _).mono ?_;rintro e w2 ⟨rfl,rfl⟩;go_wp2;refine⟨⟨k+1,by omega,by simp,?_,HS2.out⟩,by simp[RowKit.intOf];omega⟩;rw[HS1.out];refine congrArg (Value.int .i64) ?_;omega
     ·obtain rfl:k=s.size:=by omega
      have htk:s.data.toList.take s.size=s.data.toList:=List.take_of_length_le (by rw[Array.length_toList];exact Nat.le_refl _);have HA2:=hid (show(bare s.data.toList).all zaY=true by rw[<-hbare.out,<-htk];exact HA.out);have HV:=hid (show valD (s.data.toList.take s.size)=valD (bare s.data.toList) by rw[htk];exact congrArg valD hbare.out);rw[HV.out] at hvb⊢;obtain⟨v,hv⟩:∃v,valD (bare s.data.toList)=v:=⟨_,rfl⟩
      have HN2:=hid (show numS s.data.toList=(valD (bare s.data.toList):Int) by unfold numS;rw[HN.out];simp);rw[hv] at hvb HN2⊢;have hkk:¬((s.size:Int)<(s.size:Int)):=by omega
      have HD:=hid (show zav s.data.toList=true↔itoa (v:Int)=s.data.toList by
       rw[zck,HN2.out];refine⟨fun h=>h.2.2.2,fun h=>⟨fun e=>?_,by rw[<-hbare.out];exact htl.out,HA2.out,h⟩⟩;have:=hbare.out;rw[e] at this;have h3:s.data.toList.length=s.size:=by rw[Array.length_toList];rfl
       rw[this] at h3;simp at h3;omega)
      clear hv htk;rcases hq:((zab (itoa (v:Int))).toList==s.toList) with _|_
      ·have HO:=hid (zbd (s:=s.data.toList) (by
        rw[<-Bool.not_eq_true];intro h;have h2:=HD.out.1 h;rw[Go.ByteArray.toList_eq,Go.ByteArray.toList_eq,zaf,h2] at hq;simp at hq))
       go_wp2_with fail
       refine(zbj (v:Int) _ (by omega) (by omega)).mono ?_;rintro e w2 ⟨rfl,b2⟩;have B2:=hid b2;clear b2;go_wp2;go_ret2;rw[HO.out];exact⟨rfl,B2.out⟩
      ·have HO:=hid (show zak s.data.toList=((v:Int),true) by
        have h2:itoa (v:Int)=s.data.toList:=by
         rw[Go.ByteArray.toList_eq,Go.ByteArray.toList_eq,zaf] at hq;simpa using hq
        rw[zbi (HD.out.2 h2),HN2.out])
       go_wp2_with fail
       refine(zbj (v:Int) _ (by omega) (by omega)).mono ?_;rintro e w2 ⟨rfl,b2⟩;have B2:=hid b2;clear b2;go_wp2;go_ret2;rw[HO.out];exact⟨rfl,B2.out⟩
 ·have hsl:s.data.toList.length=s.size:=by rw[Array.length_toList];rfl
  obtain⟨r,hr⟩:∃r,s.data.toList=45::r:=by
   cases hl:s.data.toList with
   |nil=>rw[hl] at hneg;simp[negS] at hneg
   |cons c r=>rw[hl] at hneg;simp[negS] at hneg;exact⟨r,by rw[hneg]⟩
  have hpos:0<s.size:=by rw[<-hsl,hr];simp
  obtain⟨t,ht⟩:∃t,s.extract 1 s.size=t:=⟨_,rfl⟩
  have htd:t.data.toList=bare s.data.toList:=by
   rw[<-ht,extract_to_end,hr];simp[bare]
  have hts:t.size+1=s.size:=by
   have e1:t.data.toList.length=t.size:=by rw[Array.length_toList];rfl
   have e2:t.data.toList=r:=by rw[htd,hr];simp[bare]
   rw[<-e1,e2,<-hsl,hr];simp
  have hbare:=hid htd;have HT:=hid ht
  have h45:((s[0].toNat:Int)==45)=true:=by
   have hb:=zcK s 0 hpos;rw[hr] at hb;simp at hb;rw[<-hb]
   rfl
  have hne2:(!s.toList.isEmpty)=true:=by
   rw[Go.ByteArray.toList_eq,hr]
   rfl
  have hsli:(1:Int)<=(s.size:Int):=by omega
  have HN:=hid hneg;clear ht htd hneg hr;by_cases h1:t.size<1
  ·have hnil:t.data.toList=[]:=List.eq_nil_of_length_eq_zero (by rw[Array.length_toList];exact Nat.lt_one_iff.1 h1);have HO:=hid (zbd (ziE (s:=s.data.toList) (by rw[<-hbare.out];exact hnil)));clear hnil;go_enter func170,ntmps170;go_wp2;rw[HT.out];go_wp2;go_ret2;rw[HO.out];exact⟨rfl,Below.refl _ _⟩
  ·have h1i:decide ((t.size:Int)<1)=false:=decide_eq_false (by omega);have htsz:t.data.toList.length=t.size:=by rw[Array.length_toList];rfl
   by_cases h18:18<t.size
   ·have HO:=hid (zbd (zfv (s:=s.data.toList) (by rw[<-hbare.out];omega)));go_enter func170,ntmps170;go_wp2;rw[HT.out];go_wp2;go_ret2;rw[HO.out];exact⟨rfl,Below.refl _ _⟩
   ·have h18i:decide ((18:Int)<(t.size:Int))=false:=decide_eq_false (by omega);have htl:=hid (show t.data.toList.length<=18 by omega);have hlq:(t.size:Int)<(s.size:Int):=by omega
    clear htsz;go_enter func170,ntmps170;go_wp2;rw[HT.out];go_wp2
    go_loop [5,6] (fun n i=>∃k:Nat,k<=t.size/\i= .int .i64 k/\n= .int .i64 (valD (t.data.toList.take k):Int)/\(t.data.toList.take k).all zaY=true) (fun _ i=>t.size-(RowKit.intOf i).toNat)
    case atStart=>exact⟨0,Nat.zero_le _,rfl,rfl,rfl⟩
    case round=>
     obtain⟨k,hk,rfl,rfl,hall⟩:=hrel;have hvb:=zdB hall (by rw[List.length_take];have:=htl.out;omega);have HA:=hid hall;clear hall;by_cases hlt:k<t.size
     ·obtain⟨st1,st2⟩:=zme t k hlt;rcases hd:zaY t[k] with _|_
      ·have HO:=hid (zbd (zhF (s:=s.data.toList) (by
        rw[<-hbare.out];exact zcd (zcK t k hlt) hd)))
       have hin:inR (t[k].toNat:Int) 48 57=false:=by rw[<-ziz];exact hd
       clear st1 st2 hd
       go_wp2_with fail
       refine(zcl _ _).mono ?_;rintro e w2 ⟨rfl,rfl⟩;go_wp2;go_ret2;rw[HO.out];exact⟨rfl,Below.refl _ _⟩
      ·have hdr:=zdp.1 hd;have hin:inR (t[k].toNat:Int) 48 57=true:=by rw[<-ziz];exact hd
       have HS1:=hid st1;have HS2:=hid (show(t.data.toList.take (k+1)).all zaY=true by rw[st2,HA.out,hd];rfl);obtain⟨v,hv⟩:∃v,valD (t.data.toList.take k)=v:=⟨_,rfl⟩
       obtain⟨cn,hcn⟩:∃cn,t[k].toNat=cn:=⟨_,rfl⟩
       rw[hv] at hvb HS1⊢;rw[hcn] at hdr hin HS1;have hnx:=zdB HS2.out (by rw[List.length_take];have:=htl.out;omega);rw[HS1.out] at hnx;have hv17:(v:Int)<100000000000000000:=by omega
       clear st1 st2 hd hv
       go_wp2_with fail
       refine(zcl _ _).mono ?_;rintro e w2 ⟨rfl,rfl⟩;go_wp2;refine⟨⟨k+1,by omega,by simp,?_,HS2.out⟩,by simp[RowKit.intOf];omega⟩;rw[HS1.out];refine congrArg (Value.int .i64) ?_;omega
     ·obtain rfl:k=t.size:=by omega
      have htk:t.data.toList.take t.size=t.data.toList:=List.take_of_length_le (by rw[Array.length_toList];exact Nat.le_refl _);have HA2:=hid (show(bare s.data.toList).all zaY=true by rw[<-hbare.out,<-htk];exact HA.out);have HV:=hid (show valD (t.data.toList.take t.size)=valD (bare s.data.toList) by rw[htk];exact congrArg valD hbare.out);rw[HV.out] at hvb⊢;obtain⟨v,hv⟩:∃v,valD (bare s.data.toList)=v:=⟨_,rfl⟩
      have HN2:=hid (show numS s.data.toList=-(valD (bare s.data.toList):Int) by unfold numS;rw[HN.out];simp);rw[hv] at hvb HN2⊢;have hkk:¬((t.size:Int)<(t.size:Int)):=by omega
      have HD:=hid (show zav s.data.toList=true↔itoa (-(v:Int))=s.data.toList by
       rw[zck,HN2.out];refine⟨fun h=>h.2.2.2,fun h=>⟨fun e=>?_,by rw[<-hbare.out];exact htl.out,HA2.out,h⟩⟩;have:=hbare.out;rw[e] at this;have h3:t.data.toList.length=t.size:=by rw[Array.length_toList];rfl
       rw[this] at h3;simp at h3;omega)
      clear hv htk;rcases hq:((zab (itoa (-(v:Int)))).toList==s.toList) with _|_
      ·have HO:=hid (zbd (s:=s.data.toList) (by
        rw[<-Bool.not_eq_true];intro h;have h2:=HD.out.1 h;rw[Go.ByteArray.toList_eq,Go.ByteArray.toList_eq,zaf,h2] at hq;simp at hq))
       go_wp2_with fail
       refine(zbj (-(v:Int)) _ (by omega) (by omega)).mono ?_;rintro e w2 ⟨rfl,b2⟩;have B2:=hid b2;clear b2;go_wp2;go_ret2;rw[HO.out];exact⟨rfl,B2.out⟩
      ·have HO:=hid (show zak s.data.toList=((-(v:Int)),true) by
        have h2:itoa (-(v:Int))=s.data.toList:=by
         rw[Go.ByteArray.toList_eq,Go.ByteArray.toList_eq,zaf] at hq;simpa using hq
        rw[zbi (HD.out.2 h2),HN2.out])
       go_wp2_with fail
       refine(zbj (-(v:Int)) _ (by omega) (by omega)).mono ?_;rintro e w2 ⟨rfl,b2⟩;have B2:=hid b2;clear b2;go_wp2;go_ret2;rw[HO.out];exact⟨rfl,B2.out⟩
def TabP(w:World):Prop:=Lib.TabIs prog w "internal/strconv.uint64pow10" .u64 Lib.pow10Tab
theorem zaw{w w':World}(h:TabP w)(hb:Below w.heap.size w w'):TabP w':=by
 unfold TabP Lib.TabIs World.var? at h⊢
 cases hg:prog.globalNamed "internal/strconv.uint64pow10" with
 |none=>rw[hg] at h;cases h
 |some g=>
  rw[hg] at h;simp only[Option.bind_some] at h⊢
  have hlt:g<w.heap.size:=by
   rcases Nat.lt_or_ge g w.heap.size with h'|h'
   ·exact h'
   ·rw[Array.getElem?_eq_none h'] at h;cases h
  rw[hb.block g hlt];exact h
theorem zpt(w:World)(k:Nat)(os:Array Obj):Below w.heap.size w (Sort.grow (w.drewN k) os):=
 ⟨rfl,rfl,rfl,by simp,fun q hq=>Sort.heap_grow_old (w.drewN k) os hq⟩
theorem zaL (n:Int) (w:World) (h0:-9223372036854775808 <= n) (h1:n <= 9223372036854775807) (ht:TabP w) :
  Calls prog 38 #[.int .i64 n] w fun e w'=>e= .returned (.string (zab (itoa n)))/\Below w.heap.size w w':=by
 go_enter func38,ntmps38
 go_wp2_with fail
 refine(Tryz.strconv_FormatInt_10 n h0 h1 _ ht).mono ?_;rintro e w1 ⟨rfl,k,os,rfl⟩;have hb:=hid (zpt w k os);obtain⟨w1,hw1⟩:∃y,Sort.grow (w.drewN k) os=y:=⟨_,rfl⟩
 rw[hw1] at hb⊢;clear hw1;go_wp2;go_ret;exact⟨rfl,hb.out⟩
end
section
open Go.RowKit
end
section
open Go.RowKit Go.Lib Go.Proofs.Tryz
theorem Sl.full (w:World) (l:List ByteArray) (t:TypeId) (h:l.length <= 1048577) :
  Sl (w.alloc (.cells (strs l).toArray t)) w.heap.size (w.alloc (.cells (strs l).toArray t)).heap.size t 1 (some ⟨w.heap.size,0,none⟩) l.length l.length (strs l):=by
 have hl:(strs l).length=l.length:=by simp[strs]
 refine⟨⟨by rw[hl,Nat.mul_one],.inr ⟨w.heap.size,l.length,(strs l).toArray,rfl,Nat.le_refl _,heap_alloc_new w _,Nat.le_refl _,?_,by simp[hl],?_⟩⟩,fun b hb=>?_⟩
 ·exact Nat.le_trans h (by decide)
 ·simp;exact List.take_of_length_le (by rw[hl];exact Nat.le_refl _)
 ·injection hb with hb;subst hb;simp
theorem zcE (s:ByteArray) (c:UInt8) (m:Int) (w:World) (hs:s.size <= 1048576) (hm:w.cell? ⟨1,0,none⟩ = some (.int .i64 m)) :
  Calls prog 27 #[.string s,.string ⟨#[c]⟩] w fun e w'=>∃A n d,e= .returned (.slice A n d)/\Sl w' w.heap.size w'.heap.size 9 1 A n d (strs (zah c s))/\Below w.heap.size w w':=by
 have hlen:(zah c s).length=s.data.toList.count c+1:=zc2 c s;have hcnt:s.data.toList.count c<=s.size:=by rw[<-za8 s];exact List.count_le_length
 refine(Tryz.strings_Split s ⟨#[c]⟩ m w (by omega) hm (Nat.le_refl 1)).mono ?_;rintro e w' ⟨rfl,rfl⟩;rw[zqe,zjE,<-hlen];exact⟨_,_,_,rfl,Sl.full w _ _ (by omega),bal _⟩
theorem zoN{c:UInt8}{a r:List UInt8}(h:c∉a):Lib.cut (a++c::r) [c]=(a,r,true):=by
 rcases zcU c (a++c::r) with ⟨_,hn⟩|⟨a2,r2,he,hn2,hi⟩
 ·exact absurd (by simp) hn
 ·have hs1:=zba (r:=r) h;have hs2:=zba (r:=r2) hn2;rw[he,hs2] at hs1;injection hs1 with h1 h2;subst h1
  have h3:r2=r:=by
   have:=List.append_cancel_left he;injection this with _ h4;exact h4.symm
  subst h3;simp[Lib.cut,hi]
theorem zmM{c:UInt8}{l:List UInt8}(h:c∉l):Lib.cut l [c]=(l,[],false):=by
 rcases zcU c l with ⟨hi,_⟩|⟨a2,r2,he,_,_⟩
 ·simp[Lib.cut,hi]
 ·exact absurd (by rw[he];simp) h
theorem zqg (s a:ByteArray) (c:UInt8) (r:List UInt8) (m:Int) (w:World) (hs:s.size <= 1048576) (hm:w.cell? ⟨1,0,none⟩ = some (.int .i64 m)) (he:s.data.toList = a.data.toList ++ c :: r) (hn:c ∉ a.data.toList) :
  Calls prog 66 #[.string s,.string ⟨#[c]⟩] w fun e w'=>e= .returned (.tuple #[.string a,.string (zab r),.bool true])/\Below w.heap.size w w':=by
 refine(Tryz.strings_Cut s ⟨#[c]⟩ m w (by omega) hm).mono ?_;rintro e w' ⟨rfl,n,rfl⟩;rw[he,show(⟨#[c]⟩:ByteArray).data.toList=[c] from rfl,zoN hn];exact⟨rfl,zan (Below.refl _ _) n⟩
theorem zoI (s:ByteArray) (c:UInt8) (m:Int) (w:World) (hs:s.size <= 1048576) (hm:w.cell? ⟨1,0,none⟩ = some (.int .i64 m)) (hn:c ∉ s.data.toList) :
  Calls prog 66 #[.string s,.string ⟨#[c]⟩] w fun e w'=>e= .returned (.tuple #[.string s,.string ⟨#[]⟩,.bool false])/\Below w.heap.size w w':=by
 refine(Tryz.strings_Cut s ⟨#[c]⟩ m w (by omega) hm).mono ?_;rintro e w' ⟨rfl,n,rfl⟩;rw[show(⟨#[c]⟩:ByteArray).data.toList=[c] from rfl,zmM hn];exact⟨rfl,zan (Below.refl _ _) n⟩
end
section
open Go.RowKit Go.ChangeShapes Go.WideShapes Go.Deep Go.Proofs.Tryz
structure Nt where
 sta:Int
 tubes:List Tb
theorem zcW(w:World)(a b:Array Value)(ta tb:TypeId):∃W,W=(w.alloc (.cells a ta)).alloc (.cells b tb)/\W.heap.size=w.heap.size+1+1/\Blk W w.heap.size ta a/\Blk W (w.heap.size+1) tb b/\Below w.heap.size w W:=by
 refine⟨_,rfl,by simp,(Blk.new _ _ _).alloc _,?_,(bal _).alloc (by simp) _⟩;have:=Blk.new (w.alloc (.cells a ta)) tb b;rwa[zfF] at this
theorem zr6 (A:Option Addr) (n c:Nat) (st q:Int) (w:World) (hq0:0 <= q) (hq:q <= 1048576) (hn:n <= 9223372036854775807) :
  Calls prog 45 #[.agg #[.int .i64 st,.slice A n c],.int .i64 q] w fun e w'=>∃r:Int,e= .returned (.int .i64 r)/\Below w.heap.size w w'/\(r<0\/(0<=r/\r<=q/\(n:Int)<=q)):=by
 go_enter func45,ntmps45
 go_wp2_with fail
 refine(zoJ A n c q _ hq0 hq hn).mono ?_;rintro e w1 ⟨rfl,r,rfl,hr⟩;rcases hr with hr|⟨h0,h1,h2⟩
 ·go_wp2;go_ret;exact⟨_,rfl,bal _,.inl (by omega)⟩
 ·go_wp2;go_ret;exact⟨_,rfl,bal _,.inr ⟨h0,h1,h2⟩⟩
theorem zmb (A:Option Addr) (n c B:Nat) (x:Nt) (w:World) (h:zad w B 3 A n (tbs x.tubes)) (hB:B <= w.heap.size) (hn:n <= 1048576) :
  Calls prog 49 #[.agg #[.int .i64 x.sta,.slice A n c]] w fun e w'=>∃g,e= .returned (.agg #[.int .i64 x.sta,.slice (some ⟨g,0,none⟩) n n])/\Sl w' w.heap.size w'.heap.size 101 3 (some ⟨g,0,none⟩) n n (tbs x.tubes)/\Below w.heap.size w w':=by
 obtain⟨V,hV,hs,k0,k1,k2,hb⟩:=zdf w #[.int .i64 x.sta,.slice A n c] #[.int .i64 0,.slice none 0 0] #[.int .i64 x.sta,.slice none 0 0] 43 28 28;have HV:=hid hV;have HS:=hid hs;have HK1:=hid k1;have HK2:=hid k2;have HB:=hid hb;clear hV hs k0 k1 k2 hb;go_enter func49,ntmps49
 go_wp2_with fail
 rw[<-HV.out];refine(zoK A n c B x.tubes V (h.on hB HB.out) (by have:=HS.out;omega) hn).mono ?_;rintro e w1 ⟨g,rfl,s1,b1⟩;have a1:=(HK2.out.on b1).cellAt 0 (by simp);have f1:=(HK2.out.on b1).frozen 0;have a2:=(HK2.out.on b1).cellAt 1 (by simp);have f2:=(HK2.out.on b1).frozen 1;have a3:=(HK1.out.on b1).cellAt 0 (by simp);have f3:=(HK1.out.on b1).frozen 0;have a4:=(HK1.out.on b1).cellAt 1 (by simp);have f4:=(HK1.out.on b1).frozen 1;have S1:=hid s1;have HB1:=hid b1;clear s1 b1;simp only[ly] at a1 a2 a3 a4;go_wp2
 obtain⟨WF,hWF⟩:∃WF,WF=((w1.setCell ⟨w.heap.size+1+1,1,none⟩ (.slice (some ⟨g,0,none⟩) n n)).setCell ⟨w.heap.size+1,0,none⟩ (.int .i64 x.sta)).setCell ⟨w.heap.size+1,1,none⟩ (.slice (some ⟨g,0,none⟩) n n):=⟨_,rfl⟩
 have KF:Blk WF (w.heap.size+1) 28 #[.int .i64 x.sta,.slice (some ⟨g,0,none⟩) n n]:=by
  rw[hWF];exact((((HK1.out.on HB1.out).far (p:=⟨w.heap.size+1+1,1,none⟩) (by simp) _).set_ 0 _).set_ 1 _)
 have hO:Only w.heap.size V.heap.size w1 WF:=by
  rw[hWF];have:=HS.out;exact(((Only.refl _ _ _).setCell (by simp;omega) (by simp;omega) _).setCell (by simp) (by simp;omega) _).setCell (by simp) (by simp;omega) _
 rw[<-hWF];have r0:=KF.cellAt 0 (by simp);have r1:=KF.cellAt 1 (by simp);simp only[ly] at r0 r1;clear hWF a1 a2 a3 a4 f1 f2 f3 f4;refine bodyPost_ret (v:=.agg #[.int .i64 x.sta,.slice (some ⟨g,0,none⟩) n n]) (by simp[results,results49,go_sem,r0,r1]) rfl ?_;exact⟨g,rfl,(S1.out.apart hO (.inr lr)).wide (by have:=HS.out;omega) hO.size,zbN (zac HB.out HB1.out lr) hO lr lr⟩
theorem zp1 (A A':Option Addr) (n c c' B:Nat) (x:Nt) (w:World) (h:zad w B 3 A n (tbs x.tubes)) (h':zad w B 3 A' n (tbs x.tubes)) (hB:B <= w.heap.size) (hn:n <= 1048576) :
  Calls prog 52 #[.agg #[.int .i64 x.sta,.slice A n c],.agg #[.int .i64 x.sta,.slice A' n c']] w fun e w'=>e= .returned (.bool true)/\Below w.heap.size w w':=by
 obtain⟨W,hW,hs,k0,k1,hb⟩:=zcW w #[.int .i64 x.sta,.slice A n c] #[.int .i64 x.sta,.slice A' n c'] 28 28;have HW:=hid hW;have HR:=hid (h.on hB hb);have HR':=hid (h'.on hB hb);have HB:=hid hb;have HS:=hid hs;clear h h' hb hW hs k0 k1;go_enter func52,ntmps52
 go_wp2_with fail
 rw[<-HW.out];refine(zmP A A' n c c' B x.tubes W HR.out HR'.out hn (by have:=HS.out;omega)).mono ?_;rintro e w1 ⟨rfl,b1⟩;go_wp2;go_ret;exact⟨rfl,zac HB.out b1 lr⟩
end
section
open Go.RowKit Go.Lib Go.Proofs.Tryz
theorem zbH {P:Program} {ops:Array Oper} {o:Oper} {a:Act} {Q:Exit -> Act -> World -> Prop} {K:Act -> World -> Prop} {E:Prop} (hgd:o.guard = none) (s x:Operand) (t:TypeId)
  (ho:o.op= .call {callee:=.builtin .append,args:=#[s,x],argTypes:=#[t,t]})
  (e:TypeId) (zv:Value) (size bytes:Nat) (ht:P.underlying t=some (.slice e)) (hinfo:(P.info? e).map (fun i=>(i.zero,i.size,i.bytes))=some (some zv,size,bytes)) (hzs:zv.cells.size=size) (hsz:0<size) (hb:bytes<=1000)
  {lo hi:Nat}{wr:World}{A:Option Addr}{m c:Nat}{xs:List Value} (h:Sl wr lo hi e size A m c xs) (hlo:lo<=wr.heap.size) (hs:a.eval s= .slice A m c)
  (news:List Value) (hd:Nat) (hhd:hd=wr.heap.size) (hx:a.eval x= .slice (some ⟨hd,0,none⟩) 1 1) (hl:news.length=size) (h1:∀u∈news,u.oneCell'=true) (hm:m<100000000)
  (HK:∀A' c' w1,Sl w1 lo w1.heap.size e size A' (m+1) c' (xs++news)->Below lo wr w1->(∀g,g<wr.heap.size->(∀ad,A=some ad->ad.block≠g)->w1.heap[g]?=wr.heap[g]?)->(∀g,g<wr.heap.size->(∀ad,A=some ad->ad.block≠g)->∀ad,A'=some ad->ad.block≠g)->K (a.put o.dst (.slice A' (m+1) c')) w1):
  if Region.wanted o (yielded ops a.tmps)=true then Oper.wp P o a (wr.alloc (.cells news.toArray e)) K Q else E:=by
 have hw:Region.wanted o (yielded ops a.tmps)=true:=by simp[Region.wanted,hgd]
 rw[if_pos hw];exact zps s x t ho e zv size bytes ht hinfo hzs hsz hb h hlo hs news hd hhd hx hl h1 hm fun A' c' w1 k1 k2 _ k4 k5=>HK A' c' w1 k1 k2 k4 k5
theorem Sl.boxNe{w:World}{lo hi:Nat}{t:TypeId}{size:Nat}{A:Option Addr}{n c:Nat}{xs:List Value}(h:Sl w lo hi t size A n c xs){p:Addr}(hne:∀ad,A=some ad->ad.block≠p.block)(u:Value):Sl (w.setCell p u) lo hi t size A n c xs:=by
 refine⟨⟨h.1.1,?_⟩,h.2⟩;rcases h.1.2 with hn|⟨g,cap,cur,h',hb,hg,rest⟩
 ·exact .inl hn
 ·refine .inr ⟨g,cap,cur,h',hb,?_,rest⟩;injection h' with h1;rw[Below.heap_setCell w p u g (hne _ h1)];exact hg
theorem ze4(c:UInt8):∀l:List (List UInt8),Lib.join l [c]=zaF c l
 | []=>rfl
 | [x]=>by rw[join_one];rfl
 |x::y::r=>by
  rw[join_cons,zaF,<-ze4 c (y::r),join_cons];simp[joinTail]
theorem zgj(c:UInt8)(m:Nat):∀l:List (List UInt8),(∀x∈l,x.length<=m)->(zaF c l).length<=l.length*(m+1)
 | [],_=>by simp[zaF]
 | [x],h=>by have:=h x (by simp);simp[zaF];omega
 |x::y::r,h=>by
  have h1:=h x (by simp);have ih:=zgj c m (y::r) (fun z hz=>h z (List.mem_cons_of_mem _ hz));simp only[zaF,List.length_append,List.length_cons,Nat.add_mul] at ih⊢;omega
theorem ziS (c:UInt8) (A:Option Addr) (n d lo hi:Nat) (xs:List ByteArray) (w:World) (h:Sl w lo hi 9 1 A n d (strs xs)) (hn:n <= 1048577) (hl:(zaF c (xs.map fun s=>s.data.toList)).length <= 140737488355328) :
  Calls prog 80 #[.slice A n d,.string ⟨#[c]⟩] w fun e w'=>e= .returned (.string (zab (zaF c (xs.map fun s=>s.data.toList))))/\Below w.heap.size w w':=by
 have hx:xs.length=n:=by have:=h.len;simpa[strs] using this
 by_cases h0:n=0
 ·subst h0;obtain rfl:xs=[]:=List.length_eq_zero_iff.1 hx;refine(Tryz.strings_Join_none A d ⟨#[c]⟩ w).mono ?_;rintro e w' ⟨rfl,rfl⟩;exact⟨rfl,Below.refl _ _⟩
 ·rcases h.form with ⟨_,h1,_⟩|⟨g,cur,rfl,_,_,hb,hnd,_,ht⟩
  ·exact absurd h1 h0
  ·subst hx
   have hcell:∀(j:Nat) x,xs[j]?=some x->w.cell? ⟨g,0+j,none⟩=some (.string x):=fun j x hj=>by
    rw[Nat.zero_add,h.cellAt j (by have:=(List.getElem?_eq_some_iff.1 hj).1;omega)];simp[strs,hj]
   refine(Tryz.strings_Join g 0 d xs ⟨#[c]⟩ w hcell hb.lt (by omega) hnd (by rw[show(⟨#[c]⟩:ByteArray).data.toList=[c] from rfl,ze4];exact hl)).mono ?_;rintro e w' ⟨rfl,b⟩;exact⟨by rw[show(⟨#[c]⟩:ByteArray).data.toList=[c] from rfl,ze4];rfl,b⟩
def SynP(w:World):Prop:=∃(tp:TypeId) (p:Value),w.var? prog "strconv.ErrSyntax" =some #[.iface tp p]
theorem ztX{w w':World}{n:String}{cs:Array Value}(h:w.var? prog n=some cs)(hb:Below w.heap.size w w'):w'.var? prog n=some cs:=by
 unfold World.var? at h⊢
 cases hg:prog.globalNamed n with
 |none=>rw[hg] at h;cases h
 |some g=>
  rw[hg] at h;simp only[Option.bind_some] at h⊢
  have hlt:g<w.heap.size:=by
   rcases Nat.lt_or_ge g w.heap.size with h'|h'
   ·exact h'
   ·rw[Array.getElem?_eq_none h'] at h;cases h
  rw[hb.block g hlt];exact h
theorem zbk{w w':World}(h:SynP w)(hb:Below w.heap.size w w'):SynP w':=by
 obtain⟨tp,p,h⟩:=h;exact⟨tp,p,ztX h hb⟩
theorem zqx(l:List UInt8):Lib.trimPrefix l [45]=bare l:=by
 cases l with
 |nil=>rfl
 |cons c r=>
  by_cases h:c=45
  ·subst h;simp[Lib.trimPrefix,Lib.hasPrefix,bare,List.isPrefixOf]
  ·have h':¬(45=c):=fun e=>h e.symm;simp[Lib.trimPrefix,Lib.hasPrefix,bare,List.isPrefixOf,h,h']
theorem zm0{s:List UInt8}(hl:(bare s).length<=18):parseIntB 64 s≠ .range:=by
 intro h
 have key:∀l:List UInt8,l.length<=18->parseUintB 64 l≠ .range/\∀u,parseUintB 64 l= .ok u->u<1000000000000000000:=by
  intro l h18;unfold parseUintB;by_cases h0:l=[]
  ·rw[if_pos h0];exact⟨by simp,fun u hu=>by simp at hu⟩
  ·rw[if_neg h0,show(2^64-1:Nat)=18446744073709551615 from rfl];rcases hd:l.all zaY with _|_
   ·rw[zfz l 0 0 (by decide) (by omega) hd];exact⟨by simp,fun u hu=>by simp at hu⟩
   ·rw[zdY l 0 0 (by decide) (by omega) hd];refine⟨by simp,fun u hu=>?_⟩;injection hu with hu;have:=zdB hd h18;show u<_;have e:valF 0 l=valD l:=rfl;omega
 cases s with
 |nil=>simp[parseIntB] at h
 |cons c r=>
  by_cases hp:c.toNat=43
  ·have hc:c=43:=by rw[<-UInt8.toNat_inj];exact hp
   subst hc;have hl':r.length<=18:=by simp[bare] at hl;omega
   obtain⟨k1,k2⟩:=key r hl';unfold parseIntB at h;simp only[hp,true_or,if_true] at h;rcases hu:parseUintB 64 r with u|_|_
   ·rw[hu] at h;have:=k2 u hu;simp only at h;rw[if_neg (by show¬(_/\2^63<=u);omega),if_neg (by simp)] at h
    cases h
   ·rw[hu] at h;cases h
   ·exact k1 hu
  ·by_cases hm:c.toNat=45
   ·have hc:c=45:=by rw[<-UInt8.toNat_inj];exact hm
    subst hc;have hl':r.length<=18:=by simpa[bare] using hl
    obtain⟨k1,k2⟩:=key r hl';unfold parseIntB at h;simp only[hm,or_true,if_true] at h;rcases hu:parseUintB 64 r with u|_|_
    ·rw[hu] at h;have:=k2 u hu;simp only at h;rw[if_neg (by simp),if_neg (by show¬(_/\2^63<u);omega)] at h
     cases h
    ·rw[hu] at h;cases h
    ·exact k1 hu
   ·have hc:c≠45:=fun hh=>hm (by rw[hh];rfl);have hl':(c::r).length<=18:=by simpa[bare,hc] using hl
    obtain⟨k1,k2⟩:=key (c::r) hl';unfold parseIntB at h;simp only[hp,hm,or_self,if_false] at h;rcases hu:parseUintB 64 (c::r) with u|_|_
    ·rw[hu] at h;have:=k2 u hu;simp only at h;rw[if_neg (by show¬(_/\2^63<=u);omega),if_neg (by simp)] at h
     cases h
    ·rw[hu] at h;cases h
    ·exact k1 hu
theorem zhi (s:ByteArray) (w:World) :
  Calls prog 77 #[.string s,.string ⟨#[45]⟩] w fun e w'=>e= .returned (.string (zab (bare s.data.toList)))/\w=w':=by
 refine(Tryz.strings_TrimPrefix s ⟨#[45]⟩ w).mono ?_;rintro e w' ⟨rfl,rfl⟩;refine⟨?_,rfl⟩;rw[show(⟨#[45]⟩:ByteArray).data.toList=[45] from rfl,zqx]
 rfl
theorem za7 (s:ByteArray) (w:World) (hs:s.size <= 281474976710656) (ht:TabP w) (hv:SynP w) :
  Calls prog 34 #[.string s] w fun e w'=>e= .returned (.tuple #[.int .i64 (zak s.data.toList).1,.bool (zak s.data.toList).2])/\Below w.heap.size w w':=by
 have HT:=hid ht;have HV:=hid hv;have hsl:=hid (show s.data.toList.length=s.size by rw[Array.length_toList];rfl);clear ht hv;by_cases h19:19<s.size
 ·have hg:decide ((19:Int)<(s.size:Int))=true:=decide_eq_true (by omega);have HO:=hid (zbd (zfv (s:=s.data.toList) (by have:=(zrJ s.data.toList).2;have:=hsl.out;omega)));go_enter func34,ntmps34;go_wp2;go_ret2;rw[HO.out];exact⟨rfl,Below.refl _ _⟩
 ·have hg:decide ((19:Int)<(s.size:Int))=false:=decide_eq_false (by omega);by_cases h18:18<(bare s.data.toList).length
  ·have hg2:decide ((18:Int)<((zab (bare s.data.toList)).size:Int))=true:=decide_eq_true (by rw[zaj];omega);have HO:=hid (zbd (zfv h18));clear h18;go_enter func34,ntmps34
   go_wp2_with (first|(go_at_call 77;refine(zhi _ _).mono ?_;rintro e w2 ⟨rfl,rfl⟩)|fail "t")
   go_ret2;rw[HO.out];exact⟨rfl,Below.refl _ _⟩
  ·have hg2:decide ((18:Int)<((zab (bare s.data.toList)).size:Int))=false:=decide_eq_false (by rw[zaj];omega);have hb18:(bare s.data.toList).length<=18:=by omega
   rcases hp:Lib.parseIntB 64 s.data.toList with v|_|_
   ·have hpo:=hid (zsv hb18 hp);have HP:=hid hp
    have hvb:-9223372036854775808<=v/\v<=9223372036854775807:=by
     have h9:=Lib.parseIntB_bounds hp;have e9:((2^(64-1):Nat):Int)=9223372036854775808:=by decide
     rw[e9] at h9;omega
    rcases hq:((zab (itoa v)).toList==s.toList) with _|_
    ·have HO:=hid (zbd (hpo.out.2 (fun e=>by rw[Go.ByteArray.toList_eq,Go.ByteArray.toList_eq,zaf,e] at hq;simp at hq)));clear hp h18 hb18;go_enter func34,ntmps34
     go_wp2_with (first|(go_at_call 77;refine(zhi _ _).mono ?_;rintro e w2 ⟨rfl,rfl⟩)|fail "t")
     refine(Tryz.strconv_ParseInt_10_at64_ok s (by omega) v HP.out _).mono ?_;rintro e w2 ⟨rfl,hw2⟩
     have b2:Below w.heap.size w w2:=by
      rcases hw2 with rfl|⟨t,rfl⟩
      ·exact Below.refl _ _
      ·exact Lib.bytesWorld_below _ _ _
     have H2:=hid b2;clear hw2 b2
     go_wp2_with fail
     refine(zaL v _ hvb.1 hvb.2 (zaw HT.out H2.out)).mono ?_;rintro e w3 ⟨rfl,b3⟩;have H3:=hid (zac H2.out b3 lr);clear b3;go_wp2;go_ret2;rw[HO.out];exact⟨rfl,H3.out⟩
    ·have he:itoa v=s.data.toList:=by
      rw[Go.ByteArray.toList_eq,Go.ByteArray.toList_eq,zaf] at hq;simpa using hq
     have HO:=hid (show zak s.data.toList=(v,true) by
      obtain⟨h1,h2⟩:=hpo.out.1 he;rw[zbi h1,h2])
     clear hp h18 hb18 he;go_enter func34,ntmps34
     go_wp2_with (first|(go_at_call 77;refine(zhi _ _).mono ?_;rintro e w2 ⟨rfl,rfl⟩)|fail "t")
     refine(Tryz.strconv_ParseInt_10_at64_ok s (by omega) v HP.out _).mono ?_;rintro e w2 ⟨rfl,hw2⟩
     have b2:Below w.heap.size w w2:=by
      rcases hw2 with rfl|⟨t,rfl⟩
      ·exact Below.refl _ _
      ·exact Lib.bytesWorld_below _ _ _
     have H2:=hid b2;clear hw2 b2
     go_wp2_with fail
     refine(zaL v _ hvb.1 hvb.2 (zaw HT.out H2.out)).mono ?_;rintro e w3 ⟨rfl,b3⟩;have H3:=hid (zac H2.out b3 lr);clear b3;go_wp2;go_ret2;rw[HO.out];exact⟨rfl,H3.out⟩
   ·have HO:=hid (zbd (zn2 hb18 hp));have HP:=hid hp;obtain⟨tp,pp,hvar⟩:=HV.out;have HVa:=hid hvar;clear hp h18 hb18 hvar;go_enter func34,ntmps34
    go_wp2_with (first|(go_at_call 77;refine(zhi _ _).mono ?_;rintro e w2 ⟨rfl,rfl⟩)|fail "t")
    refine(Tryz.strconv_ParseInt_10_at64_syntax_var s hs HP.out tp pp _ HVa.out).mono ?_;rintro e w2 ⟨N,rfl,hN,hblk,b2⟩;have H2:=hid b2;clear b2 hblk hN;go_wp2;go_ret2;rw[HO.out];exact⟨rfl,H2.out⟩
   ·exact absurd hp (fun h=>by
     have:=zm0 hb18;exact this h)
end
section
open Go.RowKit Go.ChangeShapes Go.WideShapes Go.Deep Go.Proofs.Tryz
structure Dk where
 net:Nt
 times:List Int
 runs:List Rn
 log:ByteArray
structure DkH where
 A1:Option Addr
 n1:Nat
 c1:Nat
 A2:Option Addr
 n2:Nat
 c2:Nat
 A3:Option Addr
 n3:Nat
 c3:Nat
def dkv(h:DkH)(d:Dk):Value:=.agg #[.int .i64 d.net.sta,.slice h.A1 h.n1 h.c1,.slice h.A2 h.n2 h.c2,.slice h.A3 h.n3 h.c3,.string d.log]
structure DkR (w:World) (B:Nat) (h:DkH) (d:Dk):Prop where
 tubes:zad w B 3 h.A1 h.n1 (tbs d.net.tubes)
 times:zad w B 1 h.A2 h.n2 (ints d.times)
 runs:zaC w B h.A3 h.n3 d.runs
structure DkH.ok (h:DkH):Prop where
 n1:h.n1<=9223372036854775807
 n2:h.n2<=9223372036854775807
 n3:h.n3<=9223372036854775807
structure DkS (h:DkH) (d:Dk):Prop where
 n1:h.n1<=1048576
 n2:h.n2<=1048576
 n3:h.n3<=1048576
 runs:zbM d.runs
 log:d.log.size<=1048576
theorem DkR.on{w w':World}{B:Nat}{h:DkH}{d:Dk}(hr:DkR w B h d)(hB:B<=w.heap.size)(hb:Below w.heap.size w w'):DkR w' B h d:=⟨hr.tubes.on hB hb,hr.times.on hB hb,hr.runs.on hB hb⟩
theorem DkR.more{w:World}{B B':Nat}{h:DkH}{d:Dk}(hr:DkR w B h d)(hB:B<=B'):DkR w B' h d:=⟨hr.tubes.more hB,hr.times.more hB,hr.runs.more hB⟩
theorem len5{α:Type}:∀{l:List α},l.length=5->∃a b c d e,l=[a,b,c,d,e]
 | [a,b,c,d,e],_=>⟨a,b,c,d,e,rfl⟩
section
variable {H:Type}{enc:TypeId×Value->H}{w:World}
theorem zsy {fuel:Nat} {cs:List Value} {y:DataW H × List MemPlace} {base:Nat} {spare:Nat -> Bool} {held:Bool} (h:DataW.trod enc prog w base spare held fuel 41 cs = some y) :
  ∃(A:Option Addr) (len cap:Nat) (l:List Tb),cs=[.slice A len cap]/\len<=9223372036854775807/\zad w w.heap.size 3 A len (tbs l):=by
 obtain⟨A',len',cap',l,hcs,hn,hr,hgd⟩:=zia zbs 3 Tb.good (fun _=>rfl) underlying41 (by kernel_rfl) (by omega) (fun n cs' y hl ht=>by
  exact ztx hl ht) h
 exact⟨_,_,_,l,hcs,hn,hr⟩
theorem ztv {fuel:Nat} {cs:List Value} {y:DataW H × List MemPlace} {base:Nat} {spare:Nat -> Bool} {held:Bool} (hl:cs.length = 2) (h:DataW.trod enc prog w base spare held fuel 43 cs = some y) :
  ∃(x:Nt) (A:Option Addr) (n c:Nat),cs=[.int .i64 x.sta,.slice A n c]/\n<=9223372036854775807/\zad w w.heap.size 3 A n (tbs x.tubes):=by
 obtain⟨n',hfs⟩:=zg3 underlying43 (by kernel_rfl) hl h;obtain⟨v0,z0,e0,t0⟩:=hfs 0 _ rfl;obtain⟨v1,z1,e1,t1⟩:=hfs 1 _ rfl;obtain⟨x0,rfl,g0⟩:=zep underlying2 t0;obtain⟨A,m,c,l,ee,hm,hr⟩:=zsy t1;injection ee with ee _;subst ee;exact⟨⟨x0,l⟩,A,m,c,zsG hl e0 e1,hm,hr⟩
theorem ztp {r:Reach} {b0:Nat} {dd:DataW H} {p:List MemPlace} {v:Value} (hv:Value.okWide prog w r b0 46 v) (h:DataW.Trod enc prog w 0 (fun _=>true) true 46 v dd p) :
  ∃(hd:DkH) (d:Dk),v=dkv hd d/\DkR w w.heap.size hd d/\hd.ok/\d.log.size<=9223372036854775807:=by
 obtain⟨cs,rfl,hsz⟩:=okWide_struct underlying46 hv;obtain⟨fuel,hf⟩:=h;have hC:prog.cellsOf 46=5:=by kernel_rfl
 have hl:cs.toList.length=5:=by rw[Array.length_toList];exact hsz.trans hC
 obtain⟨v0,v1,v2,v3,v4,hcs⟩:=len5 hl;obtain⟨xs,n',_,_,_,hyl,hfs⟩:=DataW.trod_struct underlying46 hf;have hcs':(Value.agg cs).cells.toList=[v0,v1,v2,v3,v4]:=hcs;rw[hcs'] at hfs;have q0:DataW.trod enc prog w 0 (fun _=>true) true n' 43 (([v0,v1,v2,v3,v4].drop 0).take (prog.cellsOf 43))=xs[0]?:=hfs 0 _ rfl;have q1:DataW.trod enc prog w 0 (fun _=>true) true n' 29 (([v0,v1,v2,v3,v4].drop 2).take (prog.cellsOf 29))=xs[1]?:=hfs 1 _ rfl;have q2:DataW.trod enc prog w 0 (fun _=>true) true n' 44 (([v0,v1,v2,v3,v4].drop 3).take (prog.cellsOf 44))=xs[2]?:=hfs 2 _ rfl;have q3:DataW.trod enc prog w 0 (fun _=>true) true n' 9 (([v0,v1,v2,v3,v4].drop 4).take (prog.cellsOf 9))=xs[3]?:=hfs 3 _ rfl
 have hx:∀i,i<4->∃z,xs[i]?=some z:=fun i hi=>⟨_,List.getElem?_eq_getElem (by rw[hyl];exact hi)⟩
 obtain⟨z0,e0⟩:=hx 0 (by decide);obtain⟨z1,e1⟩:=hx 1 (by decide);obtain⟨z2,e2⟩:=hx 2 (by decide);obtain⟨z3,e3⟩:=hx 3 (by decide);rw[e0] at q0;rw[e1] at q1;rw[e2] at q2;rw[e3] at q3;rw[show prog.cellsOf 43=2 by kernel_rfl] at q0;rw[show prog.cellsOf 29=1 by kernel_rfl] at q1;rw[show prog.cellsOf 44=1 by kernel_rfl] at q2;rw[show prog.cellsOf 9=1 by kernel_rfl] at q3;simp only[List.drop,List.take] at q0 q1 q2 q3;obtain⟨x,A1,n1,c1,f0,hn1,r1⟩:=ztv rfl q0;obtain⟨A2,n2,c2,l2,f1,hn2,r2,_⟩:=zlM q1;obtain⟨A3,n3,c3,l3,f2,hn3,r3,_⟩:=zrm q2;obtain⟨s,rfl,hs⟩:=zmT underlying9 q3;injection f0 with f00 f0;injection f0 with f01 _;injection f1 with f1 _;injection f2 with f2 _;subst f00 f01 f1 f2
 refine⟨⟨A1,n1,c1,A2,n2,c2,A3,n3,c3⟩,⟨x,l2,l3,s⟩,?_,⟨r1,r2,r3⟩,⟨hn1,hn2,hn3⟩,by unfold maxLen at hs;exact hs⟩
 have:cs=#[.int .i64 x.sta,.slice A1 n1 c1,.slice A2 n2 c2,.slice A3 n3 c3,.string s]:=by
  apply Array.toList_inj.1;exact hcs
 rw[this]
 rfl
end
end
section
open Go.RowKit Go.Lib Go.Proofs.Tryz
variable {H:Type}{enc:TypeId×Value->H}
theorem zfT {a:Assume} {C:Checked} {os:Os} {f:FuncId} {fn:Func} {s:ChangeSpec} {conds:List PathCond} {apart fresh handsOn again:Bool} {X:World -> Array Value -> Prop}
  (hX:∀(w w':World) (args:Array Value),w.heap=w'.heap->X w args->X w' args)
  (own:ownKnob C.prog.godebug=none) (started:os.Started) (noInit:C.prog.inits.idxOf? f=none) (hfn:C.prog.funcs[f]?=some fn)
  (witness:∃(w:World) (tape:Tape) (i:Input),w.os=os/\(w.forCall tape i).Shaped C.prog/\i.vars=[]/\Input.okWide C.prog (w.forCall tape i) .any w.heap.size f i/\
   ((s.pre enc C.prog fn conds apart (w.forCall tape i).memory i.args/\X (w.forCall tape i).memory i.args)/\sizedMet enc C.prog fn (OpenSpec.ofChange s) apart (w.forCall tape i).memory i.args)/\a.holds C.prog (lone (Frame.enter C.prog f i.args .normal) [] (w.forCall tape i)))
  (contract:∀(W:World) (base:Nat) (args:Array Value) (ds gs:List (DataW H)) (before:List MemPlace),
   (∀(j:Nat) t v,fn.params[j]?=some t->args[j]?=some v->Value.okWide C.prog W .any base t v)->
   DataW.Whole enc C.prog fn.params.toList s.vars apart W args.toList ds gs before->
   W.ShapedOpen C.prog->X W args->
   Calls C.prog f args W fun e W'=>∃v,e= .returned v/\s.post enc C.prog fn apart fresh handsOn again W args v W'):
  ReturnsInHanded a C os f .any (fun w args=>(s.pre enc C.prog fn conds apart w args/\X w args)/\sizedMet enc C.prog fn (OpenSpec.ofChange s) apart w args) (s.post enc C.prog fn apart fresh handsOn again):=by
 refine returnsInHanded_of_calls own started noInit witness ?_;intro w tape i _ hsh _ hok hpre _;obtain⟨_,_,_,fn2,hfn2,_,_,_,_,hval⟩:=hok;obtain rfl:fn2=fn:=Option.some.inj (hfn2.symm.trans hfn);obtain⟨⟨⟨ds,gs,before,hw,hc⟩,hx⟩,hz⟩:=hpre;refine(contract (w.forCall tape i) w.heap.size i.args ds gs before hval (DataW.Whole.of_heap (w':=w.forCall tape i) (by rfl) hw) hsh (hX _ _ _ (by rfl) hx)).mono fun e W' ⟨v,he,hp⟩=>?_;subst he;exact ChangeSpec.post_blind hp
theorem zlC{W:World}(h:W.ShapedOpen prog):∃m,W.cell? ⟨1,0,none⟩=some (.int .i64 m):=
 cell_of_shapedOpen_int (g:=1) (t:=3) h (of_decide_eq_true (by kernel_rfl)) (show _=some (#[.int .i64 0],3) by kernel_rfl) rfl (by kernel_rfl) (by kernel_rfl) underlying3
theorem znR: "*" ++ "errors.errorString" = "*errors.errorString" :=by decide
theorem zsV(u:TypeId)(h:prog.typeName? 3 u=some "*errors.errorString"):u=316:=
 typeName_ptr_named (nm:= "errors.errorString") (by rw[znR];kernel_rfl) (by kernel_rfl) (by decide) u (by rw[znR];exact h)
theorem zr5{r:List (String×DataW Unit)}{W:World}{text:List UInt8}(h:laidMet prog (("strconv.ErrSyntax", .iface "*errors.errorString" (.ptr (.agg [.lit (.string text)])))::r) W):SynP W:=by
 obtain⟨a,s,h1,_⟩:=laid_sentinel (g:=2) (ti:=110) (tp:=316) (te:=318) (ts:=9) h (by kernel_rfl) (by kernel_rfl) underlying110 zsV underlying316 underlying318 rfl rfl underlying9 (by kernel_rfl) (by kernel_rfl);exact⟨_,_,h1⟩
end
end Go.Proofs.YtjalgpioklcbfaaGreatDoor
