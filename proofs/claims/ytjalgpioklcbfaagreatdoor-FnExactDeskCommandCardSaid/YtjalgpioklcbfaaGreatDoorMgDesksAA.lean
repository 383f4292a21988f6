/- Steps of the proof. -/
import Derived.Lib.ParseIntBCases
import Derived.Lib.ItoaNum
import Derived.Lib.Split
import Derived.Lib.SplitLaws
import Derived.Lib.CutLaws
import Derived.Test.YtjalgpioklcbfaaGreatDoorKMem
import Derived.Test.YtjalgpioklcbfaaGreatDoorProg
import Derived.Deep.QuietTactic
import Derived.BigQuiet
import Derived.Deep.Slices
import Derived.Deep.Fields
import Derived.ChangeSame
import Derived.OpenShut
import Derived.OrdersHeld
import Derived.Deep.RegionHeld
import Derived.Maps.AppendAt
import Derived.WalkLawsBesides
set_option linter.unusedVariables false
set_option maxRecDepth 100000
set_option maxHeartbeats 4000000
namespace Go.Proofs.YtjalgpioklcbfaaGreatDoor
section
open Go.Lib
def zaY(c:UInt8):Bool:=decide (48<=c.toNat)&&decide (c.toNat<=57)
theorem zdp{c:UInt8}:zaY c=true↔48<=c.toNat/\c.toNat<=57:=by simp[zaY]
theorem zqP{c:UInt8}:zaY c=false↔¬(48<=c.toNat/\c.toNat<=57):=by rw[<-zdp];simp
def valD(l:List UInt8):Nat:=l.foldl (fun a c=>a*10+(c.toNat-48)) 0
def valF(a:Nat)(l:List UInt8):Nat:=l.foldl (fun a c=>a*10+(c.toNat-48)) a
theorem zpn:∀(l:List UInt8) (a k:Nat),a<10^k->l.all zaY=true->valF a l<10^(k+l.length)
 | [],a,k,h,_=>by simpa[valF] using h
 |c::r,a,k,h,hd=>by
  simp only[List.all_cons,Bool.and_eq_true] at hd;have hc:=zdp.1 hd.1;have:=zpn r (a*10+(c.toNat-48)) (k+1) (by rw[Nat.pow_succ];omega) hd.2;rw[show k+(c::r).length=k+1+r.length by simp;omega];exact this
theorem zdB{l:List UInt8}(hd:l.all zaY=true)(hl:l.length<=18):valD l<1000000000000000000:=by
 have:=zpn l 0 0 (by decide) hd;have h2:10^(0+l.length)<=10^18:=Nat.pow_le_pow_right (by decide) (by omega);show valF 0 l<_;omega
theorem zmd(l:List UInt8)(c:UInt8):valD (l++ [c])=valD l*10+(c.toNat-48):=by simp[valD]
def bare(s:List UInt8):List UInt8:=match s with
 | []=>[]
 |c::r=>if c=45 then r else c::r
def negS(s:List UInt8):Bool:=match s with
 | []=>false
 |c::_=>c==45
def numS(s:List UInt8):Int:=if negS s=true then-(valD (bare s):Int) else valD (bare s)
def zav(s:List UInt8):Bool:=!(bare s).isEmpty&&decide ((bare s).length<=18)&&(bare s).all zaY&&(itoa (numS s)==s)
theorem zck{s:List UInt8}:zav s=true↔bare s≠[]/\(bare s).length<=18/\(bare s).all zaY=true/\itoa (numS s)=s:=by
 simp[zav,and_assoc]
def zak(s:List UInt8):Int×Bool:=if zav s=true then (numS s,true) else (0,false)
theorem zbd{s:List UInt8}(h:zav s=false):zak s=(0,false):=by simp[zak,h]
theorem zbi{s:List UInt8}(h:zav s=true):zak s=(numS s,true):=by simp[zak,h]
theorem zbE(s:List UInt8):-1000000000000000000<(zak s).1/\(zak s).1<1000000000000000000:=by
 rcases h:zav s with _|_
 ·rw[zbd h];decide
 ·obtain⟨_,h2,h3,_⟩:=zck.1 h;have:=zdB h3 h2;rw[zbi h];simp only[numS]
  split<;>omega
theorem zfv{s:List UInt8}(h:18<(bare s).length):zav s=false:=by
 rcases hd:zav s with _|_
 ·rfl
 ·have:=(zck.1 hd).2.1;omega
theorem ziE{s:List UInt8}(h:bare s=[]):zav s=false:=by simp[zav,h]
theorem zhF{s:List UInt8}(h:(bare s).all zaY=false):zav s=false:=by simp[zav,h]
theorem zlz{s:List UInt8}(h:itoa (numS s)≠s):zav s=false:=by
 rcases hd:zav s with _|_
 ·rfl
 ·exact absurd (zck.1 hd).2.2.2 h
theorem zrJ(s:List UInt8):(bare s).length<=s.length/\s.length<=(bare s).length+1:=by
 cases s with
 |nil=>simp[bare]
 |cons c r=>simp only[bare];split<;>simp
theorem zdY:∀(l:List UInt8) (a k:Nat),a<10^k->k+l.length<=18->l.all zaY=true->parseUintM 18446744073709551615 a l= .ok (valF a l)
 | [],a,k,h,_,_=>rfl
 |c::r,a,k,h,hk,hd=>by
  simp only[List.all_cons,Bool.and_eq_true] at hd;have hc:=zdp.1 hd.1;have hp:10^(k+1)<=10^18:=Nat.pow_le_pow_right (by decide) (by simp at hk;omega);have h3:(10:Nat)^18=1000000000000000000:=by decide
  have ha:a*10+(c.toNat-48)<10^(k+1):=by rw[Nat.pow_succ];omega
  rw[parseUintM,if_pos hc,if_neg (by rw[Nat.pow_succ] at hp;omega),if_neg (by omega),zdY r _ (k+1) ha (by simp at hk;omega) hd.2]
  rfl
theorem zfz:∀(l:List UInt8) (a k:Nat),a<10^k->k+l.length<=18->l.all zaY=false->parseUintM 18446744073709551615 a l=NumEnd.syntax
 | [],a,k,h,_,hd=>by simp at hd
 |c::r,a,k,h,hk,hd=>by
  rcases hc:zaY c with _|_
  ·rw[parseUintM,if_neg (zqP.1 hc)]
  ·have hc':=zdp.1 hc;have hp:10^(k+1)<=10^18:=Nat.pow_le_pow_right (by decide) (by simp at hk;omega);have h3:(10:Nat)^18=1000000000000000000:=by decide
   have ha:a*10+(c.toNat-48)<10^(k+1):=by rw[Nat.pow_succ];omega
   simp only[List.all_cons,hc,Bool.true_and] at hd;rw[parseUintM,if_pos hc',if_neg (by rw[Nat.pow_succ] at hp;omega),if_neg (by omega),zfz r _ (k+1) ha (by simp at hk;omega) hd]
theorem zcu(u:Nat):(decDigits u).all zaY=true:=by
 induction u using Nat.strongRecOn with
 |_ u ih=>
  have one:∀d,d<10->zaY (UInt8.ofNat (48+d))=true:=fun d hd=>by
   rw[zdp,UInt8.toNat_ofNat'];omega
  by_cases h:u<10
  ·rw[decDigits,dif_pos h,List.all_cons,one u h];rfl
  ·rw[decDigits,dif_neg h];simp only[List.all_append,ih (u/10) (by omega),List.all_cons,one (u%10) (by omega),List.all_nil,Bool.and_self]
theorem zh8(u:Nat):decDigits u≠[]:=by
 rw[decDigits];split<;>simp
theorem zl3(n:Int)(r:List UInt8):itoa n≠43::r:=by
 unfold itoa
 split
 ·intro h;injection h with h;cases h
 ·intro h;have:=zcu n.toNat;rw[h] at this;simp[zaY] at this
theorem zsv{s:List UInt8}(hl:(bare s).length<=18){v:Int}(h:parseIntB 64 s= .ok v):(itoa v=s->zav s=true/\numS s=v)/\(itoa v≠s->zav s=false):=by
 cases s with
 |nil=>simp[parseIntB] at h
 |cons c r=>
  by_cases hp:c.toNat=43
  ·have hc:c=43:=by rw[<-UInt8.toNat_inj];exact hp
   subst hc;have hno:zav (43::r)=false:=zhF (by simp[bare,zaY]);exact⟨fun he=>absurd he (zl3 v r),fun _=>hno⟩
  ·by_cases hm:c.toNat=45
   ·have hc:c=45:=by rw[<-UInt8.toNat_inj];exact hm
    subst hc;have hb:bare (45::r)=r:=by simp[bare]
    have hn:numS (45::r)=-(valD r:Int):=by simp[numS,negS,hb]
    rw[hb] at hl;unfold parseIntB parseUintB at h;simp only[hm,or_true,if_true] at h;by_cases hr:r=[]
    ·rw[if_pos hr] at h;cases h
    ·rw[if_neg hr] at h;rcases hd:r.all zaY with _|_
     ·have:=zfz r 0 0 (by decide) (by omega) hd;rw[show(2^64-1:Nat)=18446744073709551615 from rfl,this] at h
      cases h
     ·have:=zdY r 0 0 (by decide) (by omega) hd;have hv:=zdB hd hl;rw[show(2^64-1:Nat)=18446744073709551615 from rfl,this] at h;simp only[not_true,false_and,if_false,true_and] at h;rw[if_neg (by show¬(2^63<valD r);omega)] at h;injection h with h;have hv':numS (45::r)=v:=by rw[hn];exact h
      exact⟨fun he=>⟨zck.2 ⟨by rw[hb];exact hr,by rw[hb];exact hl,by rw[hb];exact hd,by rw[hv'];exact he⟩,hv'⟩,fun he=>zlz (by rw[hv'];exact he)⟩
   ·have hc:c≠45:=fun hh=>hm (by rw[hh];rfl);have hb:bare (c::r)=c::r:=by simp[bare,hc]
    have hn:numS (c::r)=(valD (c::r):Int):=by simp[numS,negS,hb,hc]
    rw[hb] at hl;unfold parseIntB parseUintB at h;simp only[hp,hm,or_self,if_false,false_and] at h;rw[if_neg (by simp)] at h;rcases hd:(c::r).all zaY with _|_
    ·have:=zfz (c::r) 0 0 (by decide) (by omega) hd;rw[show(2^64-1:Nat)=18446744073709551615 from rfl,this] at h
     cases h
    ·have:=zdY (c::r) 0 0 (by decide) (by omega) hd;have hv:=zdB hd hl;rw[show(2^64-1:Nat)=18446744073709551615 from rfl,this] at h;simp only[not_false_eq_true,true_and] at h;rw[if_neg (by show¬(2^63<=valD (c::r));omega)] at h;injection h with h;have hv':numS (c::r)=v:=by rw[hn];exact h
     exact⟨fun he=>⟨zck.2 ⟨by rw[hb];simp,by rw[hb];exact hl,by rw[hb];exact hd,by rw[hv'];exact he⟩,hv'⟩,fun he=>zlz (by rw[hv'];exact he)⟩
theorem zn2{s:List UInt8}(hl:(bare s).length<=18)(h:parseIntB 64 s=NumEnd.syntax):zav s=false:=by
 rcases hd:zav s with _|_
 ·rfl
 ·exfalso;obtain⟨h1,h2,h3,h4⟩:=zck.1 hd
  cases s with
  |nil=>exact h1 rfl
  |cons c r=>
   by_cases hp:c.toNat=43
   ·have hc:c=43:=by rw[<-UInt8.toNat_inj];exact hp
    subst hc;exact zl3 _ _ h4
   ·by_cases hm:c.toNat=45
    ·have hc:c=45:=by rw[<-UInt8.toNat_inj];exact hm
     subst hc;have hb:bare (45::r)=r:=by simp[bare]
     rw[hb] at h1 h2 h3;have:=zdY r 0 0 (by decide) (by omega) h3;have hv:=zdB h3 h2;unfold parseIntB parseUintB at h;simp only[hm,or_true,if_true] at h;rw[if_neg h1,show(2^64-1:Nat)=18446744073709551615 from rfl,this] at h;simp only[not_true,false_and,if_false,true_and] at h;rw[if_neg (by show¬(2^63<valD r);omega)] at h
     cases h
    ·have hc:c≠45:=fun hh=>hm (by rw[hh];rfl);have hb:bare (c::r)=c::r:=by simp[bare,hc]
     rw[hb] at h1 h2 h3;have:=zdY (c::r) 0 0 (by decide) (by omega) h3;have hv:=zdB h3 h2;unfold parseIntB parseUintB at h;simp only[hp,hm,or_self,if_false,false_and] at h;rw[if_neg h1,show(2^64-1:Nat)=18446744073709551615 from rfl,this] at h;simp only[not_false_eq_true,true_and] at h;rw[if_neg (by show¬(2^63<=valD (c::r));omega)] at h
     cases h
def dgts(u:Nat):List UInt8:=if u=0 then [] else decDigits u
theorem zge:dgts 0=[]:=rfl
theorem zff{u:Nat}(h:u≠0):dgts u=dgts (u/10)++ [UInt8.ofNat (48+u%10)]:=by
 unfold dgts;rw[if_neg h,decDigits];by_cases h1:u<10
 ·rw[dif_pos h1,if_pos (by omega),Nat.mod_eq_of_lt h1];rfl
 ·rw[dif_neg h1,if_neg (by omega)]
theorem zng{n:Int}(h:0<n):itoa n=dgts n.natAbs:=by
 unfold itoa dgts;rw[if_neg (by omega),if_neg (by omega)]
 congr 1
 omega
theorem znf{n:Int}(h:n<0):itoa n=45::dgts n.natAbs:=by
 unfold itoa dgts;rw[if_pos h,if_neg (by omega)]
theorem zl4:itoa 0=[48]:=by
 unfold itoa;rw[if_neg (by decide),decDigits,dif_pos (by decide)]
 rfl
theorem zeO:∀(k u:Nat),k<nDigits u->10^k<=u\/k=0
 |0,u,_=>.inr rfl
 |k+1,u,hu=>by
  by_cases hs:u<10
  ·rw[nDigits_small hs] at hu;omega
  ·rw[nDigits_big hs] at hu;rcases zeO k (u/10) (by omega) with h|h
   ·left;rw[Nat.pow_succ];omega
   ·subst h;left;omega
theorem zgL{u:Nat}(h:u<10000000000000000000):(dgts u).length<=19:=by
 unfold dgts
 split
 ·simp
 ·rw[decDigits_eq,List.length_map,List.length_range];rcases Nat.lt_or_ge 19 (nDigits u) with h1|h1
  ·exfalso;rcases zeO 19 u h1 with h|h
   ·have h3:(10:Nat)^19=10000000000000000000:=by decide
    omega
   ·cases h
  ·exact h1
theorem zaz{n:Int}(h0:-9223372036854775808<=n)(h1:n<=9223372036854775807):(itoa n).length<=20:=by
 rcases Int.lt_trichotomy n 0 with h|h|h
 ·rw[znf h];have:=zgL (u:=n.natAbs) (by omega);simp;omega
 ·subst h;rw[zl4];decide
 ·rw[zng h];have:=zgL (u:=n.natAbs) (by omega);omega
theorem zhm{u:Nat}(h:u<1000000000000000000):(decDigits u).length<=18:=by
 rw[decDigits_eq,List.length_map,List.length_range];rcases Nat.lt_or_ge 18 (nDigits u) with h1|h1
 ·exfalso;rcases zeO 18 u h1 with h2|h2
  ·have h3:(10:Nat)^18=1000000000000000000:=by decide
   omega
  ·cases h2
 ·exact h1
theorem ziV(u:Nat):valD (decDigits u)=u:=by
 induction u using Nat.strongRecOn with
 |_ u ih=>
  have one:∀d,d<10->(UInt8.ofNat (48+d)).toNat=48+d:=fun d hd=>by rw[UInt8.toNat_ofNat'];omega
  by_cases h:u<10
  ·rw[decDigits,dif_pos h];show 0*10+((UInt8.ofNat (48+u)).toNat-48)=u;rw[one u h];omega
  ·rw[decDigits,dif_neg h,zmd,ih (u/10) (by omega),one (u%10) (by omega)];omega
theorem zmn{c:UInt8}{r l:List UInt8}(hl:l.all zaY=true)(h:l=c::r):c≠45:=by
 subst h;intro e;subst e;simp[zaY] at hl
theorem zrI{l:List UInt8}(hl:l.all zaY=true):bare l=l/\negS l=false:=by
 cases l with
 |nil=>exact⟨rfl,rfl⟩
 |cons c r=>
  have:=zmn hl rfl;exact⟨by simp[bare,this],by simp[negS,this]⟩
theorem ze3{n:Int}(h0:-1000000000000000000<n)(h1:n<1000000000000000000):zav (itoa n)=true/\numS (itoa n)=n:=by
 by_cases hn:n<0
 ·have e:itoa n=45::decDigits n.natAbs:=by unfold itoa;rw[if_pos hn]
  have hb:bare (itoa n)=decDigits n.natAbs:=by rw[e];simp[bare]
  have hv:numS (itoa n)=n:=by
   unfold numS;rw[hb,e];simp only[negS,beq_self_eq_true,if_true,ziV];omega
  refine⟨zck.2 ⟨by rw[hb];exact zh8 _,by rw[hb];exact zhm (by omega),by rw[hb];exact zcu _,by rw[hv]⟩,hv⟩
 ·have e:itoa n=decDigits n.toNat:=by unfold itoa;rw[if_neg hn]
  obtain⟨hb,hs⟩:=zrI (zcu n.toNat)
  have hv:numS (itoa n)=n:=by
   unfold numS;rw[e,hb,hs];simp only[Bool.false_eq_true,if_false,ziV];omega
  refine⟨zck.2 ⟨by rw[e,hb];exact zh8 _,by rw[e,hb];exact zhm (by omega),by rw[e,hb];exact zcu _,by rw[hv]⟩,hv⟩
theorem zdJ{s:List UInt8}(h:zav s=true):itoa (numS s)=s:=(zck.1 h).2.2.2
def zao(c:UInt8):List UInt8->List (List UInt8)
 | []=>[[]]
 |x::r=>if x=c then []::zao c r else match zao c r with
  | []=>[[x]]
  |h::t=>(x::h)::t
theorem zcg{c:UInt8}:∀{l:List UInt8},c∉l->zao c l=[l]
 | [],_=>rfl
 |x::r,h=>by
  simp only[List.mem_cons,not_or] at h;rw[zao,if_neg (fun e=>h.1 e.symm),zcg h.2]
theorem zba{c:UInt8}{r:List UInt8}:∀{a:List UInt8},c∉a->zao c (a++c::r)=a::zao c r
 | [],_=>by simp[zao]
 |x::a,h=>by
  simp only[List.mem_cons,not_or] at h;rw[List.cons_append,zao,if_neg (fun e=>h.1 e.symm),zba h.2]
theorem zf6(c:UInt8):∀l:List UInt8,(zao c l).length=l.count c+1
 | []=>rfl
 |x::r=>by
  have ih:=zf6 c r;rw[zao];by_cases h:x=c
  ·subst h;rw[if_pos rfl,List.length_cons,ih];simp
  ·rw[if_neg h,List.count_cons_of_ne (by simpa using h)]
   revert ih
   cases zao c r with
   |nil=>intro ih;simp at ih
   |cons y t=>intro ih;simpa using ih
theorem zcU(c:UInt8):∀l:List UInt8,(index l [c]=-1/\c∉l)\/∃a r,l=a++c::r/\c∉a/\index l [c]=a.length
 | []=>.inl ⟨by simp[index],by simp⟩
 |b::l=>by
  by_cases h:c=b
  ·subst h;exact .inr ⟨[],l,rfl,by simp,by simp[index]⟩
  ·have hp:([c]:List UInt8).isPrefixOf (b::l)=false:=by simp[List.isPrefixOf,h]
   rcases zcU c l with ⟨h1,h2⟩|⟨a,r,rfl,h2,h3⟩
   ·exact .inl ⟨by rw[index,hp,h1];rfl,by simp[h,h2]⟩
   ·refine .inr ⟨b::a,r,rfl,by simp[h,h2],?_⟩;rw[index,hp,h3];rw[if_neg (by simp),if_neg (by simp)];simp
theorem zii(c:UInt8):∀(k:Nat) (l:List UInt8),l.count c<=k->splitK [c] 0 k l=zao c l
 |0,l,h=>by
  have:c∉l:=by rw[<-List.count_pos_iff];omega
  rw[zcg this];rfl
 |k+1,l,h=>by
  rw[splitK];rcases zcU c l with ⟨h1,h2⟩|⟨a,r,rfl,h2,h3⟩
  ·rw[h1,zcg h2];rfl
  ·rw[h3,if_neg (by simp),zba h2]
   have hc:(a++c::r).count c=r.count c+1:=by
    rw[List.count_append,List.count_eq_zero.2 h2];simp
   have e1:((a.length:Int)).toNat=a.length:=by omega
   rw[e1,Nat.add_zero,List.take_left,List.length_singleton]
   have e2:(a++c::r).drop (a.length+1)=r:=by
    rw[<-List.drop_drop,List.drop_left];rfl
   rw[e2,zii c k r (by omega)]
def zab(l:List UInt8):ByteArray:=⟨l.toArray⟩
theorem zaM(s:ByteArray):zab s.data.toList=s:=by simp[zab]
theorem zaf(l:List UInt8):(zab l).data.toList=l:=by simp[zab]
theorem zaj(l:List UInt8):(zab l).size=l.length:=by simp[zab,ByteArray.size]
def zah(c:UInt8)(s:ByteArray):List ByteArray:=(zao c s.data.toList).map zab
theorem zc2(c:UInt8)(s:ByteArray):(zah c s).length=s.data.toList.count c+1:=by simp[zah,zf6]
theorem zto{xs:List ByteArray}{ys:List (List UInt8)}(h:xs.map (·.data.toList)=ys):xs=ys.map zab:=by
 rw[<-h,List.map_map];have:(zab∘fun x:ByteArray=>x.data.toList)=id:=by funext x;exact zaM x
 rw[this,List.map_id]
theorem zjE(c:UInt8)(s:ByteArray):countB s ⟨#[c]⟩=s.data.toList.count c:=by
 rw[countB,show(⟨#[c]⟩:ByteArray).data.toList=[c] from rfl,count_one]
theorem zqe(c:UInt8)(s:ByteArray):splitB ⟨#[c]⟩ 0 (countB s ⟨#[c]⟩) s=zah c s:=by
 have h:=splitB_data ⟨#[c]⟩ 0 (countB s ⟨#[c]⟩) s;rw[zto h,show(⟨#[c]⟩:ByteArray).data.toList=[c] from rfl,zii c _ _ (by rw[zjE];exact Nat.le_refl _)]
 rfl
def zaF(c:UInt8):List (List UInt8)->List UInt8
 | []=>[]
 | [x]=>x
 |x::y::r=>x++c::zaF c (y::r)
theorem zdL(c:UInt8)(l:List UInt8):zao c l≠[]:=by
 intro h;have:=zf6 c l;rw[h] at this
 cases this
theorem zcC(c:UInt8):∀l:List UInt8,zaF c (zao c l)=l
 | []=>rfl
 |x::r=>by
  have ih:=zcC c r;rw[zao];by_cases h:x=c
  ·subst h;rw[if_pos rfl];have hne:=zdL x r
   revert ih hne
   cases zao x r with
   |nil=>intro _ hne;exact absurd rfl hne
   |cons y t=>intro ih _;simp only[zaF];rw[ih];rfl
  ·rw[if_neg h];have hne:=zdL c r
   revert ih hne
   cases zao c r with
   |nil=>intro _ hne;exact absurd rfl hne
   |cons y t=>
    intro ih _
    cases t with
    |nil=>simp only[zaF] at ih⊢;rw[ih]
    |cons z u=>simp only[zaF] at ih⊢;rw[List.cons_append,ih]
end
section
open Go.RowKit
theorem Blk.apart{w w':World}{g lo hi:Nat}{t:TypeId}{cs:Array Value}(h:Blk w g t cs)(ho:Only lo hi w w')(hd:g<lo\/hi<=g):Blk w' g t cs:=(ho.block g h.lt hd).trans h
theorem zax {w:World} {B n k:Nat} {A:Option Addr} {l:List Int} (h:zad w B 1 A n (ints l)) (hk:k < n) :
  ∃(x:Int) (b off:Nat),l[k]?=some x/\A=some ⟨b,off,none⟩/\b<B/\w.cell? ⟨b,off+k,none⟩=some (.int .i64 x):=by
 obtain⟨b,off,rfl,hb,hcell⟩:=h.at_ (by omega);have hl:=h.1;rw[za4] at hl;have he:l[k]?=some l[k]:=List.getElem?_eq_getElem (by omega);exact⟨_,b,off,he,rfl,hb,hcell _ _ (zeK he)⟩
theorem zai{w:World}{B n:Nat}{A:Option Addr}{l:List Int}(h:zad w B 1 A n (ints l)):l.length=n:=by
 have:=h.1;rw[za4] at this;omega
end
section
open Go.RowKit Go.ChangeShapes Go.WideShapes Go.Deep
theorem zfe{x:Int}(h:(Lit.int .i64 x).wf=true):I64 x:=bounds_i64 h
theorem ziD{α:Type}{p:Nat->α->Prop}:∀n:Nat,(∀i,i<n->∃x,p i x)->∃l:List α,l.length=n/\∀i x,l[i]?=some x->p i x
 |0,_=>⟨[],rfl,fun i x h=>by simp at h⟩
 |n+1,h=>by
  obtain⟨l,hl,hp⟩:=ziD n (fun i hi=>h i (by omega));obtain⟨x,hx⟩:=h n (by omega);refine⟨l++ [x],by simp[hl],fun i y hy=>?_⟩;by_cases hi:i<n
  ·rw[List.getElem?_append_left (by omega)] at hy;exact hp i y hy
  ·rw[List.getElem?_append_right (by omega)] at hy;by_cases e:i=n
   ·subst e;simp[hl] at hy;subst hy;exact hx
   ·rw[List.getElem?_eq_none (by simp;omega)] at hy;cases hy
section
variable {H:Type}{enc:TypeId×Value->H}{P:Program}{w:World}{base:Nat}{spare:Nat->Bool}{held:Bool}
theorem zg3 {e:TypeId} {fs:Array Field} {n:Nat} {cs:List Value} {y:DataW H × List MemPlace} (he:P.underlying e = some (.struct fs)) (hone:oneCellFields P fs = true) (hl:cs.length = fs.size)
  (ht:DataW.trod enc P w base spare held n e cs=some y):∃n',∀(j:Nat) (f:Field),fs[j]?=some f->∃(v:Value) (z:DataW H×List MemPlace),cs[j]?=some v/\DataW.trod enc P w base spare held n' f.type [v]=some z:=by
 obtain⟨ys,n',_,_,_,hyl,hf⟩:=DataW.trod_struct he ht;refine⟨n',fun j f hj=>?_⟩;obtain⟨ho,hk⟩:=hone_of hone j f hj;have hjl:j<fs.size:=(Array.getElem?_eq_some_iff.1 hj).1;have h1:=hf j f hj;rw[ho,hk] at h1
 have h2:(cs.drop j).take 1=[cs[j]'(by omega)]:=by
  rw[List.drop_eq_getElem_cons (by omega)]
  rfl
 rw[h2,List.getElem?_eq_getElem (by omega)] at h1;exact⟨_,_,List.getElem?_eq_getElem (by omega),h1⟩
theorem zep{n:Nat}{k:IntKind}{t:TypeId}{v:Value}{z:DataW H×List MemPlace}(ht:P.underlying t=some (.int k))(h:DataW.trod enc P w base spare held n t [v]=some z):∃x:Int,v= .int k x/\(Lit.int k x).wf=true:=by
 obtain⟨x,hx,_,hw⟩:=DataW.trod_int ht h;injection hx with hx;exact⟨x,hx,hw⟩
theorem zmT{n:Nat}{t:TypeId}{v:Value}{z:DataW H×List MemPlace}(ht:P.underlying t=some .string)(h:DataW.trod enc P w base spare held n t [v]=some z):∃s:ByteArray,v= .string s/\s.size<=maxLen:=by
 obtain⟨x,hx,_,hw⟩:=DataW.trod_string ht h;injection hx with hx;exact⟨x,hx,hw⟩
theorem zsG{β:Type}{l:List β}(h:l.length=2){a b:β}(h0:l[0]?=some a)(h1:l[1]?=some b):l=[a,b]:=by
 apply List.ext_getElem?;intro i
 match i with
 |0=>simpa using h0
 |1=>simpa using h1
 |i+2=>rw[List.getElem?_eq_none (by omega)];simp
theorem zuj{β:Type}{l:List β}(h:l.length=3){a b c:β}(h0:l[0]?=some a)(h1:l[1]?=some b)(h2:l[2]?=some c):l=[a,b,c]:=by
 apply List.ext_getElem?;intro i
 match i with
 |0=>simpa using h0
 |1=>simpa using h1
 |2=>simpa using h2
 |i+3=>rw[List.getElem?_eq_none (by omega)];simp
theorem zia {α:Type} (cell:α -> List Value) (m:Nat) (good:α -> Prop) (hm:∀ x,(cell x).length = m) {t e:TypeId} {fuel:Nat} {cs:List Value} {x:DataW H × List MemPlace}
  (ht:P.underlying t=some (.slice e)) (hC:P.cellsOf e=m) (h0:0<m)
  (hread:∀(n:Nat) (cs':List Value) (y:DataW H×List MemPlace),cs'.length=m->DataW.trod enc P w base spare held n e cs'=some y->∃x,cell x=cs'/\good x)
  (h:DataW.trod enc P w base spare held fuel t cs=some x):
  ∃(A:Option Addr) (len cap:Nat) (l:List α),cs=[.slice A len cap]/\len<=9223372036854775807/\zad w w.heap.size m A len (l.flatMap cell)/\∀x∈l,good x:=by
 rcases open_slice ht h with ⟨rfl,_⟩|⟨a,len,cap,M,n,D,Pl,rfl,hb,hl,hcm,hmm,_,hi⟩
 ·exact⟨none,0,0,[],rfl,by omega,⟨by simp,fun h=>absurd h (by omega)⟩,fun x hx=>by cases hx⟩
 ·have hlM:len<=M:=by rw[hmm];split<;>omega
  obtain⟨l,hll,hp⟩:=ziD (p:=fun i x=>good x/\∀j,j<m->w.cell? ((a.add (i*m)).add j)=(cell x)[j]?) len (fun i hi'=>by
   obtain⟨cs',h1,h2⟩:=hi i (by omega);rw[hC] at h1;obtain⟨_,hcl,hat⟩:=World.cells?_some h1;obtain⟨x,rfl,hg⟩:=hread n _ _ hcl h2;exact⟨x,hg,hat⟩)
  refine⟨some a,len,cap,l,rfl,by unfold maxLen at hcm;omega,⟨?_,fun hn=>?_⟩,fun x hx=>?_⟩
  ·rw[zcZ cell m hm,hll]
  ·have hcell:∀i j,i<len->j<m->∃u,(l.flatMap cell)[i*m+j]?=some u/\w.cell? (a.add (i*m+j))=some u:=by
    intro i j hi' hj;have hx:l[i]?=some (l[i]'(by omega)):=List.getElem?_eq_getElem (by omega);have h1:=(hp i _ hx).2 j hj;rw[Go.Deep.add_add] at h1;have h2:=zce cell m hm l i _ hx j hj;have h3:(cell (l[i]'(by omega)))[j]?=some ((cell (l[i]'(by omega)))[j]'(by rw[hm];exact hj)):=List.getElem?_eq_getElem _;exact⟨_,h2.trans h3,h1.trans h3⟩
   obtain⟨b,off,spot⟩:=a;obtain⟨u0,_,hc0⟩:=hcell 0 0 hn h0;have hspot:spot=none:=by simpa[Addr.add] using World.cell?_spot hc0
   subst hspot;have hblk:b<w.heap.size:=by simpa[Addr.add] using World.block_lt_of_cell? w _ hc0
   refine⟨_,rfl,rfl,hblk,fun q u hu=>?_⟩
   have hq:q<len*m:=by
    have:=(List.getElem?_eq_some_iff.1 hu).1;rwa[zcZ cell m hm,hll] at this
   have hqi:q/m<len:=Nat.div_lt_of_lt_mul (by rw[Nat.mul_comm];exact hq);obtain⟨u',h1,h2⟩:=hcell (q/m) (q%m) hqi (Nat.mod_lt _ h0);rw[Nat.div_add_mod'] at h1 h2;rw[hu] at h1;injection h1 with h1;subst h1;have e:(⟨b,off,none⟩:Addr).add q=⟨b,off+q,none⟩:=by unfold Addr.add;split<;>simp_all
   rw[e] at h2;exact h2
  ·obtain⟨j,hj,rfl⟩:=List.mem_iff_getElem.1 hx;exact(hp j _ (List.getElem?_eq_getElem hj)).1
end
end
section
open Go.RowKit Go.Proofs.Tryz
theorem za2(n lo hi:Int)(w:World):Calls prog 164 #[.int .i64 n,.int .i64 lo,.int .i64 hi] w fun e w'=>e= .returned (.bool (inR n lo hi))/\w=w':=by
 by_cases h1:lo<=n<;>by_cases h2:n<=hi
 all_goals
  go_enter func164,ntmps164;go_wp2;go_ret;exact⟨zae (by simp[inR,h1,h2]),rfl⟩
theorem zaG(n lo hi:Int)(w:World):Calls prog 79 #[.int .i64 n,.int .i64 lo,.int .i64 hi] w fun e w'=>e= .returned (.bool (inR n lo hi))/\w=w':=by
 by_cases h1:lo<=n<;>by_cases h2:n<=hi
 all_goals
  go_enter func79,ntmps79;go_wp2;go_ret;exact⟨zae (by simp[inR,h1,h2]),rfl⟩
theorem zfx(d:Int)(w:World):Calls prog 277 #[.int .i64 d] w fun e w'=>e= .returned (.bool (inR d 0 100000))/\w=w':=by
 go_enter func277,ntmps277
 go_wp2_with (go_at_call 164;refine(za2 _ _ _ _).mono ?_;rintro e w' ⟨rfl,rfl⟩)
 go_ret;exact⟨rfl,rfl⟩
end
section
open Go.RowKit
theorem ly{α:Type}:(∀(l:List α) (i:Nat) (h:i<l.toArray.size),l.toArray[i]=l[i]'(by simpa using h))/\(∀(a:α) (l:List α) (i:Nat) (h:i+1<(a::l).length),(a::l)[i+1]=l[i]'(by simpa using h))/\(∀(a:α) (l:List α) (h:0<(a::l).length),(a::l)[0]=a)/\(∀(l:List α) (i:Nat) (a:α),l.toArray.setIfInBounds i a=(l.set i a).toArray)/\(∀(a b:α) (l:List α),(a::l).set 0 b=b::l)/\(∀(a b:α) (l:List α) (i:Nat),(a::l).set (i+1) b=a::l.set i b):=by
 refine⟨fun l i h=>by simp,fun a l i h=>by simp,fun a l h=>by simp,fun l i a=>by simp,fun a b l=>by simp,fun a b l i=>by simp⟩
theorem zaq{w:World}{g:Nat}{t:TypeId}{a b c d e:Value}(y:Blk w g t #[a,b,c,d,e]):w.cell? ⟨g,0,none⟩=some a/\w.cell? ⟨g,1,none⟩=some b/\w.cell? ⟨g,2,none⟩=some c/\w.cell? ⟨g,3,none⟩=some d/\w.cell? ⟨g,4,none⟩=some e:=
 ⟨y.cellAt 0 (by simp),y.cellAt 1 (by simp),y.cellAt 2 (by simp),y.cellAt 3 (by simp),y.cellAt 4 (by simp)⟩
theorem zbF{w:World}{g:Nat}{t:TypeId}{cs:Array Value}(y:Blk w g t cs):w.frozen? ⟨g,0,none⟩=false/\w.frozen? ⟨g,1,none⟩=false/\w.frozen? ⟨g,2,none⟩=false/\w.frozen? ⟨g,3,none⟩=false/\w.frozen? ⟨g,4,none⟩=false:=
 ⟨y.frozen 0,y.frozen 1,y.frozen 2,y.frozen 3,y.frozen 4⟩
theorem zaB{w:World}{g:Nat}{t:TypeId}{a b c:Value}{l:List Value}(y:Blk w g t (a::b::c::l).toArray):w.cell? ⟨g,0,none⟩=some a/\w.cell? ⟨g,1,none⟩=some b/\w.cell? ⟨g,2,none⟩=some c:=
 ⟨y.cellAt 0 (by simp),y.cellAt 1 (by simp),y.cellAt 2 (by simp)⟩
theorem zum{w:World}{g:Nat}{t:TypeId}{a b c d:Value}{l:List Value}(y:Blk w g t (a::b::c::d::l).toArray):w.cell? ⟨g,0,none⟩=some a/\w.cell? ⟨g,1,none⟩=some b/\w.cell? ⟨g,2,none⟩=some c/\w.cell? ⟨g,3,none⟩=some d:=
 ⟨y.cellAt 0 (by simp),y.cellAt 1 (by simp),y.cellAt 2 (by simp),y.cellAt 3 (by simp)⟩
theorem oc2{w w':World}{p q:Addr}{a b:Value}(h:Below w.heap.size w w')(x:w.cell? p=some a)(y:w.cell? q=some b):w'.cell? p=some a/\w'.cell? q=some b:=⟨zaa h x,zaa h y⟩
theorem oc5{w w':World}{p q r s t:Addr}{a b c d e:Value}(h:Below w.heap.size w w')(x:w.cell? p=some a)(y:w.cell? q=some b)(z:w.cell? r=some c)(u:w.cell? s=some d)(v:w.cell? t=some e):w'.cell? p=some a/\w'.cell? q=some b/\w'.cell? r=some c/\w'.cell? s=some d/\w'.cell? t=some e:=⟨zaa h x,zaa h y,zaa h z,zaa h u,zaa h v⟩
theorem lr{n:Nat}:n<=n:=Nat.le_refl n
theorem bal{w:World}(o:Obj):Below w.heap.size w (w.alloc o):=(Below.refl _ _).alloc (Nat.le_refl _) o
theorem hid{p:Prop}(h:p):Hid p:=h
section
variable {P:Program}{md:Region.Mode}{ops:Array Oper}{Q:Exit->Act->World->Prop}{S:World->Prop}{oi:Oper}{fuel:Nat}{listed:Array Bool}{a:Act}{w:World}
theorem tk(i:Nat)(hi:ops[i]?=some oi)(v:Value)(hy:∀w,S w->(execOp a.eval oi).run P w= .ok (.value v) w)(h:wpAnyH P md ops Q S fuel (listed.setIfInBounds i true) (a.put oi.dst v) w)(hw:Region.wanted oi (yielded ops a.tmps)=true:=by kernel_rfl)(hs:Region.noSelect ops=true:=by kernel_rfl)(hf:Region.free md ops listed i=true:=by kernel_rfl)(hr:(Region.ready md ops listed).contains i=true:=by kernel_rfl)(hQ:∀c a w,Q (.panic c) (a.put oi.dst v) w->Q (.panic c) a w:=by exact fun _ _ _ h=>h)(hS:S w:=by assumption):wpAnyH P md ops Q S (fuel+1) listed a w:=
 wpAnyH_take hi hs hf hr hQ (Or.inl ⟨hw,hy⟩) hS h
theorem tu(i:Nat)(hi:ops[i]?=some oi)(h:wpAnyH P md ops Q S fuel (listed.setIfInBounds i true) (a.put oi.dst undef) w)(hw:Region.wanted oi (yielded ops a.tmps)=false:=by kernel_rfl)(hs:Region.noSelect ops=true:=by kernel_rfl)(hf:Region.free md ops listed i=true:=by kernel_rfl)(hr:(Region.ready md ops listed).contains i=true:=by kernel_rfl)(hQ:∀c a w,Q (.panic c) (a.put oi.dst undef) w->Q (.panic c) a w:=by exact fun _ _ _ h=>h)(hS:S w:=by assumption):wpAnyH P md ops Q S (fuel+1) listed a w:=
 wpAnyH_take hi hs hf hr hQ (Or.inr ⟨hw,rfl⟩) hS h
/-- A step that is taken first, said wholly by its number: what it yields and the frame behind it are found. -/
theorem dq(i:Nat)(hi:ops[i]?=some oi){v:Value}{a':Act}(hy:∀w,S w->(execOp a.eval oi).run P w= .ok (.value v) w:=by intro w _;go_simp;try with_reducible rfl)(ha:a.put oi.dst v=a':=by(try simp only[Act.put,ly]);exact rfl)(h:wpAnyH P md ops Q S fuel (listed.setIfInBounds i true) a' w)(hw:Region.wanted oi (yielded ops a.tmps)=true:=by kernel_rfl)(hs:Region.noSelect ops=true:=by kernel_rfl)(hf:Region.free md ops listed i=true:=by kernel_rfl)(hr:(Region.ready md ops listed).contains i=true:=by kernel_rfl)(hQ:∀c a w,Q (.panic c) (a.put oi.dst v) w->Q (.panic c) a w:=by exact fun _ _ _ h=>h)(hS:S w:=by assumption):wpAnyH P md ops Q S (fuel+1) listed a w:=
 tk i hi v hy (ha▸h) hw hs hf hr hQ hS
theorem dr(i:Nat)(hi:ops[i]?=some oi){a':Act}(ha:a.put oi.dst undef=a':=by(try simp only[Act.put,ly]);exact rfl)(h:wpAnyH P md ops Q S fuel (listed.setIfInBounds i true) a' w)(hw:Region.wanted oi (yielded ops a.tmps)=false:=by kernel_rfl)(hs:Region.noSelect ops=true:=by kernel_rfl)(hf:Region.free md ops listed i=true:=by kernel_rfl)(hr:(Region.ready md ops listed).contains i=true:=by kernel_rfl)(hQ:∀c a w,Q (.panic c) (a.put oi.dst undef) w->Q (.panic c) a w:=by exact fun _ _ _ h=>h)(hS:S w:=by assumption):wpAnyH P md ops Q S (fuel+1) listed a w:=
 tu i hi (ha▸h) hw hs hf hr hQ hS
/-- The one operation that comes up next. -/
theorem rd(i:Nat)(ho:ops[i]?=some oi)(h:∀K':Act->World->Prop,Shut (∀a w,S w->(S w->wpAnyH P md ops Q S fuel (listed.setIfInBounds i true) a w)->K' a w)->if Region.wanted oi (yielded ops a.tmps)=true then Oper.wp P oi a w K' Q else K' (a.put oi.dst undef) w)(hr:Region.ready md ops listed=[i]:=by kernel_rfl):wpAnyH P md ops Q S (fuel+1) listed a w:=
 wpAnyH_ready hr (by simp) (AllReadyH.cons ho h AllReadyH.nil)
/-- The way back into the region. -/
theorem ke{K:Act->World->Prop}{a':Act}(hK:Shut (∀a w,S w->(S w->wpAnyH P md ops Q S fuel listed a w)->K a w))(hS:S w)(h:S w->wpAnyH P md ops Q S fuel listed a' w)(ha:a=a':=by(try simp only[Act.put,ly]);exact rfl):K a w:=
 hK.out _ _ hS (ha▸h)
/-- Nothing is left to be taken. -/
theorem dn{fuel:Nat}{listed:Array Bool}{a:Act}{w:World}(h:Q .normal a w)(hr:Region.ready md ops listed=[]:=by kernel_rfl):wpAnyH P md ops Q S fuel listed a w:=wpAnyH_done hr h _
/-- A region that draws its order: what holds all through it. -/
theorem ez{id:Nat}{a:Act}{w:World}(S:World->Prop)(hS:S w.drew)(h:S w.drew->wpAnyH P .any ops Q S ops.size (Array.replicate ops.size false) a w.drew)(hm:P.follows .mixedOrders=true:=by kernel_rfl):(Code.region id ops true).wp P Q a w:=wp_region_held_drew hm hS h
end
end
section
open Go.RowKit
structure Acc (b0 z:Nat) (t:TypeId) (size:Nat) (w wr:World) (A:Option Addr) (m c:Nat) (xs:List Value):Prop where
 own:wr.ownsRow 0 t size (.slice A m c) m xs
 at_:∀a,A=some a->a.block=b0\/z<=a.block
 os:wr.os=w.os
 tape:wr.tape=w.tape
 output:wr.output=w.output
 size:w.heap.size<=wr.heap.size
 block:∀k,k<z->k≠b0->wr.heap[k]?=w.heap[k]?
section
variable {b0 z size m c:Nat}{t:TypeId}{w wr:World}{A:Option Addr}{xs:List Value}
theorem zlL{w:World}{base:Nat}{e:TypeId}{size:Nat}{v:Value}{n:Nat}{xs:List Value}(h:w.ownsRow base e size v n xs):w.ownsRow 0 e size v n xs:=by
 refine⟨h.1,?_⟩;rcases h.2 with hn|⟨g,cap,cur,h',hb,rest⟩
 ·exact .inl hn
 ·exact .inr ⟨g,cap,cur,h',Nat.zero_le _,rest⟩
theorem Acc.made(w:World)(t:TypeId)(size:Nat):Acc w.heap.size w.heap.size t size w (w.alloc (.cells #[] t)) (some ⟨w.heap.size,0,none⟩) 0 0 []:=
 ⟨World.ownsRow_made w #[] 0 (Nat.zero_le _) (Nat.zero_le _) (by simp),fun a h=>by injection h with h;subst h;exact .inr lr,rfl,rfl,rfl,by simp,fun k hk _=>Below.heap_alloc w _ k hk⟩
theorem Sl.made(w:World)(t:TypeId)(size:Nat):Sl (w.alloc (.cells #[] t)) w.heap.size (w.heap.size+1) t size (some ⟨w.heap.size,0,none⟩) 0 0 []:=
 ⟨World.ownsRow_made w #[] 0 lr (Nat.zero_le _) (by simp),fun a h=>by injection h with h;subst h;simp⟩
theorem Acc.start{lo hi:Nat}(h:Sl w lo hi t size A m c xs)(hA:∀a,A=some a->a.block=b0)(z:Nat):Acc b0 z t size w w A m c xs:=
 ⟨zlL h.1,fun a ha=>.inl (hA a ha),rfl,rfl,rfl,Nat.le_refl _,fun _ _ _=>rfl⟩
theorem Acc.len(h:Acc b0 z t size w wr A m c xs):xs.length=m*size:=h.own.1
theorem Acc.reads{B:Nat}{A':Option Addr}{n size':Nat}{ys:List Value}(h:Acc b0 z t size w wr A m c xs)(hr:zad w B size' A' n ys)(hB:B<=z)(hne:B<=b0):zad wr B size' A' n ys:=
 hr.keep fun p hp=>World.cell?_of_block (h.block p.block (by omega) (by omega))
theorem Acc.below{B:Nat}(h:Acc b0 z t size w wr A m c xs)(h1:B<=b0)(h2:B<=z):Below B w wr:=⟨h.os,h.tape,h.output,h.size,fun k hk=>h.block k (by omega) (by omega)⟩
theorem Acc.sl{lo:Nat}(h:Acc b0 z t size w wr A m c xs)(h1:lo<=b0)(h2:lo<=z):Sl wr lo wr.heap.size t size A m c xs:=by
 refine⟨⟨h.own.1,?_⟩,fun b hb=>?_⟩
 ·rcases h.own.2 with hn|⟨g,cap,cur,h',hb,rest⟩
  ·exact .inl hn
  ·refine .inr ⟨g,cap,cur,h',?_,rest⟩;injection h' with e1;rcases h.at_ _ e1 with e|e<;>simp at e<;>omega
 ·have:=h.own.lt b.block (by subst hb;rfl);exact this.2
theorem Acc.blk{g:Nat}{t':TypeId}{cs:Array Value}(h:Acc b0 z t size w wr A m c xs)(hg:Blk w g t' cs)(hz:g<z)(hne:g≠b0):Blk wr g t' cs:=(h.block g hz hne).trans hg
theorem Acc.on{w2:World}(h:Acc b0 z t size w wr A m c xs)(hb:Below wr.heap.size wr w2)(hz:z<=w.heap.size):Acc b0 z t size w w2 A m c xs:=
 ⟨h.own.kept (row:=none) ⟨hb.os,hb.tape,hb.output,hb.size,fun k hk _=>hb.block k hk⟩ (by cases hv:(Value.slice A m c).ownBlock<;>simp),h.at_,hb.os.trans h.os,hb.tape.trans h.tape,hb.output.trans h.output,Nat.le_trans h.size hb.size,
  fun k hk hne=>(hb.block k (Nat.lt_of_lt_of_le hk (Nat.le_trans hz h.size))).trans (h.block k hk hne)⟩
end
theorem zi6(w:World)(news:List Value)(e:TypeId):∀j u,news[j]?=some u->(w.alloc (.cells news.toArray e)).cell? ((⟨w.heap.size,0,none⟩:Addr).add j)=some u:=by
 intro j u hu;have hadd:(⟨w.heap.size,0,none⟩:Addr).add j=⟨w.heap.size,j,none⟩:=by unfold Addr.add;split<;>simp_all
 rw[hadd,World.cell?_alloc_at _ _ _ _ rfl];simpa using hu
theorem ziX {P:Program} {ops:Array Oper} {rest:List Oper} {o:Oper} {a:Act} {Q:Exit -> Act -> World -> Prop} (hgd:o.guard = none) (s x:Operand) (t:TypeId)
  (ho:o.op= .call {callee:=.builtin .append,args:=#[s,x],argTypes:=#[t,t]})
  (e:TypeId) (zv:Value) (size bytes:Nat) (ht:P.underlying t=some (.slice e)) (hinfo:(P.info? e).map (fun i=>(i.zero,i.size,i.bytes))=some (some zv,size,bytes)) (hzs:zv.cells.size=size) (hsz:0<size)
  {b0 z:Nat}{w wr:World}{A:Option Addr}{m c:Nat}{xs:List Value} (h:Acc b0 z e size w wr A m c xs) (hzw:z<=w.heap.size) (hs:a.eval s= .slice A m c)
  (news:List Value) (hx:a.eval x= .slice (some ⟨wr.heap.size,0,none⟩) 1 1) (hl:news.length=size) (h1:∀u∈news,u.oneCell'=true) (hm:m<100000000000000) (hmb:(m+1)*bytes<=140737488355328)
  (K:∀A' c' w1,Acc b0 z e size w w1 A' (m+1) c' (xs++news)->wpList P ops Q rest (a.put o.dst (.slice A' (m+1) c')) w1):wpList P ops Q (o::rest) a (wr.alloc (.cells news.toArray e)):=by
 obtain⟨i,hi,hz,hsize,hby⟩:=info_parts hinfo;refine wpList_append_own_at _ hgd s x t ho 0 e i zv size bytes ht hi hz hsize hby hzs hsz _ _ _ hs (h.own.alloc _) ⟨wr.heap.size,0,none⟩ 1 1 news hx (by omega) (zi6 wr news e) h1 (by unfold maxLen;omega) ?_ (Nat.zero_le _) ?_
 ·exact hmb
 ·intro v' w' hown hgrow _ hat;have hwz:(wr.alloc (.cells news.toArray e)).heap.size=wr.heap.size+1:=by simp
  have hzr:z<=wr.heap.size:=Nat.le_trans hzw h.size
  have hrest:∀k,k<z->k≠b0->w'.heap[k]?=w.heap[k]?:=fun k hk hne=>by
   rw[hgrow.block k (by omega) (fun ee=>?_),Below.heap_alloc wr _ k (by omega)]
   ·exact h.block k hk hne
   ·cases A with
    |none=>simp[Value.ownBlock] at ee
    |some ad=>
     simp[Value.ownBlock] at ee;rcases h.at_ ad rfl with e1|e1<;>omega
  have hsz':w.heap.size<=w'.heap.size:=Nat.le_trans h.size (by have:=hgrow.size;omega);rcases hown.2 with ⟨hv,hn⟩|⟨g,cap,cur,hv,hb',hgg,hrest'⟩
  ·omega
  ·have hat':g=b0\/z<=g:=by
    subst hv;rcases hat with e1|e1
    ·cases A with
     |none=>simp[Value.ownBlock] at e1
     |some ad=>
      simp[Value.ownBlock] at e1;rcases h.at_ ad rfl with e2|e2<;>omega
    ·simp[Value.ownBlock] at e1;omega
   subst hv;exact K _ _ _ ⟨hown,fun ad had=>by injection had with had;subst had;exact hat',by have:=hgrow.os;rw[this];exact h.os,by have:=hgrow.tape;rw[this];exact h.tape,by have:=hgrow.output;rw[this];exact h.output,hsz',hrest⟩
theorem zeC {P:Program} {ops:Array Oper} {rest:List Oper} {o:Oper} {a:Act} {Q:Exit -> Act -> World -> Prop} (hgd:o.guard = none) (s x:Operand) (t:TypeId)
  (ho:o.op= .call {callee:=.builtin .append,args:=#[s,x],argTypes:=#[t,t]})
  (e:TypeId) (zv:Value) (size bytes:Nat) (ht:P.underlying t=some (.slice e)) (hinfo:(P.info? e).map (fun i=>(i.zero,i.size,i.bytes))=some (some zv,size,bytes)) (hzs:zv.cells.size=size) (hsz:0<size) (hb:bytes<=1000)
  {b0 z:Nat}{w wr:World}{A:Option Addr}{m c:Nat}{xs:List Value} (h:Acc b0 z e size w wr A m c xs) (hzw:z<=w.heap.size) (hs:a.eval s= .slice A m c)
  (news:List Value) (hx:a.eval x= .slice (some ⟨wr.heap.size,0,none⟩) 1 1) (hl:news.length=size) (h1:∀u∈news,u.oneCell'=true) (hm:m<100000000)
  (K:∀A' c' w1,Acc b0 z e size w w1 A' (m+1) c' (xs++news)->wpList P ops Q rest (a.put o.dst (.slice A' (m+1) c')) w1):wpList P ops Q (o::rest) a (wr.alloc (.cells news.toArray e)):=
 ziX hgd s x t ho e zv size bytes ht hinfo hzs hsz h hzw hs news hx hl h1 (by omega) (by
  calc (m+1)*bytes<=100000000*1000:=Nat.mul_le_mul (by omega) hb
   _<=140737488355328:=by decide) K
theorem zcH {P:Program} {ops:Array Oper} {rest:List Oper} {o:Oper} {a:Act} {Q:Exit -> Act -> World -> Prop} (hgd:o.guard = none) (s x:Operand) (t:TypeId)
  (ho:o.op= .call {callee:=.builtin .append,args:=#[s,x],argTypes:=#[t,t]})
  (e:TypeId) (zv:Value) (size bytes:Nat) (ht:P.underlying t=some (.slice e)) (hinfo:(P.info? e).map (fun i=>(i.zero,i.size,i.bytes))=some (some zv,size,bytes)) (hzs:zv.cells.size=size) (hsz:0<size) (hb:bytes<=1000)
  {b0 z:Nat}{w wr:World}{A:Option Addr}{m c:Nat}{xs:List Value} (h:Acc b0 z e size w wr A m c xs) (hzw:z<=w.heap.size) (hs:a.eval s= .slice A m c)
  (hd:Nat) (hhd:hd=wr.heap.size) (news:List Value) (hx:a.eval x= .slice (some ⟨hd,0,none⟩) 1 1) (hl:news.length=size) (h1:∀u∈news,u.oneCell'=true) (hm:m<100000000)
  (K:∀A' c' w1,Acc b0 z e size w w1 A' (m+1) c' (xs++news)->wpList P ops Q rest (a.put o.dst (.slice A' (m+1) c')) w1):wpList P ops Q (o::rest) a (wr.alloc (.cells news.toArray e)):=by
 subst hhd;exact zeC hgd s x t ho e zv size bytes ht hinfo hzs hsz hb h hzw hs news hx hl h1 hm K
end
section
open Go.RowKit Go.Proofs.Tryz
def dgt(j:Nat):UInt8:=UInt8.ofNat (48+j%10)
def digs:Nat->Nat->List UInt8->List UInt8
 |0,_,acc=>acc
 |f+1,k,acc=>if k=0 then acc else digs f (k/10) (dgt k::acc)
def ze6(k:Nat):ByteArray:=⟨(109::(if k=0 then [48] else digs k k [])).toArray⟩
theorem zq9(f:Nat)(acc:List UInt8):digs f 0 acc=acc:=by cases f<;>simp[digs]
theorem zq8{f k:Nat}(acc:List UInt8)(h:0<k)(hf:k<=f):digs f k acc=digs (f-1) (k/10) (dgt k::acc):=by
 obtain⟨g,rfl⟩:∃g,f=g+1:=⟨f-1,by omega⟩
 rw[digs,if_neg (by omega)]
 rfl
theorem zlo(x y:List UInt8):(⟨x.toArray⟩:ByteArray)++(⟨y.toArray⟩:ByteArray)=⟨(x++y).toArray⟩:=by
 apply ByteArray.ext;simp[ByteArray.data_append]
theorem zpy(j:Nat)(w:World):(convert 22 9 (.slice (some ⟨w.heap.size,0,none⟩) 1 1)).run prog (w.alloc (.cells #[.int .u8 (48+(j:Int)%10)] 5))= .ok (.string ⟨[dgt j].toArray⟩) (w.alloc (.cells #[.int .u8 (48+(j:Int)%10)] 5)):=by
 have hc:∀i:Nat,i<1->(w.alloc (.cells #[.int .u8 (48+(j:Int)%10)] 5)).cell? ⟨w.heap.size,0+i,none⟩=some (.int .u8 (([48+(j:Int)%10]:List Int).getD i 0)):=by
  intro i hi;obtain rfl:i=0:=by omega
  rw[World.cell?_alloc_at _ _ _ _ rfl]
  rfl
 rw[run_convert_bytes_arg (P:=prog) (w.alloc (.cells #[.int .u8 (48+(j:Int)%10)] 5)) 22 5 underlying22 underlying5 w.heap.size 0 1 1 [48+(j:Int)%10] rfl hc 9 underlying9];have e:(48+(j:Int)%10).toNat=48+j%10:=by omega
 simp[strOfNums,dgt,e]
theorem zhV(k:Nat)(w:World)(hk:k<=100000000000000):Calls prog 58 #[.int .i64 k] w fun e w'=>e= .returned (.string (ze6 k))/\Below w.heap.size w w':=by
 by_cases h0:k=0
 ·subst h0;go_enter func58,ntmps58;go_wp2;go_ret;exact⟨rfl,Below.refl _ _⟩
 ·have hp:¬(k:Int)<=0:=by omega
  go_enter func58,ntmps58;go_wp2
  go_loopw [0,3] (fun q s wr=>∃(f j:Nat) (acc:List UInt8),j<=f/\j<=k/\acc.length+j<=k/\Hid (digs f j acc=digs k k [])/\q= .int .i64 j/\s= .string ⟨acc.toArray⟩/\Below w.heap.size w wr) (fun q _ _=>(RowKit.intOf q).toNat)
  case atStart=>exact⟨k,k,[],Nat.le_refl _,Nat.le_refl _,by simp,rfl,rfl,rfl,Below.refl _ _⟩
  case round=>
   obtain⟨f,j,acc,hjf,hjk,hal,hd,rfl,rfl,hbel⟩:=hrel;by_cases hj:0<j
   ·have hj':(0:Int)<j:=by omega
    have hcv:=zpy j wr;have hl1:((acc.length:Int))<=100000000000000:=by omega
    have hdiv:((j/10:Nat):Int)=(j:Int)/10:=by omega
    have HD:=hid hdiv;clear hdiv;go_wp2
    go_roundw
    case rel=>
     refine⟨f-1,j/10,dgt j::acc,by omega,by omega,by simp;omega,?_,by rw[HD.out],?_,hbel.alloc hbel.size _⟩
     ·unfold Hid at hd⊢;rw[<-hd,zq8 acc hj hjf]
     ·exact congrArg Value.string (zlo [dgt j] acc)
    case measure=>simp[RowKit.intOf];omega
   ·obtain rfl:j=0:=by omega
    have HF:=hid hd.out;go_wp2;go_ret;refine⟨?_,hbel⟩;have:=HF.out;rw[zq9] at this;rw[ze6,if_neg h0,<-this,show(109::acc)=[109]++acc from rfl,<-zlo]
    rfl
end
end Go.Proofs.YtjalgpioklcbfaaGreatDoor
