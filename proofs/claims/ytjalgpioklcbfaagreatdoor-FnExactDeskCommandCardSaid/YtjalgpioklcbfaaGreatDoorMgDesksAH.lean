/- Steps of the proof. -/
import Derived.Test.YtjalgpioklcbfaaGreatDoorMgDesksAG
set_option linter.unusedVariables false
set_option linter.unusedSimpArgs false
set_option maxHeartbeats 4000000
set_option maxRecDepth 100000
namespace Go.Proofs.YtjalgpioklcbfaaGreatDoor
section
open Go.RowKit
structure It where
 arr:Int
 tick:Int
 cls:Int
def okIt(x:It):Bool:=inR x.arr 0 10000&&(inR x.tick 1 1000&&inR x.cls 0 9)
def okQ(l:List It):Bool:=decide (l.length<=12)&&l.all okIt
def itD:It:=⟨0,0,0⟩
def itAt(l:List It)(i:Int):It:=l.getD i.toNat itD
def zdF(a b:It):Bool:=decide (a.cls<b.cls)||(a.cls==b.cls&&decide (a.arr<b.arr))
def hasI(l:List Int)(i:Int):Bool:=l.any fun x=>x==i
def za1(l:List It)(order:List Int)(tick:Int):List It->Nat->Int->Int
 | [],_,b=>b
 |x::r,i,b=>za1 l order tick r (i+1) (if hasI order i=true then b else if tick<x.arr then b else if b<0\/zdF x (itAt l b)=true then (i:Int) else b)
def zb2(order:List Int)(tick:Int):List It->Nat->Int->Int
 | [],_,n=>n
 |x::r,i,n=>zb2 order tick r (i+1) (if hasI order i=true then n else if tick<x.arr then (if n<0\/x.arr<n then x.arr else n) else n)
def zcr(order:List Int):List It->Nat->Int->Int
 | [],_,n=>n
 |x::r,i,n=>zcr order r (i+1) (if hasI order i=true then n else if n<0\/x.arr<n then x.arr else n)
inductive Sv (l:List It):List Int->Int->List Int->Prop
 |done {o:List Int}{t:Int}:¬o.length<l.length->Sv l o t o
 |idle {o:List Int}{t:Int}{R:List Int}:o.length<l.length->za1 l o t l 0 (-1)<0->Sv l o (zb2 o t l 0 (-1)) R->Sv l o t R
 |step {o:List Int}{t:Int}{R:List Int}:o.length<l.length->¬za1 l o t l 0 (-1)<0->Sv l (o++ [za1 l o t l 0 (-1)]) (t+(itAt l (za1 l o t l 0 (-1))).tick) R->Sv l o t R
theorem Sv.at_end{l:List It}{o R:List Int}{t:Int}(h:Sv l o t R)(hn:¬o.length<l.length):R=o:=by
 cases h with
 |done _=>rfl
 |idle h _ _=>exact absurd h hn
 |step h _ _=>exact absurd h hn
theorem Sv.to_idle{l:List It}{o R:List Int}{t:Int}(h:Sv l o t R)(hn:o.length<l.length)(hp:za1 l o t l 0 (-1)<0):Sv l o (zb2 o t l 0 (-1)) R:=by
 cases h with
 |done h=>exact absurd hn h
 |idle _ _ h=>exact h
 |step _ h _=>exact absurd hp h
theorem Sv.to_step{l:List It}{o R:List Int}{t:Int}(h:Sv l o t R)(hn:o.length<l.length)(hp:¬za1 l o t l 0 (-1)<0):Sv l (o++ [za1 l o t l 0 (-1)]) (t+(itAt l (za1 l o t l 0 (-1))).tick) R:=by
 cases h with
 |done h=>exact absurd hn h
 |idle _ h _=>exact absurd h hp
 |step _ _ h=>exact h
def zeX(o:List Int):Nat->Nat
 |0=>0
 |n+1=>zeX o n+(if hasI o n=true then 0 else 1)
theorem zqI(o:List Int)(b i:Int):hasI (o++ [b]) i=(hasI o i||b==i):=by simp[hasI]
theorem zkj{o:List Int}{b:Nat}(hb:hasI o b=false):∀n,zeX (o++ [(b:Int)]) n+(if b<n then 1 else 0)=zeX o n
 |0=>by simp[zeX]
 |n+1=>by
  have:=zkj hb n;unfold zeX;rw[zqI];by_cases e:b=n
  ·subst e;rw[hb];simp only[beq_self_eq_true,Bool.or_true,if_true,Bool.false_eq_true,if_false];rw[if_neg (Nat.lt_irrefl _)] at this;rw[if_pos (Nat.lt_succ_self _)];omega
  ·have e2:((b:Int)==(n:Int))=false:=by rw[beq_eq_false_iff_ne];omega
   rw[e2,Bool.or_false]
   have:(if b<n+1 then 1 else 0)=(if b<n then 1 else 0):=by
    by_cases h:b<n
    ·rw[if_pos h,if_pos (by omega)]
    ·rw[if_neg h,if_neg (by omega)]
   omega
theorem zlD{o:List Int}:∀n,0<zeX o n->∃i:Nat,i<n/\hasI o i=false
 |n+1,h=>by
  unfold zeX at h;rcases e:hasI o n with _|_
  ·exact⟨n,by omega,e⟩
  ·rw[e,if_pos rfl] at h;obtain⟨i,hi,k⟩:=zlD n (by omega);exact⟨i,by omega,k⟩
theorem zem (l:List It) (o:List Int) (t:Int):∀ (r:List It) (i:Nat) (b:Int),l.drop i = r -> (b = -1 \/ (∃ k:Nat,b = k /\ k < l.length /\ hasI o k = false /\ (itAt l k).arr <= t)) ->
  (za1 l o t r i b=-1\/(∃k:Nat,za1 l o t r i b=k/\k<l.length/\hasI o k=false/\(itAt l k).arr<=t))/\(za1 l o t r i b<0->b<0/\∀j:Nat,i<=j->j<l.length->hasI o j=false->t<(itAt l j).arr)
 | [],i,b,hd,hb=>by
  refine⟨hb,fun h=>⟨h,fun j h1 h2=>?_⟩⟩;have:=List.drop_eq_nil_iff.1 hd;omega
 |x::r,i,b,hd,hb=>by
  have hil:i<l.length:=by
   rcases Nat.lt_or_ge i l.length with h|h
   ·exact h
   ·rw[List.drop_eq_nil_of_le h] at hd;cases hd
  have hx:itAt l i=x:=by
   have:=congrArg (fun q=>q[0]?) hd;simp only[List.getElem?_drop,Nat.add_zero,List.getElem?_cons_zero] at this;unfold itAt;rw[List.getD_eq_getElem?_getD,Int.toNat_natCast,this];rfl
  have hd':l.drop (i+1)=r:=by
   have:=congrArg List.tail hd;rwa[List.tail_drop,List.tail_cons] at this
  unfold za1;rcases e:hasI o i with _|_
  ·rw[if_neg (by decide)];by_cases ht:t<x.arr
   ·rw[if_pos ht];obtain⟨k1,k2⟩:=zem l o t r (i+1) b hd' hb;refine⟨k1,fun h=>⟨(k2 h).1,fun j h1 h2 h3=>?_⟩⟩;by_cases ej:j=i
    ·subst ej;rw[hx];exact ht
    ·exact(k2 h).2 j (by omega) h2 h3
   ·rw[if_neg ht];by_cases hc:b<0\/zdF x (itAt l b)=true
    ·rw[if_pos hc];obtain⟨k1,k2⟩:=zem l o t r (i+1) i hd' (.inr ⟨i,rfl,hil,e,by rw[hx];omega⟩);exact⟨k1,fun h=>by have:=(k2 h).1;omega⟩
    ·rw[if_neg hc];obtain⟨k1,k2⟩:=zem l o t r (i+1) b hd' hb;exact⟨k1,fun h=>absurd (.inl (k2 h).1) hc⟩
  ·rw[if_pos rfl];obtain⟨k1,k2⟩:=zem l o t r (i+1) b hd' hb;refine⟨k1,fun h=>⟨(k2 h).1,fun j h1 h2 h3=>?_⟩⟩;by_cases ej:j=i
   ·subst ej;rw[e] at h3;cases h3
   ·exact(k2 h).2 j (by omega) h2 h3
theorem zfP (l:List It) (o:List Int) (t:Int) (hl:∀ x ∈ l,0 <= x.arr /\ x.arr <= 10000):∀ (r:List It) (i:Nat) (n:Int),l.drop i = r -> (n = -1 \/ (t < n /\ 0 <= n /\ n <= 10000)) ->
  (zb2 o t r i n=-1\/(t<zb2 o t r i n/\0<=zb2 o t r i n/\zb2 o t r i n<=10000))/\(zb2 o t r i n<0->n<0/\∀j:Nat,i<=j->j<l.length->hasI o j=false->¬t<(itAt l j).arr)
 | [],i,b,hd,hb=>by
  refine⟨hb,fun h=>⟨h,fun j h1 h2=>?_⟩⟩;have:=List.drop_eq_nil_iff.1 hd;omega
 |x::r,i,n,hd,hb=>by
  have hil:i<l.length:=by
   rcases Nat.lt_or_ge i l.length with h|h
   ·exact h
   ·rw[List.drop_eq_nil_of_le h] at hd;cases hd
  have hx':l[i]?=some x:=by
   have:=congrArg (fun q=>q[0]?) hd;simpa only[List.getElem?_drop,Nat.add_zero,List.getElem?_cons_zero] using this
  have hx:itAt l i=x:=by
   unfold itAt;rw[List.getD_eq_getElem?_getD,Int.toNat_natCast,hx'];rfl
  have hm:=hl x (List.mem_of_getElem? hx')
  have hd':l.drop (i+1)=r:=by
   have:=congrArg List.tail hd;rwa[List.tail_drop,List.tail_cons] at this
  unfold zb2;rcases e:hasI o i with _|_
  ·rw[if_neg (by decide)];by_cases ht:t<x.arr
   ·rw[if_pos ht];by_cases hc:n<0\/x.arr<n
    ·rw[if_pos hc];obtain⟨k1,k2⟩:=zfP l o t hl r (i+1) x.arr hd' (.inr ⟨ht,hm.1,hm.2⟩);exact⟨k1,fun h=>by have:=(k2 h).1;omega⟩
    ·rw[if_neg hc];obtain⟨k1,k2⟩:=zfP l o t hl r (i+1) n hd' hb;exact⟨k1,fun h=>absurd (.inl (k2 h).1) hc⟩
   ·rw[if_neg ht];obtain⟨k1,k2⟩:=zfP l o t hl r (i+1) n hd' hb;refine⟨k1,fun h=>⟨(k2 h).1,fun j h1 h2 h3=>?_⟩⟩;by_cases ej:j=i
    ·subst ej;rw[hx];exact ht
    ·exact(k2 h).2 j (by omega) h2 h3
  ·rw[if_pos rfl];obtain⟨k1,k2⟩:=zfP l o t hl r (i+1) n hd' hb;refine⟨k1,fun h=>⟨(k2 h).1,fun j h1 h2 h3=>?_⟩⟩;by_cases ej:j=i
   ·subst ej;rw[e] at h3;cases h3
   ·exact(k2 h).2 j (by omega) h2 h3
theorem zjn(l:List It)(o:List Int)(t:Int):∀(r:List It) (i:Nat) (n:Int),l.drop i=r->(∀j:Nat,i<=j->j<l.length->hasI o j=false->t<(itAt l j).arr)->zcr o r i n=zb2 o t r i n
 | [],_,_,_,_=>rfl
 |x::r,i,n,hd,h=>by
  have hil:i<l.length:=by
   rcases Nat.lt_or_ge i l.length with h|h
   ·exact h
   ·rw[List.drop_eq_nil_of_le h] at hd;cases hd
  have hx:itAt l i=x:=by
   have:=congrArg (fun q=>q[0]?) hd;simp only[List.getElem?_drop,Nat.add_zero,List.getElem?_cons_zero] at this;unfold itAt;rw[List.getD_eq_getElem?_getD,Int.toNat_natCast,this];rfl
  have hd':l.drop (i+1)=r:=by
   have:=congrArg List.tail hd;rwa[List.tail_drop,List.tail_cons] at this
  unfold zcr zb2;rcases e:hasI o i with _|_
  ·simp only[Bool.false_eq_true,if_false];rw[if_pos (show t<x.arr by have:=h i lr hil e;rwa[hx] at this)];exact zjn l o t r (i+1) _ hd' (fun j h1 h2 h3=>h j (by omega) h2 h3)
  ·rw[if_pos rfl,if_pos rfl];exact zjn l o t r (i+1) _ hd' (fun j h1 h2 h3=>h j (by omega) h2 h3)
structure Qs (l:List It) (o:List Int) (t:Int):Prop where
 left:o.length+zeX o l.length=l.length
 low:0<=t
 high:t<=10000+1000*o.length
theorem zeN{l:List It}(h:okQ l=true):l.length<=12/\(∀x∈l,0<=x.arr/\x.arr<=10000)/\∀x∈l,1<=x.tick/\x.tick<=1000/\0<=x.cls/\x.cls<=9:=by
 unfold okQ at h;simp only[Bool.and_eq_true,decide_eq_true_eq,List.all_eq_true] at h;refine⟨h.1,fun x hx=>?_,fun x hx=>?_⟩
 ·have:=h.2 x hx;unfold okIt at this;simp only[Bool.and_eq_true] at this;exact zam.1 this.1
 ·have:=h.2 x hx;unfold okIt at this;simp only[Bool.and_eq_true] at this;have h1:=zam.1 this.2.1;have h2:=zam.1 this.2.2;exact⟨h1.1,h1.2,h2.1,h2.2⟩
theorem zsf{l:List It}{k:Nat}(h:k<l.length):itAt l k∈l:=by
 unfold itAt;rw[List.getD_eq_getElem?_getD,Int.toNat_natCast,List.getElem?_eq_getElem h];exact List.getElem_mem h
theorem Qs.idle {l:List It} {o:List Int} {t:Int} (hq:okQ l = true) (h:Qs l o t) (hn:o.length < l.length) (hp:za1 l o t l 0 (-1) < 0) :
  Qs l o (zb2 o t l 0 (-1))/\t<zb2 o t l 0 (-1)/\(∀j:Nat,0<=j->j<l.length->hasI o j=false->t<(itAt l j).arr):=by
 obtain⟨q1,q2,q3⟩:=zeN hq;obtain⟨-,k⟩:=zem l o t l 0 (-1) rfl (.inl rfl);have k:=(k hp).2;obtain⟨n1,n2⟩:=zfP l o t q2 l 0 (-1) rfl (.inl rfl)
 have hpos:¬zb2 o t l 0 (-1)<0:=by
  intro hneg;obtain⟨i,hi,he⟩:=zlD (o:=o) l.length (by have:=h.left;omega);exact(n2 hneg).2 i (Nat.zero_le _) hi he (k i (Nat.zero_le _) hi he)
 rcases n1 with n1|n1
 ·omega
 ·exact⟨⟨h.left,n1.2.1,by omega⟩,n1.1,k⟩
theorem Qs.step {l:List It} {o:List Int} {t:Int} (hq:okQ l = true) (h:Qs l o t) (hp:¬ za1 l o t l 0 (-1) < 0) :
  ∃k:Nat,za1 l o t l 0 (-1)=k/\k<l.length/\Qs l (o++ [za1 l o t l 0 (-1)]) (t+(itAt l (za1 l o t l 0 (-1))).tick)/\1<=(itAt l (za1 l o t l 0 (-1))).tick:=by
 obtain⟨q1,q2,q3⟩:=zeN hq;obtain⟨k,-⟩:=zem l o t l 0 (-1) rfl (.inl rfl);rcases k with k|⟨k,k1,k2,k3,k4⟩
 ·omega
 ·rw[k1];have:=zkj k3 l.length;rw[if_pos k2] at this;have hl:=h.left;have hb:=q3 _ (zsf k2);have h1:=h.low;have h2:=h.high;exact⟨k,rfl,k2,⟨by rw[List.length_append,List.length_singleton];omega,by omega,by rw[List.length_append,List.length_singleton];omega⟩,hb.1⟩
theorem zr3{l:List It}(hq:okQ l=true)(m:Nat):∀(o:List Int) (t:Int),((l.length:Int)-o.length)*30000+(30000-t)<=m->Qs l o t->∃R,Sv l o t R:=by
 induction m with
 |zero=>
  intro o t hm h;have:=h.high;have:=(zeN hq).1;have:=h.left;have:=h.low;have:o.length=l.length:=by omega
  exact⟨o,.done (by omega)⟩
 |succ m ih=>
  intro o t hm h;by_cases hn:o.length<l.length
  ·by_cases hp:za1 l o t l 0 (-1)<0
   ·obtain⟨h1,h2,-⟩:=h.idle hq hn hp;have:=h1.high;have:=h.low;have:=(zeN hq).1;obtain⟨R,hR⟩:=ih o _ (by omega) h1;exact⟨R,.idle hn hp hR⟩
   ·obtain⟨k,h1,h2,h3,h4⟩:=h.step hq hp;have:=(zeN hq).1;have hlen:(o++ [za1 l o t l 0 (-1)]).length=o.length+1:=by simp
    obtain⟨R,hR⟩:=ih _ _ (by rw[hlen];omega) h3;exact⟨R,.step hn hp hR⟩
  ·exact⟨o,.done hn⟩
theorem zjr(l:List It):Qs l [] 0:=⟨by
 have:∀n,zeX [] n=n:=by
  intro n
  induction n with
  |zero=>rfl
  |succ n ih=>unfold zeX;rw[ih];rfl
 rw[this,List.length_nil];omega,Int.le_refl _,by simp⟩
noncomputable def svR (l:List It):List Int:=open Classical in if h:∃R,Sv l [] 0 R then Classical.choose h else []
theorem zk7{l:List It}(hq:okQ l=true):Sv l [] 0 (svR l):=by
 unfold svR;have h:=zr3 hq ((l.length+1)*30000) [] 0 (by rw[List.length_nil];omega) (zjr l);rw[dif_pos h];exact Classical.choose_spec h
noncomputable def srvC (l:List It):List Int×Int:=if okQ l=false then ([],1) else (svR l,0)
end
section
open Go.RowKit Go.Proofs.Tryz
theorem zn1 (x lo hi:Int) (g1 g2:Nat) (w:World) (k1:w.cell? ⟨g1,0,none⟩ = some (.int .i64 lo)) (k2:w.cell? ⟨g2,0,none⟩ = some (.int .i64 hi)) :
  Calls prog 205 #[.int .i64 x,.pointer (some ⟨g1,0,none⟩),.pointer (some ⟨g2,0,none⟩)] w fun e w'=>e= .returned (.bool (!inR x lo hi))/\w=w':=by
 go_enter func205,ntmps205
 go_wp2_with fail
 refine(zaG _ _ _ _).mono ?_;rintro e w1 ⟨rfl,rfl⟩;go_wp2;go_ret;exact⟨rfl,rfl⟩
theorem zkW (A:Option Addr) (n c B:Nat) (l:List Int) (lo hi:Int) (g1 g2:Nat) (w:World) (h:zad w B 1 A n (ints l)) (hn:n <= 1048576) (k1:w.cell? ⟨g1,0,none⟩ = some (.int .i64 lo)) (k2:w.cell? ⟨g2,0,none⟩ = some (.int .i64 hi)) :
  Calls prog 258 #[.slice A n c,.func (.func 205) #[] #[.pointer (some ⟨g1,0,none⟩),.pointer (some ⟨g2,0,none⟩)]] w fun e w'=>e= .returned (.int .i64 (idxI (fun x=>!inR x lo hi) l))/\w=w':=by
 have hl:=hid (zai h);go_enter func258,ntmps258;go_wp2
 go_loop [8] (fun i=>∃k:Nat,k<=n/\i= .int .i64 k/\za0 (fun x=>inR x lo hi) l k) (fun i=>n-(RowKit.intOf i).toNat)
 case atStart=>exact⟨0,Nat.zero_le _,rfl,za0.zero _ _⟩
 case round=>
  obtain⟨k,hk,rfl,hall⟩:=hrel;have HA:=hid hall;clear hall;by_cases hlt:k<n
  ·obtain⟨x,b,off,he,rfl,hb,c0⟩:=zax h hlt;have HE:=hid he;clear he h
   go_wp2_with fail
   refine(zn1 x lo hi g1 g2 w k1 k2).mono ?_;rintro e w1 ⟨rfl,rfl⟩;rcases ho:inR x lo hi with _|_
   ·have HO:=hid (show idxI (fun x=>!inR x lo hi) l=k from zcT HE.out (by simp[ho]) (HA.out.imp fun x hx=>by simp[hx]));go_wp2;go_ret;exact⟨za3 HO.out.symm,rfl⟩
   ·have HO:=hid ho;go_wp2
    go_round
    case rel=>exact⟨k+1,by omega,by go_num,HA.out.step (p:=fun x=>inR x lo hi) HE.out HO.out⟩
    case measure=>simp[RowKit.intOf];omega
  ·obtain rfl:k=n:=by omega
   have HO:=hid (show idxI (fun x=>!inR x lo hi) l=-1 from zdo (HA.out.imp fun x hx=>by simp[hx]) hl.out);go_wp2;go_ret;exact⟨za3 HO.out.symm,rfl⟩
theorem zi9 (A:Option Addr) (n c B:Nat) (l:List Int) (lo hi:Int) (g1 g2:Nat) (w:World) (h:zad w B 1 A n (ints l)) (hn:n <= 1048576) (k1:w.cell? ⟨g1,0,none⟩ = some (.int .i64 lo)) (k2:w.cell? ⟨g2,0,none⟩ = some (.int .i64 hi)) :
  Calls prog 204 #[.slice A n c,.func (.func 205) #[] #[.pointer (some ⟨g1,0,none⟩),.pointer (some ⟨g2,0,none⟩)]] w fun e w'=>e= .returned (.bool (!l.all fun x=>inR x lo hi))/\w=w':=by
 have HO:=hid (show decide (0<=idxI (fun x=>!inR x lo hi) l)= !l.all fun x=>inR x lo hi from by rw[zc5];simp[List.any_eq_not_all_not]);go_enter func204,ntmps204
 go_wp2_with fail
 refine(zkW A n c B l lo hi g1 g2 w h hn k1 k2).mono ?_;rintro e w1 ⟨rfl,rfl⟩;go_wp2;go_ret;exact⟨zae HO.out,rfl⟩
end
section
open Go.RowKit Go.Lib
def zcs(s:ByteArray)(r:LogR):Option LogR:=match zah 10 (s.extract r.at_ s.size) with
 |l::_::_=>zbz r l
 |_=>none
theorem zhe{s:ByteArray}{r:LogR}(h:(10:UInt8)∉(s.extract r.at_ s.size).data.toList):zcs s r=none:=by
 unfold zcs;rw[zik h]
theorem zr0{s:ByteArray}{r:LogR}{k:Nat}(hn:(10:UInt8)∉(s.extract r.at_ k).data.toList)(hj:r.at_<=k)(hk:k<s.size)(hc:s[k]=10):zcs s r=zbz r (s.extract r.at_ k):=by
 unfold zcs;rw[zk1 hn hj hk hc];rcases h:zah 10 (s.extract (k+1) s.size) with _|⟨m,t⟩
 ·exact absurd h (zev _ _)
 ·rfl
theorem znS {s:ByteArray} {r:LogR} (hat:r.at_ <= s.size):zbK (zah 10 (s.extract r.at_ s.size)) r = match zcs s r with
  |none=>r
  |some r'=>zbK (zah 10 (s.extract r'.at_ s.size)) r':=by
 rcases zcU 10 (s.extract r.at_ s.size).data.toList with ⟨_,hno⟩|⟨al,rl,he,hna,_⟩
 ·rw[zhe hno,zdV hno]
 ·have he':(s.extract r.at_ s.size).data.toList=(zab al).data.toList++10::rl:=by rw[zaf];exact he
  have hn':(10:UInt8)∉(zab al).data.toList:=by rw[zaf];exact hna
  have h1:=zfi (r:=r) he' hn';have h2:=zjs hat he'
  have h3:zcs s r=zbz r (zab al):=by
   unfold zcs zah;rw[he,zba hna,List.map_cons];rcases h:List.map zab (zao 10 rl) with _|⟨m,t⟩
   ·exact absurd (by simpa using h) (zdL _ _)
   ·rfl
  rw[h1,h3];rcases h4:zbz r (zab al) with _|r'
  ·rfl
  ·have h5:r'.at_=r.at_+(zab al).size+1:=by
    unfold zbz at h4
    split at h4
    ·cases h4
    ·split at h4
     ·injection h4 with h4;subst h4;rfl
     ·cases h4
   simp only;rw[h2.1,h5]
theorem zqf{s:ByteArray}{r r':LogR}(hok:r.ok)(hat:r.at_<=s.size)(h:zcs s r=some r'):r'.ok/\r'.at_<=s.size/\r.at_<r'.at_:=by
 rcases zcU 10 (s.extract r.at_ s.size).data.toList with ⟨_,hno⟩|⟨al,rl,he,hna,_⟩
 ·rw[zhe hno] at h;cases h
 ·have he':(s.extract r.at_ s.size).data.toList=(zab al).data.toList++10::rl:=by rw[zaf];exact he
  have h2:=zjs hat he'
  have h3:zcs s r=zbz r (zab al):=by
   unfold zcs zah;rw[he,zba hna,List.map_cons];rcases h:List.map zab (zao 10 rl) with _|⟨m,t⟩
   ·exact absurd (by simpa using h) (zdL _ _)
   ·rfl
  rw[h3] at h;obtain⟨k1,k2,_⟩:=LogR.ok_step hok h;exact⟨k1,by omega,by omega⟩
theorem zlf{r:LogR}{line a b c d:ByteArray}(h:zah 32 line=[a,b,c,d])(hd:¬(dayR r.list<=numS a.data.toList)):zbz r line=none:=by
 rcases hl:zbt line with _|⟨e,st⟩
 ·exact zd4 hl
 ·have he:e.day=numS a.data.toList:=by
   rw[zbT h] at hl;unfold zcz at hl
   split at hl
   ·injection hl with hl;injection hl with hl _;subst hl;rfl
   ·cases hl
  exact zgq hl (by rw[he];exact hd)
theorem zk3 {r:LogR} {line a b c d:ByteArray} (h:zah 32 line = [a,b,c,d]) (h1:zav a.data.toList = true) (h2:zav c.data.toList = true)
  (ht:zbc (zbf r.stamp (zau ⟨numS a.data.toList,b,numS c.data.toList⟩)) ⟨numS a.data.toList,b,numS c.data.toList⟩≠line++⟨#[10]⟩):zbz r line=none:=by
 have hb:=zdt r.stamp (zau ⟨numS a.data.toList,b,numS c.data.toList⟩);have hx:=fun q=>ht ((zl8 h h1 h2 hb.1 hb.2).2 q);rcases hl:zbt line with _|⟨e,st⟩
 ·exact zd4 hl
 ·rw[zbT h] at hl;unfold zcz at hl
  split at hl
  ·rename_i hw;injection hl with hl;injection hl with hl hl';simp only[Bool.and_eq_true] at hw;have hl2:zbt line=some (e,st):=by rw[zbT h,zf9 hw.1.1.1 hw.1.1.2 hw.1.2 hw.2,hl,hl']
   refine zeg hl2 (fun hs=>hx ⟨hw.1.2,?_⟩);rw[hl',<-hs,hl]
  ·cases hl
theorem zlg {r:LogR} {line a b c d:ByteArray} (h:zah 32 line = [a,b,c,d]) (h1:zav a.data.toList = true) (h2:zav c.data.toList = true) (h4:okEn ⟨numS a.data.toList,b,numS c.data.toList⟩ = true) (hd:dayR r.list <= numS a.data.toList)
  (ht:zbc (zbf r.stamp (zau ⟨numS a.data.toList,b,numS c.data.toList⟩)) ⟨numS a.data.toList,b,numS c.data.toList⟩=line++⟨#[10]⟩):
  zbz r line=some ⟨r.list++ [⟨numS a.data.toList,b,numS c.data.toList⟩],zbf r.stamp (zau ⟨numS a.data.toList,b,numS c.data.toList⟩),r.at_+line.size+1⟩:=by
 have hb:=zdt r.stamp (zau ⟨numS a.data.toList,b,numS c.data.toList⟩);obtain⟨h5,h6⟩:=(zl8 h h1 h2 hb.1 hb.2).1 ht;have hl:zbt line=some (⟨numS a.data.toList,b,numS c.data.toList⟩,numS d.data.toList):=by rw[zbT h,zf9 h1 h2 h5 h4]
 have:=zew (r:=r) hl hd h6.symm;rw[this,h6]
theorem zfr{r:LogR}{line a b c d:ByteArray}(h:zah 32 line=[a,b,c,d])(hw:zcz a b c d=none):zbz r line=none:=zd4 (by rw[zbT h,hw])
theorem zoH{r:LogR}{line:ByteArray}(h:(zah 32 line).length≠4):zbz r line=none:=zd4 (ziN h)
theorem zmS{s:ByteArray}{j k:Nat}(hj:j<=k)(hk:k<s.size)(hc:s[k]=10):s.extract j (k+1)=s.extract j k++⟨#[10]⟩:=by
 apply zdn;have hl:=za8 s;rw[zcB,zdZ,zdZ,show k+1-j=(k-j)+1 by omega,List.take_succ_eq_append_getElem (by rw[List.length_drop];omega)]
 congr 1
 have:=zcK s k hk;rw[List.getElem?_eq_getElem (by omega)] at this;injection this with this;rw[List.getElem_drop];have e:j+(k-j)=k:=by omega
 simp only[e,this,hc]
end
section
open Go.RowKit Go.Proofs.Tryz
theorem zeY (A:Option Addr) (n c B:Nat) (l:List Int) (lo hi:Int) (w:World) (h:zad w B 1 A n (ints l)) (hB:B <= w.heap.size) (hn:n <= 1048576) :
  Calls prog 147 #[.slice A n c,.int .i64 lo,.int .i64 hi] w fun e w'=>e= .returned (.bool (!l.all fun x=>inR x lo hi))/\Below w.heap.size w w':=by
 obtain⟨W,hW,hz,k0,k1,hb⟩:=zcW w #[.int .i64 lo] #[.int .i64 hi] 2 2;have HW:=hid hW;have HB:=hid hb;have c1:=k0.cellAt 0 (by simp);have c2:=k1.cellAt 0 (by simp);simp only[List.getElem_toArray,List.getElem_cons_zero] at c1 c2;clear hW hz k0 k1 hb;go_enter func147,ntmps147
 go_wp2_with fail
 rw[<-HW.out];refine(zi9 A n c B l lo hi _ _ W (h.on hB HB.out) hn c1 c2).mono ?_;rintro e w1 ⟨rfl,rfl⟩;go_wp2;go_ret;exact⟨rfl,HB.out⟩
theorem zgD (A:Option Addr) (n c B:Nat) (l:List Int) (w:World) (h:zad w B 1 A n (ints l)) (hB:B <= w.heap.size) (hn:n <= 1048576) :
  Calls prog 83 #[.slice A n c] w fun e w'=>e= .returned (.bool (zaK l))/\Below w.heap.size w w':=by
 have HL:=hid (zai h);go_enter func83,ntmps83
 go_wp2_with fail
 refine(zaG _ _ _ _).mono ?_;rintro e w1 ⟨rfl,rfl⟩;rcases e1:inR n 1 24 with _|_
 ·have HO:=hid (show(zaK l)=false by simp only[zaK,zaN,HL.out,e1,Bool.false_and]);go_wp2;go_ret;exact⟨zae HO.out.symm,Below.refl _ _⟩
 have HO:=hid (show(zaK l)=l.all (fun x=>inR x 1 (1000)) by simp only[zaK,zaN,HL.out,e1,Bool.true_and])
 go_wp2_with fail
 refine(zeY A n c B l 1 (1000) w h hB hn).mono ?_;rintro e w1 ⟨rfl,b1⟩;go_wp2;go_ret;exact⟨zae (by rw[HO.out];try simp),b1⟩
theorem zhG (P:Option Addr) (m d:Nat) (ts:List Int) (hm:m <= 1048576) (hts:ts.length = m) (A:Option Addr) (n c B:Nat) (l:List Int) (w:World) (h:zad w B 1 A n (ints l)) (hB:B <= w.heap.size) (hn:n <= 1048576) :
  Calls prog 135 #[.slice P m d,.slice A n c] w fun e w'=>e= .returned (.bool (zaN ts l))/\Below w.heap.size w w':=by
 subst hts;have HL:=hid (zai h);go_enter func135,ntmps135
 go_wp2_with fail
 refine(zaG _ _ _ _).mono ?_;rintro e w1 ⟨rfl,rfl⟩;rcases e1:inR n 1 12 with _|_
 ·have HO:=hid (show(zaN ts l)=false by simp only[zaK,zaN,HL.out,e1,Bool.false_and]);go_wp2;go_ret;exact⟨zae HO.out.symm,Below.refl _ _⟩
 have HO:=hid (show(zaN ts l)=l.all (fun x=>inR x 0 ((ts.length:Int)-1)) by simp only[zaK,zaN,HL.out,e1,Bool.true_and])
 go_wp2_with fail
 refine(zeY A n c B l 0 ((ts.length:Int)-1) w h hB hn).mono ?_;rintro e w1 ⟨rfl,b1⟩;go_wp2;go_ret;exact⟨zae (by rw[HO.out];try simp),b1⟩
theorem zll (P:Option Addr) (m d:Nat) (ts:List Int) (A:Option Addr) (n c B g:Nat) (r:Rn) (w:World) (h:zad w B 1 A n (ints r.way)) (hB:B <= w.heap.size) (hn:n <= 1048576) (hm:m <= 1048576) (hts:ts.length = m) (k0:w.cell? ⟨g,0,none⟩ = some (.slice P m d)) :
  Calls prog 134 #[.agg #[.slice A n c,.int .i64 r.st],.pointer (some ⟨g,0,none⟩)] w fun e w'=>e= .returned (.bool (!zby ts r))/\Below w.heap.size w w':=by
 obtain⟨W,hW,y0,hb⟩:∃W,W=w.alloc (.cells #[.slice A n c,.int .i64 r.st] 123)/\Blk W w.heap.size 123 #[.slice A n c,.int .i64 r.st]/\Below w.heap.size w W:=⟨_,rfl,Blk.new _ _ _,bal _⟩
 have HW:=hid hW;have HB:=hid hb;replace k0:=zaa hb k0;have c0:=y0.cellAt 0 (by simp);have HY:=hid y0;simp only[List.getElem_toArray,List.getElem_cons_zero] at c0;have HR:=hid (h.on hB hb);clear hW hb y0 h;go_enter func134,ntmps134
 go_upto_region 1 with fail
 rw[<-HW.out]
 go_wp2_with fail
 refine(zhG P m d ts hm hts A n c B r.way W HR.out (Nat.le_trans hB HB.out.size) hn).mono ?_;rintro e w1 ⟨rfl,b1⟩;have HB1:=hid (zac HB.out b1 lr);have c1:=(HY.out.on b1).cellAt 1 (by simp);simp only[ly] at c1;clear b1;rcases e1:zaN ts r.way with _|_
 ·have HO:=hid (show(!zby ts r)=true by simp[zby,e1]);go_wp2;go_ret;exact⟨zae HO.out.symm,HB1.out⟩
 have HO:=hid (show(!zby ts r)= !inR r.st 0 100000 by simp[zby,e1])
 go_wp2_with fail
 refine(zaG _ _ _ _).mono ?_;rintro e w2 ⟨rfl,rfl⟩;go_wp2;go_ret;exact⟨zae HO.out.symm,HB1.out⟩
end
section
open Go.RowKit Go.Lib Go.Proofs.Tryz
theorem Sl.setNe{w:World}{lo hi:Nat}{t:TypeId}{size:Nat}{A:Option Addr}{n c:Nat}{xs:List Value}(h:Sl w lo hi t size A n c xs){p:Addr}(hne:∀ad,A=some ad->ad.block≠p.block)(u:Value):Sl (w.setCell p u) lo hi t size A n c xs:=by
 refine⟨⟨h.1.1,?_⟩,h.2⟩;rcases h.1.2 with hn|⟨g,cap,cur,h',hb,hg,rest⟩
 ·exact .inl hn
 ·refine .inr ⟨g,cap,cur,h',hb,?_,rest⟩;injection h' with h1;rw[Below.heap_setCell w p u g (hne _ h1)];exact hg
theorem zrG {P:Program} {o:Oper} {a:Act} {Q:Exit -> Act -> World -> Prop} {K:Act -> World -> Prop} (s x:Operand) (t:TypeId)
  (ho:o.op= .call {callee:=.builtin .append,args:=#[s,x],argTypes:=#[t,t]})
  (e:TypeId) (zv:Value) (size bytes:Nat) (ht:P.underlying t=some (.slice e)) (hinfo:(P.info? e).map (fun i=>(i.zero,i.size,i.bytes))=some (some zv,size,bytes)) (hzs:zv.cells.size=size) (hsz:0<size) (hb:bytes<=1000)
  {lo hi:Nat}{wr:World}{A:Option Addr}{m c:Nat}{xs:List Value} (h:Sl wr lo hi e size A m c xs) (hlo:lo<=wr.heap.size) (hs:a.eval s= .slice A m c)
  (news:List Value) (hd:Nat) (hhd:hd=wr.heap.size) (hx:a.eval x= .slice (some ⟨hd,0,none⟩) 1 1) (hl:news.length=size) (h1:∀u∈news,u.oneCell'=true) (hm:m<100000000)
  (HK:∀A' c' w1,Sl w1 lo w1.heap.size e size A' (m+1) c' (xs++news)->Below lo wr w1->(∀g,g<wr.heap.size->(∀ad,A=some ad->ad.block≠g)->w1.heap[g]?=wr.heap[g]?)->(∀g,g<wr.heap.size->(∀ad,A=some ad->ad.block≠g)->∀ad,A'=some ad->ad.block≠g)->K (a.put o.dst (.slice A' (m+1) c')) w1):o.wp P a (wr.alloc (.cells news.toArray e)) K Q:=by
 subst hhd;obtain⟨i,hi',hz,hsize,hby⟩:=info_parts hinfo
 have hAb:∀ad,A=some ad->lo<=ad.block:=fun ad had=>by
  rcases h.form with ⟨h0,_⟩|⟨g,cur,hg,h2,_⟩
  ·rw[h0] at had;cases had
  ·rw[hg] at had;injection had with had;subst had;exact h2
 have hown:(wr.alloc (.cells news.toArray e)).ownsRow lo e size (.slice A m c) m xs:=h.1.alloc _
 obtain⟨v',w',hr,h2,h3,h4,h5⟩:=run_append_own_at (P:=P) (wr.alloc (.cells news.toArray e)) lo t o.type e i zv size bytes ht hi' hz hsize hby hzs hsz _ m xs hown ⟨wr.heap.size,0,none⟩ 1 1 news (by omega) (zi6 wr news e) h1 (by unfold maxLen;omega) (by
  calc (m+1)*bytes<=100000000*1000:=Nat.mul_le_mul (by omega) hb
   _<=140737488355328:=by decide) (by simp;omega)
 unfold Oper.wp execOp;simp only[ho,resolve,invoke,builtin,Sem.run_bind,Sem.run_pure,Result.andThen_ok,List.map_toArray,List.map_cons,List.map_nil,hs,hx,hr]
 have hfr:∀g,g<wr.heap.size->(∀ad,A=some ad->ad.block≠g)->w'.heap[g]?=wr.heap[g]?:=fun k hk hne=>by
  rw[h3.block k (by simp;omega) (fun ee=>?_),Below.heap_alloc wr _ k (by omega)]
  cases A with
  |none=>simp[Value.ownBlock] at ee
  |some ad=>
   simp[Value.ownBlock] at ee;exact hne ad rfl ee.symm
 have hbel:Below lo wr w':=by
  refine⟨h3.os,h3.tape,h3.output,?_,fun k hk=>hfr k (by omega) (fun ad had=>by have:=hAb ad had;omega)⟩;have:=h3.size;simp at this;omega
 rcases h2.2 with ⟨hv,hn⟩|⟨g,cap,cur,hv,hb',hgg,hrest'⟩
 ·omega
 ·subst hv;refine HK _ _ _ ⟨h2,fun ad had=>by injection had with had;subst had;exact(Array.getElem?_eq_some_iff.1 hgg).1⟩ hbel hfr (fun g' hg' hne ad had=>?_);injection had with had;subst had;rcases h5 with h5|h5
  ·cases A with
   |none=>simp[Value.ownBlock] at h5
   |some ad=>
    simp[Value.ownBlock] at h5;have:=hne ad rfl;simp;omega
  ·simp[Value.ownBlock] at h5;simp;omega
theorem zg1 {P:Program} {ops:Array Oper} {o:Oper} {a:Act} {Q:Exit -> Act -> World -> Prop} {K:Act -> World -> Prop} {E:Prop} (hgd:o.guard = none) (s x:Operand) (t:TypeId)
  (ho:o.op= .call {callee:=.builtin .append,args:=#[s,x],argTypes:=#[t,t]})
  (e:TypeId) (zv:Value) (size bytes:Nat) (ht:P.underlying t=some (.slice e)) (hinfo:(P.info? e).map (fun i=>(i.zero,i.size,i.bytes))=some (some zv,size,bytes)) (hzs:zv.cells.size=size) (hsz:0<size) (hb:bytes<=1000)
  {lo hi:Nat}{wr:World}{A:Option Addr}{m c:Nat}{xs:List Value} (h:Sl wr lo hi e size A m c xs) (hlo:lo<=wr.heap.size) (hs:a.eval s= .slice A m c)
  (news:List Value) (hd:Nat) (hhd:hd=wr.heap.size) (hx:a.eval x= .slice (some ⟨hd,0,none⟩) 1 1) (hl:news.length=size) (h1:∀u∈news,u.oneCell'=true) (hm:m<100000000)
  (HK:∀A' c' w1,Sl w1 lo w1.heap.size e size A' (m+1) c' (xs++news)->Below lo wr w1->(∀g,g<wr.heap.size->(∀ad,A=some ad->ad.block≠g)->w1.heap[g]?=wr.heap[g]?)->(∀g,g<wr.heap.size->(∀ad,A=some ad->ad.block≠g)->∀ad,A'=some ad->ad.block≠g)->K (a.put o.dst (.slice A' (m+1) c')) w1):
  if Region.wanted o (yielded ops a.tmps)=true then Oper.wp P o a (wr.alloc (.cells news.toArray e)) K Q else E:=by
 have hw:Region.wanted o (yielded ops a.tmps)=true:=by simp[Region.wanted,hgd]
 rw[if_pos hw];exact zrG s x t ho e zv size bytes ht hinfo hzs hsz hb h hlo hs news hd hhd hx hl h1 hm HK
theorem zgv (st:Int) (x:En) (b:Nat) (w:World) (hx:okEn x = true) (h0:0 <= st) (h1:st <= 65518) (q0:w.cell? ⟨b,0,none⟩ = some (.int .i64 x.day)) (q1:w.cell? ⟨b,1,none⟩ = some (.string x.what)) (q2:w.cell? ⟨b,2,none⟩ = some (.int .i64 x.val)) :
  Calls prog 232 #[.int .i64 st,.pointer (some ⟨b,0,none⟩)] w fun e w'=>e= .returned (.string (zbc st x))/\Below w.heap.size w w':=by
 have hws:=zdN hx;have hgd:=zfk hx;have hsm:=zhb hx;have hs2:(zab (itoa st)).size<=20:=by rw[zaj];exact zaz (by omega) (by omega)
 have n1:¬(9223372036854775807<(zau x).size+1):=by omega
 have n2:¬(9223372036854775807<(zau x).size+1+(zab (itoa st)).size):=by omega
 have n3:¬(9223372036854775807<(zau x).size+1+(zab (itoa st)).size+1):=by omega
 go_enter func232,ntmps232
 go_wp2_with fail
 refine(zfL x b _ hgd hsm q0 q1 q2).mono ?_;rintro e w1 ⟨rfl,b1⟩;have HB1:=hid b1;clear b1
 go_wp2_with fail
 refine(zbj st _ (by omega) (by omega)).mono ?_;rintro e w2 ⟨rfl,b2⟩;have HF:=hid (zac HB1.out b2 lr);clear b2;go_wp2;go_ret;exact⟨rfl,HF.out⟩
def LRec(lo g:Nat)(s:ByteArray)(w:World)(r:LogR):Prop:=
 ∃(A:Option Addr) (n d:Nat),Blk w g 213 #[.string s,.int .i64 (r.at_:Int),.int .i64 r.stamp,.slice A n d]/\Sl w lo w.heap.size 145 3 A n d (ens r.list)/\(∀ad,A=some ad->ad.block≠g)/\lo<=g
theorem LRec.on{lo g:Nat}{s:ByteArray}{w w':World}{r:LogR}(h:LRec lo g s w r)(hb:Below w.heap.size w w'):LRec lo g s w' r:=by
 obtain⟨A,n,d,h1,h2,h3,h4⟩:=h;exact⟨A,n,d,h1.on hb,(h2.on hb).low,h3,h4⟩
theorem zeW (lo g:Nat) (s:ByteArray) (r:LogR) (w:World) (h:LRec lo g s w r) (hok:r.ok) (hn:r.at_ <= 1048576) :
  Calls prog 231 #[.pointer (some ⟨g,0,none⟩)] w fun e w'=>e= .returned (.int .i64 (dayR r.list))/\∃m,w'=w.drewN m:=by
 obtain⟨A,n,d,hb,hs,hne,hlo⟩:=h;have q3:w.cell? ⟨g,3,none⟩=some (.slice A n d):=hb.cellAt 3 (by simp);have hln:r.list.length=n:=by have:=hs.len;rw[zcQ] at this;omega
 have hn1:n<=1048576:=by have:=hok.len;omega
 by_cases h0:n=0
 ·have HO:=hid (show dayR r.list=0 by rw[List.length_eq_zero_iff.1 (hln.trans h0),zjf]);clear hb hs hne;go_enter func231,ntmps231;go_wp2;go_ret;exact⟨za3 HO.out.symm,0,rfl⟩
 ·obtain⟨j,rfl⟩:∃j,n=j+1:=⟨n-1,by omega⟩
  obtain⟨y,lb,loff,hy,rfl,hlb,c0,_,_⟩:=zgN (k:=j) (hs.reads lr) (by omega);have HO:=hid (show dayR r.list=y.day from zh7 (by rw[hln];exact hy));have hj0:(0:Int)<=j:=by omega
  have hj1:(j:Int)<(j:Int)+1:=by omega
  have hj2:((j:Int)+1==0)=false:=by rw[beq_eq_false_iff_ne];omega
  have hjw:IntKind.i64.wrap (j:Int)=j:=by
   unfold IntKind.wrap;simp[IntKind.bits,IntKind.signed];omega
  clear hb hs hne hy h0;go_enter func231,ntmps231
  go_wp2_with fail
  refine ez (fun W=>W.cell? ⟨g,3,none⟩=some (.slice (some ⟨lb,loff,none⟩) (j+1) d)/\W.cell? ⟨lb,loff+j*3,none⟩=some (.int .i64 y.day)) ?_ fun hHeld=>?_
  ·exact⟨q3,c0⟩
  refine dq 0 rfl (h:=dq 1 rfl (h:=dq 2 rfl (h:=dq 3 rfl (hy:=by intro w hSw;(try dsimp only at hSw);go_split_ands;go_simp;try with_reducible rfl) (h:=dq 4 rfl (h:=dq 5 rfl (h:=dq 6 rfl (h:=dq 7 rfl (hy:=by intro w hSw;(try dsimp only at hSw);go_split_ands;go_simp;try with_reducible rfl) (h:=?_))))))));refine dq 8 rfl (h:=dq 9 rfl (h:=dq 10 rfl (h:=dq 11 rfl (h:=dq 12 rfl (hy:=by intro w hSw;(try dsimp only at hSw);go_split_ands;go_simp;try with_reducible rfl) (h:=dq 13 rfl (h:=?_))))));refine dn ?_;go_wp2;go_ret;exact⟨za3 HO.out.symm,1,rfl⟩
end
section
open Go.RowKit Go.Proofs.Tryz
theorem zjP (P:Option Addr) (m d:Nat) (ts:List Int) (A:Option Addr) (n c B g:Nat) (rs:List Rn) (w:World) (h:zaC w B A n rs) (hB:B <= w.heap.size) (hn:n <= 1048576) (hsm:zbM rs) (hm:m <= 1048576) (hts:ts.length = m) (k0:w.cell? ⟨g,0,none⟩ = some (.slice P m d)) :
  Calls prog 194 #[.slice A n c,.func (.func 134) #[] #[.pointer (some ⟨g,0,none⟩)]] w fun e w'=>e= .returned (.int .i64 (idxI (fun x=>!zby ts x) rs))/\Below w.heap.size w w':=by
 have hl:=hid h.len;have HSM:=hid hsm;clear hsm;go_enter func194,ntmps194;go_wp2
 go_loopw [8] (fun i wr=>∃k:Nat,k<=n/\i= .int .i64 k/\za0 (zby ts) rs k/\Below w.heap.size w wr) (fun i _=>n-(RowKit.intOf i).toNat)
 case atStart=>exact⟨0,Nat.zero_le _,rfl,za0.zero _ _,Below.refl _ _⟩
 case round=>
  obtain⟨k,hk,rfl,hall,hbel⟩:=hrel;have HA:=hid hall;have HB:=hid hbel;have z0:=zaa hbel k0;clear hall;by_cases hlt:k<n
  ·obtain⟨x,b,off,P',m',d',he,rfl,hb,c0,c1,hr,hm'⟩:=zcn (h.on hB hbel) hlt;have hm2:m'<=1048576:=by have:=HSM.out k x he;have:=zai hr;omega
   have HE:=hid he;have hBw:=Nat.le_trans hB hbel.size;have HR:=hid hr;clear he hbel h hr
   go_wp2_with fail
   refine(zll P m d ts P' m' d' B g x _ HR.out hBw hm2 hm hts z0).mono ?_;rintro e w1 ⟨rfl,b1⟩;have HF:=hid (zac HB.out b1 lr);clear b1 c0 c1 z0;rcases ho:zby ts x with _|_
   ·have HO:=hid (show idxI (fun x=>!zby ts x) rs=k from zcT HE.out (by simp[ho]) (HA.out.imp fun x hx=>by simp[hx]));go_wp2;go_ret;exact⟨za3 HO.out.symm,HF.out⟩
   ·have HO:=hid ho;go_wp2
    go_roundw
    case rel=>exact⟨k+1,by omega,by go_num,HA.out.step HE.out HO.out,HF.out⟩
    case measure=>simp[RowKit.intOf];omega
  ·obtain rfl:k=n:=by omega
   have HO:=hid (show idxI (fun x=>!zby ts x) rs=-1 from zdo (HA.out.imp fun x hx=>by simp[hx]) hl.out);go_wp2;go_ret;exact⟨za3 HO.out.symm,HB.out⟩
theorem zh1 (P:Option Addr) (m d:Nat) (ts:List Int) (A:Option Addr) (n c B g:Nat) (rs:List Rn) (w:World) (h:zaC w B A n rs) (hB:B <= w.heap.size) (hn:n <= 1048576) (hsm:zbM rs) (hm:m <= 1048576) (hts:ts.length = m) (k0:w.cell? ⟨g,0,none⟩ = some (.slice P m d)) :
  Calls prog 133 #[.slice A n c,.func (.func 134) #[] #[.pointer (some ⟨g,0,none⟩)]] w fun e w'=>e= .returned (.bool (!rs.all (zby ts)))/\Below w.heap.size w w':=by
 have HO:=hid (show decide (0<=idxI (fun x=>!zby ts x) rs)= !rs.all (zby ts) from by rw[zc5];simp[List.any_eq_not_all_not]);go_enter func133,ntmps133
 go_wp2_with fail
 refine(zjP P m d ts A n c B g rs w h hB hn hsm hm hts k0).mono ?_;rintro e w1 ⟨rfl,b1⟩;go_wp2;go_ret;exact⟨zae HO.out,b1⟩
theorem zec (P:Option Addr) (m d:Nat) (ts:List Int) (A:Option Addr) (n c B:Nat) (rs:List Rn) (w:World) (ht:zad w B 1 P m (ints ts)) (h:zaC w B A n rs) (hB:B <= w.heap.size) (hm:m <= 1048576) (hn:n <= 1048576) (hsm:zbM rs) :
  Calls prog 71 #[.slice P m d,.slice A n c] w fun e w'=>e= .returned (.bool (zap ts rs))/\Below w.heap.size w w':=by
 have HT:=hid (zai ht);have HL:=hid h.len;obtain⟨W,hW,y0,hb⟩:∃W,W=w.alloc (.cells #[.slice P m d] 29)/\Blk W w.heap.size 29 #[.slice P m d]/\Below w.heap.size w W:=⟨_,rfl,Blk.new _ _ _,bal _⟩
 have HW:=hid hW;have HB:=hid hb;have HY:=hid y0;have HX:=hid (ht.on hB hb);have HR:=hid (h.on hB hb);clear hW hb y0 ht h;go_enter func71,ntmps71
 go_wp2_with fail
 rw[<-HW.out];refine(zgD P m d B ts W HX.out (Nat.le_trans hB HB.out.size) hm).mono ?_;rintro e w1 ⟨rfl,b1⟩;have HB1:=hid (zac HB.out b1 lr);have c0:=(HY.out.on b1).cellAt 0 (by simp);have HR1:=hid (HR.out.on (Nat.le_trans hB HB.out.size) b1);simp only[List.getElem_toArray,List.getElem_cons_zero] at c0;clear b1;rcases e1:zaK ts with _|_
 ·have HO:=hid (show zap ts rs=false by simp[zap,e1]);go_wp2;go_ret;exact⟨zae HO.out.symm,HB1.out⟩
 by_cases h12:n<=12
 ·have HO:=hid (show zap ts rs=rs.all (zby ts) by simp[zap,e1,HL.out,h12])
  go_wp2_with fail
  refine(zh1 P m d ts A n c B w.heap.size rs w1 HR1.out (Nat.le_trans hB HB1.out.size) hn hsm hm HT.out c0).mono ?_;rintro e w2 ⟨rfl,b2⟩;go_wp2;go_ret;exact⟨zae (by rw[HO.out];try simp),zac HB1.out b2 lr⟩
 ·have HO:=hid (show zap ts rs=false by simp[zap,e1,HL.out,h12]);go_wp2;go_ret;exact⟨zae HO.out.symm,HB1.out⟩
end
section
open Go.RowKit Go.Lib Go.Proofs.Tryz
theorem zkY (x:En) (b o:Nat) (w:World) (hx:x.good) (hsm:x.small) (q0:w.cell? ⟨b,o,none⟩ = some (.int .i64 x.day)) (q1:w.cell? ⟨b,o + 1,none⟩ = some (.string x.what)) (q2:w.cell? ⟨b,o + 2,none⟩ = some (.int .i64 x.val)) :
  Calls prog 176 #[.pointer (some ⟨b,o,none⟩)] w fun e w'=>e= .returned (.string (zau x))/\Below w.heap.size w w':=by
 have hwz:=hsm;unfold En.small at hwz;have hs1:(zab (itoa x.day)).size<=20:=by rw[zaj];exact zaz hx.1.1 hx.1.2
 have hs2:(zab (itoa x.val)).size<=20:=by rw[zaj];exact zaz hx.2.2.1 hx.2.2.2
 have n1:¬(9223372036854775807<(zab (itoa x.day)).size+1):=by omega
 have n2:¬(9223372036854775807<(zab (itoa x.day)).size+1+x.what.size):=by omega
 have n3:¬(9223372036854775807<(zab (itoa x.day)).size+1+x.what.size+1):=by omega
 have n4:¬(9223372036854775807<(zab (itoa x.day)).size+1+x.what.size+1+(zab (itoa x.val)).size):=by omega
 go_enter func176,ntmps176
 go_wp2_with fail
 go_region_held3 (fun W=>Below w.heap.size w W∧W.cell? ⟨b,o,none⟩=some (.int .i64 x.day)∧W.cell? ⟨b,o+1,none⟩=some (.string x.what)∧W.cell? ⟨b,o+2,none⟩=some (.int .i64 x.val)) (first|exact⟨(Below.refl _ _).drew,q0,q1,q2⟩|(go_split_ands;exact⟨zac (by assumption) hb1 lr,zaa hb1 (by assumption),zaa hb1 (by assumption),zaa hb1 (by assumption)⟩)|fail "keep") (first|(go_at_call 173;refine(zbj _ _ (by first|exact hx.1.1|exact hx.2.2.1) (by first|exact hx.1.2|exact hx.2.2.2)).mono ?_;rintro e w2 ⟨rfl,hb1⟩)|fail "arm")
 rename_i hS;have HF:=hid hS.1;go_wp2;go_ret;exact⟨rfl,HF.out⟩
end
section
open Go.RowKit Go.Lib
theorem zoG{c:UInt8}{s:ByteArray}{l:List (List UInt8)}(h:zao c s.data.toList=l):zah c s=l.map zab:=by rw[zah,h]
theorem znx{c:UInt8}(h:zbL c=true):c≠32/\c≠64:=by
 constructor
 ·rintro rfl;revert h;decide
 ·rintro rfl;revert h;decide
theorem zqY{s:ByteArray}(h:zaZ s=true):(32:UInt8)∉s.data.toList/\(64:UInt8)∉s.data.toList:=by
 simp only[zaZ,Bool.and_eq_true] at h;have h2:=List.all_eq_true.1 h.2;exact⟨fun hm=>(znx (h2 _ hm)).1 rfl,fun hm=>(znx (h2 _ hm)).2 rfl⟩
def zbS(st:Int)(e:En):List UInt8:=itoa e.day++32::(e.what.data.toList++32::(itoa e.val++32::itoa st))
theorem zpP(st:Int)(e:En):(zbc st e).data.toList=zbS st e++ [10]:=by
 rw[zke];simp[zbS]
theorem zdU(n:Int):(32:UInt8)∉itoa n/\(10:UInt8)∉itoa n:=by
 have h:∀u,(32:UInt8)∉decDigits u/\(10:UInt8)∉decDigits u:=fun u=>by
  have h2:=List.all_eq_true.1 (zcu u);refine⟨fun hm=>?_,fun hm=>?_⟩
  ·have:=h2 _ hm;revert this;decide
  ·have:=h2 _ hm;revert this;decide
 unfold itoa
 split
 ·refine⟨fun hm=>?_,fun hm=>?_⟩
  ·rcases List.mem_cons.1 hm with hm|hm
   ·revert hm;decide
   ·exact(h _).1 hm
  ·rcases List.mem_cons.1 hm with hm|hm
   ·revert hm;decide
   ·exact(h _).2 hm
 ·exact h _
theorem zo7{s:ByteArray}(h:zaZ s=true):(10:UInt8)∉s.data.toList:=by
 simp only[zaZ,Bool.and_eq_true] at h;intro hm;have:=List.all_eq_true.1 h.2 _ hm
 revert this;decide
theorem zqz{st:Int}{e:En}(h:okEn e=true):(10:UInt8)∉zbS st e:=by
 have h1:=(zdU e.day).2;have h2:=(zdU e.val).2;have h3:=(zdU st).2;have h4:=zo7 (zdX h).2.2.1;simp[zbS,h1,h2,h3,h4]
theorem zq0{st:Int}{e:En}(h:okEn e=true)(h0:0<=st)(h1:st<=65518):zbt (zab (zbS st e))=some (e,st):=by
 have hb:=zdX h;have c1:=(zdU e.day).1;have c2:=(zdU e.val).1;have c3:=(zdU st).1;have c4:=(zqY hb.2.2.1).1
 have hs:zah 32 (zab (zbS st e))=[zab (itoa e.day),e.what,zab (itoa e.val),zab (itoa st)]:=by
  have:=zoG (c:=32) (s:=zab (zbS st e)) (l:=[itoa e.day,e.what.data.toList,itoa e.val,itoa st]) (by
   rw[zaf,zbS,zba c1,zba c4,zba c2,zcg c3])
  rw[this];simp[zaM]
 have d1:=ze3 (n:=e.day) (by omega) (by omega);have d2:=ze3 (n:=e.val) (by omega) (by omega);have d3:=ze3 (n:=st) (by omega) (by omega);have he:(⟨numS (itoa e.day),e.what,numS (itoa e.val)⟩:En)=e:=by rw[d1.2,d2.2]
 rw[zbT hs,zf9 (by rw[zaf];exact d1.1) (by rw[zaf];exact d2.1) (by rw[zaf];exact d3.1) (by simp only[zaf];rw[he];exact h)];simp only[zaf];rw[he,d3.2]
end
end Go.Proofs.YtjalgpioklcbfaaGreatDoor
