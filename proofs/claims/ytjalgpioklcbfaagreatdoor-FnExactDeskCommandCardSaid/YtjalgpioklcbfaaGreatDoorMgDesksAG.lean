/- Steps of the proof. -/
import Derived.Test.YtjalgpioklcbfaaGreatDoorMgDesksAF
set_option linter.unusedVariables false
set_option linter.unusedSimpArgs false
set_option maxHeartbeats 4000000
namespace Go.Proofs.YtjalgpioklcbfaaGreatDoor
section
open Go.RowKit
structure Sp where
 tube:Int
 enter:Int
 leave:Int
def at0(l:List Int)(i:Int):Int:=l.getD i.toNat 0
def zay(ts:List Int):List Int->Int->List Sp
 | [],_=>[]
 |t::r,a=>⟨t,a,a+at0 ts t⟩::zay ts r (a+at0 ts t)
def zbn(s o:Sp):Bool:=s.tube==o.tube&&(decide (s.enter<o.leave)&&decide (o.enter<s.leave))
theorem zd0{s o:Sp}:zbn s o=true↔s.tube=o.tube/\s.enter<o.leave/\o.enter<s.leave:=by simp[zbn]
def zaE(ts:List Int):List Rn->List Sp
 | []=>[]
 |r::rs=>zay ts r.way r.st++zaE ts rs
def zcJ(s:Sp):List Sp->Int->Int
 | [],x=>x
 |o::r,x=>zcJ s r (if zbn s o then max x (o.leave-s.enter) else x)
def zcX(tk:List Sp):List Sp->Int->Int
 | [],x=>x
 |s::r,x=>zcX tk r (zcJ s tk x)
def fits(ts:List Int)(rs:List Rn)(way:List Int)(a:Int):Bool:=(zay ts way a).all fun s=>(zaE ts rs).all fun o=>!zbn s o
def IsE(p:Int->Bool)(a x:Int):Prop:=a<=x/\p x=true/\∀y,a<=y->y<x->p y=false
theorem IsE.uniq{p:Int->Bool}{a x y:Int}(h:IsE p a x)(k:IsE p a y):x=y:=by
 obtain⟨h1,h2,h3⟩:=h;obtain⟨k1,k2,k3⟩:=k;by_cases hlt:x<y
 ·have:=k3 x h1 hlt;rw[h2] at this;cases this
 ·by_cases hgt:y<x
  ·have:=h3 y k1 hgt;rw[k2] at this;cases this
  ·omega
theorem zjW{p:Int->Bool}:∀(n:Nat) (a:Int),p (a+n)=true->∃x,IsE p a x/\x<=a+n
 |0,a,h=>⟨a,⟨Int.le_refl _,by simpa using h,fun y h1 h2=>by omega⟩,by omega⟩
 |n+1,a,h=>by
  rcases ha:p a with _|_
  ·obtain⟨x,⟨h1,h2,h3⟩,hx⟩:=zjW n (a+1) (by rw[show a+1+(n:Int)=a+((n+1:Nat):Int) by omega];exact h)
   exact⟨x,⟨by omega,h2,fun y k1 k2=>by
    by_cases hy:y=a
    ·rw[hy];exact ha
    ·exact h3 y (by omega) k2⟩,by omega⟩
  ·exact⟨a,⟨Int.le_refl _,ha,fun y h1 h2=>by omega⟩,by omega⟩
theorem zhk(s:Sp):∀(l:List Sp) (x:Int),x<=zcJ s l x
 | [],x=>Int.le_refl _
 |o::r,x=>by
  unfold zcJ
  split
  ·exact Int.le_trans (Int.le_max_left _ _) (zhk s r _)
  ·exact zhk s r _
theorem zj6(s:Sp):∀(l:List Sp) (x:Int),zcJ s l x=x\/∃o∈l,zbn s o=true/\zcJ s l x=o.leave-s.enter
 | [],x=>.inl rfl
 |o::r,x=>by
  unfold zcJ
  split
  ·rename_i hm;rcases zj6 s r (max x (o.leave-s.enter)) with h|⟨q,hq,h1,h2⟩
   ·rw[h];by_cases hle:o.leave-s.enter<=x
    ·exact .inl (Int.max_eq_left hle)
    ·exact .inr ⟨o,List.mem_cons_self,hm,Int.max_eq_right (by omega)⟩
   ·exact .inr ⟨q,List.mem_cons_of_mem _ hq,h1,h2⟩
  ·rcases zj6 s r x with h|⟨q,hq,h1,h2⟩
   ·exact .inl h
   ·exact .inr ⟨q,List.mem_cons_of_mem _ hq,h1,h2⟩
theorem zkG(s:Sp):∀(l:List Sp) (x:Int) (o:Sp),o∈l->zbn s o=true->o.leave-s.enter<=zcJ s l x
 |q::r,x,o,ho,hm=>by
  unfold zcJ;rcases List.mem_cons.1 ho with rfl|ho
  ·rw[if_pos hm];exact Int.le_trans (Int.le_max_right _ _) (zhk s r _)
  ·exact zkG s r _ o ho hm
theorem znZ(tk:List Sp):∀(l:List Sp) (x:Int),x<=zcX tk l x
 | [],x=>Int.le_refl _
 |s::r,x=>Int.le_trans (zhk s tk x) (znZ tk r _)
theorem zoa(tk:List Sp):∀(l:List Sp) (x:Int),zcX tk l x=x\/∃s∈l,∃o∈tk,zbn s o=true/\zcX tk l x=o.leave-s.enter
 | [],x=>.inl rfl
 |s::r,x=>by
  unfold zcX;rcases zoa tk r (zcJ s tk x) with h|⟨q,hq,o,ho,h1,h2⟩
  ·rcases zj6 s tk x with k|⟨o,ho,k1,k2⟩
   ·exact .inl (h.trans k)
   ·exact .inr ⟨s,List.mem_cons_self,o,ho,k1,h.trans k2⟩
  ·exact .inr ⟨q,List.mem_cons_of_mem _ hq,o,ho,h1,h2⟩
theorem zkF(tk:List Sp):∀(l:List Sp) (x:Int) (s o:Sp),s∈l->o∈tk->zbn s o=true->o.leave-s.enter<=zcX tk l x
 |q::r,x,s,o,hs,ho,hm=>by
  unfold zcX;rcases List.mem_cons.1 hs with rfl|hs
  ·exact Int.le_trans (zkG s tk x o ho hm) (znZ tk r _)
  ·exact zkF tk r _ s o hs ho hm
theorem zg0(ts:List Int):∀(way:List Int) (a d:Int) (s:Sp),s∈zay ts way a->(⟨s.tube,s.enter+d,s.leave+d⟩:Sp)∈zay ts way (a+d)
 |t::r,a,d,s,h=>by
  unfold zay at h⊢;rcases List.mem_cons.1 h with rfl|h
  ·exact List.mem_cons.2 (.inl (by simp;omega))
  ·have:=zg0 ts r _ d s h;rw[show a+at0 ts t+d=a+d+at0 ts t by omega] at this;exact List.mem_cons_of_mem _ this
theorem zjH{ts:List Int}{rs:List Rn}{way:List Int}{a:Int}{s o:Sp}(hs:s∈zay ts way a)(ho:o∈zaE ts rs)(hm:zbn s o=true):fits ts rs way a=false:=by
 rcases h:fits ts rs way a with _|_
 ·rfl
 ·have:=List.all_eq_true.1 (List.all_eq_true.1 h s hs) o ho;rw[hm] at this;cases this
theorem zgQ{ts:List Int}{rs:List Rn}{way:List Int}{a:Int}(h:fits ts rs way a=false):∃s∈zay ts way a,∃o∈zaE ts rs,zbn s o=true:=by
 obtain⟨s,hs,h1⟩:=List.all_eq_false.1 h;rcases h2:(zaE ts rs).all (fun o=>!zbn s o) with _|_
 ·obtain⟨o,ho,h3⟩:=List.all_eq_false.1 h2;exact⟨s,hs,o,ho,by simpa using h3⟩
 ·exact absurd h2 h1
theorem zrB{ts:List Int}{rs:List Rn}{way:List Int}{a:Int}(h:zcX (zaE ts rs) (zay ts way a) 0=0):fits ts rs way a=true:=by
 rcases hf:fits ts rs way a with _|_
 ·obtain⟨s,hs,o,ho,hm⟩:=zgQ hf;have:=zkF _ _ 0 s o hs ho hm;have:=(zd0.1 hm)
  omega
 ·rfl
theorem zrC{ts:List Int}{rs:List Rn}{way:List Int}{a:Int}(h:zcX (zaE ts rs) (zay ts way a) 0≠0):∀y,a<=y->y<a+zcX (zaE ts rs) (zay ts way a) 0->fits ts rs way y=false:=by
 intro y h1 h2;rcases zoa (zaE ts rs) (zay ts way a) 0 with k|⟨s,hs,o,ho,hm,hw⟩
 ·exact absurd k h
 ·have hm':=zd0.1 hm;have:=zg0 ts way a (y-a) s hs;rw[show a+(y-a)=y by omega] at this;exact zjH this ho (zd0.2 ⟨hm'.1,by show s.enter+(y-a)<o.leave;omega,by show o.enter<s.leave+(y-a);omega⟩)
theorem zjA{ts:List Int}(h:zaK ts=true)(t:Int)(h0:0<=t)(h1:t<=(ts.length:Int)-1):1<=at0 ts t/\at0 ts t<=1000:=by
 unfold zaK at h;simp only[Bool.and_eq_true,List.all_eq_true] at h;have hl:t.toNat<ts.length:=by omega
 have:=zam.1 (h.2 ts[t.toNat] (List.getElem_mem hl));have e:at0 ts t=ts[t.toNat]:=by unfold at0;rw[List.getD_eq_getElem?_getD,List.getElem?_eq_getElem hl];rfl
 rw[e];exact this
theorem zfY{ts:List Int}(h:zaK ts=true):∀(way:List Int) (a:Int),(∀t∈way,0<=t/\t<=(ts.length:Int)-1)->∀s∈zay ts way a,a<=s.enter/\s.enter<s.leave/\s.leave<=a+1000*way.length/\s.leave<=s.enter+1000
 |t::r,a,hw,s,hs=>by
  unfold zay at hs;have hb:=zjA h t (hw t List.mem_cons_self).1 (hw t List.mem_cons_self).2;rcases List.mem_cons.1 hs with rfl|hs
  ·simp only[List.length_cons];omega
  ·have:=zfY h r _ (fun t ht=>hw t (List.mem_cons_of_mem _ ht)) s hs;simp only[List.length_cons];omega
theorem zaJ{ts way:List Int}(h:zaN ts way=true):way.length<=12/\1<=way.length/\∀t∈way,0<=t/\t<=(ts.length:Int)-1:=by
 unfold zaN at h;simp only[Bool.and_eq_true,List.all_eq_true] at h;have:=zam.1 h.1;exact⟨by omega,by omega,fun t ht=>zam.1 (h.2 t ht)⟩
theorem ziq{ts:List Int}:∀{rs:List Rn}{o:Sp},o∈zaE ts rs->∃r∈rs,o∈zay ts r.way r.st
 |r::rs,o,h=>by
  unfold zaE at h;rcases List.mem_append.1 h with h|h
  ·exact⟨r,List.mem_cons_self,h⟩
  ·obtain⟨q,hq,h⟩:=ziq h;exact⟨q,List.mem_cons_of_mem _ hq,h⟩
theorem zj1{ts:List Int}{rs:List Rn}(h:zap ts rs=true){o:Sp}(ho:o∈zaE ts rs):0<=o.enter/\o.enter<o.leave/\o.leave<=112000:=by
 unfold zap at h;simp only[Bool.and_eq_true,List.all_eq_true] at h;obtain⟨r,hr,ho⟩:=ziq ho;have hk:=h.2.2 r hr;unfold zby at hk;simp only[Bool.and_eq_true] at hk;obtain⟨w1,w2,w3⟩:=zaJ hk.1;have:=zam.1 hk.2;have:=zfY h.1 r.way r.st w3 o ho;omega
theorem zaV{ts:List Int}{rs:List Rn}(h:zap ts rs=true):zaK ts=true:=by
 unfold zap at h;simp only[Bool.and_eq_true] at h;exact h.1
theorem zoX{ts:List Int}{rs:List Rn}{way:List Int}{a:Int}(h:zap ts rs=true)(hw:zaN ts way=true){s o:Sp}(hs:s∈zay ts way a)(ho:o∈zaE ts rs)(hm:zbn s o=true):a<112000/\a<=s.enter/\o.leave<=112000:=by
 have h1:=zj1 h ho;have h2:=zfY (zaV h) way a (zaJ hw).2.2 s hs;have:=zd0.1 hm;omega
theorem zoh{ts:List Int}{rs:List Rn}{way:List Int}(h:zap ts rs=true)(hw:zaN ts way=true)(a:Int):∃x,IsE (fits ts rs way) a x:=by
 rcases hf:fits ts rs way (a+((112000-a).toNat:Nat)) with _|_
 ·obtain⟨s,hs,o,ho,hm⟩:=zgQ hf;have:=zoX h hw hs ho hm;omega
 ·obtain⟨x,hx,_⟩:=zjW _ a hf;exact⟨x,hx⟩
noncomputable def earl (ts:List Int) (rs:List Rn) (way:List Int) (a:Int):Int:=open Classical in if h:∃x,IsE (fits ts rs way) a x then Classical.choose h else-1
theorem zeE{ts:List Int}{rs:List Rn}{way:List Int}(h:zap ts rs=true)(hw:zaN ts way=true)(a:Int):IsE (fits ts rs way) a (earl ts rs way a):=by
 unfold earl;have h:=zoh h hw a;rw[dif_pos h];exact Classical.choose_spec h
def zcP(p:Int->Bool)(a:Int)(ts:List Int)(o:Sp):List Int->Int->Int->Int
 | [],_,b=>b
 |t::r,f,b=>zcP p a ts o r (f+at0 ts t) (if (t==o.tube&&(decide (a<=o.leave-f)&&((decide (b<0)||decide (o.leave-f<b))&&p (o.leave-f))))=true then o.leave-f else b)
def zdu(p:Int->Bool)(a:Int)(ts way:List Int):List Sp->Int->Int
 | [],b=>b
 |o::r,b=>zdu p a ts way r (zcP p a ts o way 0 b)
def zdQ(p:Int->Bool)(a:Int)(ts way:List Int):List Rn->Int->Int
 | [],b=>b
 |r::rs,b=>zdQ p a ts way rs (zdu p a ts way (zay ts r.way r.st) b)
def Bst(p:Int->Bool)(a b:Int):Prop:=b=-1\/(p b=true/\a<=b)
theorem zjc {p:Int -> Bool} {a:Int} (ha:0 <= a) (ts:List Int) (o:Sp):∀ (way:List Int) (f b:Int),Bst p a b -> Bst p a (zcP p a ts o way f b) /\ (0 <= b -> 0 <= zcP p a ts o way f b /\ zcP p a ts o way f b <= b) /\
  ∀(y:Int) (s:Sp),a<=y->p y=true->s∈zay ts way (y+f)->s.tube=o.tube->s.enter=o.leave->0<=zcP p a ts o way f b/\zcP p a ts o way f b<=y
 | [],f,b,h=>⟨h,fun h=>⟨h,Int.le_refl _⟩,fun y s _ _ hs=>by cases hs⟩
 |t::r,f,b,h=>by
  unfold zcP
  split
  ·rename_i hc;simp only[Bool.and_eq_true,Bool.or_eq_true,decide_eq_true_eq,beq_iff_eq] at hc;obtain⟨c1,c2,c3,c4⟩:=hc;obtain⟨k1,k2,k3⟩:=zjc ha ts o r (f+at0 ts t) (o.leave-f) (.inr ⟨c4,c2⟩);have k2:=k2 (by omega);refine⟨k1,fun h0=>?_,fun y s hy hp hs ht he=>?_⟩
   ·omega
   ·unfold zay at hs;rcases List.mem_cons.1 hs with rfl|hs
    ·simp only at he;omega
    ·exact k3 y s hy hp (by rw[<-Int.add_assoc];exact hs) ht he
  ·rename_i hc;obtain⟨k1,k2,k3⟩:=zjc ha ts o r (f+at0 ts t) b h;refine⟨k1,k2,fun y s hy hp hs ht he=>?_⟩;unfold zay at hs;rcases List.mem_cons.1 hs with rfl|hs
   ·simp only at he ht;have e:o.leave-f=y:=by omega
    by_cases hb:0<=b
    ·have k2:=k2 hb;refine⟨k2.1,Int.le_trans k2.2 ?_⟩;by_cases hlt:y<b
     ·exact absurd (by rw[e];simp[ht,hy,hlt,hp]) hc
     ·omega
    ·exact absurd (by rw[e];simp[ht,hy,hp];left;omega) hc
   ·exact k3 y s hy hp (by rw[<-Int.add_assoc];exact hs) ht he
theorem zmB {p:Int -> Bool} {a:Int} (ha:0 <= a) (ts way:List Int):∀ (l:List Sp) (b:Int),Bst p a b -> Bst p a (zdu p a ts way l b) /\ (0 <= b -> 0 <= zdu p a ts way l b /\ zdu p a ts way l b <= b) /\
  ∀(y:Int) (s o:Sp),o∈l->a<=y->p y=true->s∈zay ts way y->s.tube=o.tube->s.enter=o.leave->0<=zdu p a ts way l b/\zdu p a ts way l b<=y
 | [],b,h=>⟨h,fun h=>⟨h,Int.le_refl _⟩,fun y s o ho=>by cases ho⟩
 |q::r,b,h=>by
  unfold zdu;obtain⟨j1,j2,j3⟩:=zjc ha ts q way 0 b h;obtain⟨k1,k2,k3⟩:=zmB ha ts way r _ j1;refine⟨k1,fun h0=>?_,fun y s o ho hy hp hs ht he=>?_⟩
  ·have:=j2 h0;have:=k2 this.1;omega
  ·rcases List.mem_cons.1 ho with rfl|ho
   ·have:=j3 y s hy hp (by rw[Int.add_zero];exact hs) ht he;have:=k2 this.1;omega
   ·exact k3 y s o ho hy hp hs ht he
theorem zmA {p:Int -> Bool} {a:Int} (ha:0 <= a) (ts way:List Int):∀ (l:List Rn) (b:Int),Bst p a b -> Bst p a (zdQ p a ts way l b) /\ (0 <= b -> 0 <= zdQ p a ts way l b /\ zdQ p a ts way l b <= b) /\
  ∀(y:Int) (s o:Sp),o∈zaE ts l->a<=y->p y=true->s∈zay ts way y->s.tube=o.tube->s.enter=o.leave->0<=zdQ p a ts way l b/\zdQ p a ts way l b<=y
 | [],b,h=>⟨h,fun h=>⟨h,Int.le_refl _⟩,fun y s o ho=>by cases ho⟩
 |q::r,b,h=>by
  unfold zdQ;obtain⟨j1,j2,j3⟩:=zmB ha ts way (zay ts q.way q.st) b h;obtain⟨k1,k2,k3⟩:=zmA ha ts way r _ j1;refine⟨k1,fun h0=>?_,fun y s o ho hy hp hs ht he=>?_⟩
  ·have:=j2 h0;have:=k2 this.1;omega
  ·unfold zaE at ho;rcases List.mem_append.1 ho with ho|ho
   ·have:=j3 y s o ho hy hp hs ht he;have:=k2 this.1;omega
   ·exact k3 y s o ho hy hp hs ht he
theorem zqd(ts:List Int)(way:List Int)(x:Int)(s:Sp)(h:s∈zay ts way (x-1)):(⟨s.tube,s.enter+1,s.leave+1⟩:Sp)∈zay ts way x:=by
 have:=zg0 ts way (x-1) 1 s h;rwa[show x-1+1=x by omega] at this
theorem zqy{ts:List Int}{rs:List Rn}{way:List Int}(h:zap ts rs=true)(hw:zaN ts way=true){a:Int}(ha:0<=a)(hf:fits ts rs way a=false):zdQ (fits ts rs way) a ts way rs (-1)=earl ts rs way a:=by
 obtain⟨e1,e2,e3⟩:=zeE h hw a;obtain⟨k1,-,k3⟩:=zmA (p:=fits ts rs way) ha ts way rs (-1) (.inl rfl);have hne:a≠earl ts rs way a:=by intro he;rw[<-he,hf] at e2;cases e2
 have hp:=e3 (earl ts rs way a-1) (by omega) (by omega);obtain⟨s,hs,o,ho,hm⟩:=zgQ hp;have hs':=zqd ts way _ s hs;have hm1:=zd0.1 hm
 have hse:(⟨s.tube,s.enter+1,s.leave+1⟩:Sp).enter=o.leave:=by
  show s.enter+1=o.leave;have hn:¬(zbn ⟨s.tube,s.enter+1,s.leave+1⟩ o=true):=fun hc=>by rw[zjH hs' ho hc] at e2;cases e2
  have:¬(s.enter+1<o.leave):=fun hc=>hn (zd0.2 ⟨hm1.1,hc,by show o.enter<s.leave+1;omega⟩);omega
 obtain⟨q1,q2⟩:=k3 _ _ o ho e1 e2 hs' hm1.1 hse;rcases k1 with k1|⟨k1,k2⟩
 ·omega
 ·by_cases hlt:zdQ (fits ts rs way) a ts way rs (-1)<earl ts rs way a
  ·have:=e3 _ k2 hlt;rw[k1] at this;cases this
  ·omega
noncomputable def earlF (ts:List Int) (rs:List Rn) (way:List Int) (a:Int):Int×Int:=
 if zap ts rs=false then (0,1) else if (zaN ts way&&inR a 0 100000)=false then (0,2) else if 100000<earl ts rs way a then (0,5) else (earl ts rs way a,0)
def zef(ts:List Int)(rs:List Rn)(tube:Int):List Sp:=(zaE ts rs).filter fun s=>s.tube==tube
def zbA(ts:List Int)(rs:List Rn)(tube from_ to_:Int):Bool×Int:=
 if zap ts rs=false then (false,1) else if inR tube 0 ((ts.length:Int)-1)=false then (false,2) else if (inR from_ 0 100000&&inR to_ from_ 200000)=false then (false,2)
 else (!(zef ts rs tube).any (fun s=>decide (max s.enter from_<min s.leave to_)),0)
end
section
open Go.RowKit Go.Lib
theorem zsh{n:Int}{c:UInt8}(h:c∈itoa n):zaY c=true\/c=45:=by
 unfold itoa at h
 split at h
 ·rw[List.mem_cons] at h;rcases h with rfl|h
  ·exact .inr rfl
  ·exact .inl (List.all_eq_true.1 (zcu _) _ h)
 ·exact .inl (List.all_eq_true.1 (zcu _) _ h)
theorem zi2(n:Int){c:UInt8}(h:zaY c=false)(h2:c≠45):c∉itoa n:=fun hm=>by
 rcases zsh hm with h3|h3
 ·rw[h] at h3;cases h3
 ·exact h2 h3
theorem no32(n:Int):(32:UInt8)∉itoa n:=zi2 n (by decide) (by decide)
theorem no58(n:Int):(58:UInt8)∉itoa n:=zi2 n (by decide) (by decide)
theorem no62(n:Int):(62:UInt8)∉itoa n:=zi2 n (by decide) (by decide)
theorem no42(n:Int):(42:UInt8)∉itoa n:=zi2 n (by decide) (by decide)
theorem zij(c:UInt8):∀(l:List (List UInt8)),l≠[]->(∀x∈l,c∉x)->zao c (zaF c l)=l
 | [x],_,h=>by rw[zaF,zcg (h x (by simp))]
 |x::y::r,_,h=>by rw[zaF,zba (h x (by simp)),zij c (y::r) (by simp) (fun z hz=>h z (List.mem_cons_of_mem _ hz))]
def tbL(t:Tb):List UInt8:=itoa t.from_++62::(itoa t.to_++42::itoa t.len)
def ntL(n:Nt):List UInt8:=zaF 32 ((itoa n.sta++ [58])::n.tubes.map tbL)
def ntT(n:Nt):List UInt8:=if okNt n=true then ntL n else []
theorem ztQ(t:Tb):(32:UInt8)∉tbL t:=by
 simp only[tbL,List.mem_append,List.mem_cons,not_or];exact⟨no32 _,by decide,no32 _,by decide,no32 _⟩
theorem zhY(n:Nt):zao 32 (ntL n)=(itoa n.sta++ [58])::n.tubes.map tbL:=by
 refine zij 32 _ (by simp) (fun x hx=>?_);rw[List.mem_cons,List.mem_map] at hx;rcases hx with rfl|⟨t,_,rfl⟩
 ·simp only[List.mem_append,not_or];exact⟨no32 _,by decide⟩
 ·exact ztQ t
def zbe(n:Int):Prop:=-1000000000000000000<n/\n<1000000000000000000
theorem ze9{n:Int}(h:zbe n):zav (itoa n)=true/\(zak (itoa n)).1=n:=by
 have:=ze3 h.1 h.2;rw[zbi this.1];exact this
theorem zpV{s:Int}{t:Tb}(hs:s<=10)(h:okTb s t=true):zbe t.from_/\zbe t.to_/\zbe t.len:=by
 simp only[okTb,Bool.and_eq_true,zam] at h;unfold zbe;omega
theorem zd2{n:Nt}(h:okNt n=true):zbe n.sta/\n.tubes.length<=24/\∀t∈n.tubes,zbe t.from_/\zbe t.to_/\zbe t.len:=by
 simp only[okNt,Bool.and_eq_true,zam,decide_eq_true_eq] at h;refine⟨by unfold zbe;omega,h.2.1,fun t ht=>zpV h.1.2 (List.all_eq_true.1 h.2.2 t ht)⟩
def tbR(w:List UInt8):Option (List UInt8×List UInt8×List UInt8):=match zao 62 w with
 | [a,r]=>match zao 42 r with
  | [b,c]=>some (a,b,c)
  |_=>none
 |_=>none
def tb3(x:List UInt8×List UInt8×List UInt8):Tb:=⟨(zak x.1).1,(zak x.2.1).1,(zak x.2.2).1⟩
def ok3(ok:Bool)(x:List UInt8×List UInt8×List UInt8):Bool:=ok&&zav x.1&&zav x.2.1&&zav x.2.2
def tbsR:List (List UInt8)->Bool->List Tb->Option (Bool×List Tb)
 | [],ok,acc=>some (ok,acc)
 |w::r,ok,acc=>match tbR w with
  |some x=>tbsR r (ok3 ok x) (acc++ [tb3 x])
  |none=>none
def ze2(h:List UInt8):Option (List UInt8):=match zao 58 h with
 | [x,[]]=>some x
 |_=>none
def netF(s:List UInt8):Option Nt:=match zao 32 s with
 | []=>none
 |h::r=>match ze2 h with
  |none=>none
  |some x=>match tbsR r (zav x) [] with
   |none=>none
   |some (ok,l)=>if (ok&&okNt ⟨(zak x).1,l⟩)=true then some ⟨(zak x).1,l⟩ else none
def tbI(w:List UInt8):List UInt8×List UInt8×List UInt8:=((cut w [62]).1,(cut (cut w [62]).2.1 [42]).1,(cut (cut w [62]).2.1 [42]).2.1)
def tbsI:List (List UInt8)->Bool->List Tb->Bool×List Tb
 | [],ok,acc=>(ok,acc)
 |w::r,ok,acc=>tbsI r (ok3 ok (tbI w)) (acc++ [tb3 (tbI w)])
def zbP(h:List UInt8):List UInt8:=trimSuffix h [58]
def netI(ws:List (List UInt8))(s:List UInt8):Option Nt:=match ws with
 | []=>none
 |h::r=>match tbsI r (zav (zbP h)) [] with
  |(ok,l)=>if ok=true then (if ntT ⟨(zak (zbP h)).1,l⟩=s then some ⟨(zak (zbP h)).1,l⟩ else none) else none
theorem zq7{c:UInt8}{a r:List UInt8}(h:c∉a):cut (a++c::r) [c]=(a,r,true):=by
 have hi:index (a++c::r) [c]=a.length:=by
  rcases zcU c (a++c::r) with ⟨h1,h2⟩|⟨x,y,e,hx,h1⟩
  ·exact absurd (by simp) h2
  ·rw[h1];have:zao c (a++c::r)=a::zao c r:=zba h;have h3:zao c (a++c::r)=x::zao c y:=by rw[e];exact zba hx
   rw[this] at h3;injection h3 with h3 _;rw[h3]
 unfold cut;rw[hi];simp
theorem zst{ok:Bool}{x:List UInt8×List UInt8×List UInt8}:ok3 ok x=true↔ok=true/\zav x.1=true/\zav x.2.1=true/\zav x.2.2=true:=by simp[ok3,and_assoc]
theorem zlY:∀(r:List (List UInt8)) (ok:Bool) (acc l:List Tb),tbsR r ok acc=some (true,l)->ok=true/\∃ts,l=acc++ts/\r=ts.map tbL
 | [],ok,acc,l,h=>by
  simp only[tbsR,Option.some.injEq,Prod.mk.injEq] at h;exact⟨h.1,[],by simp[h.2],rfl⟩
 |w::r,ok,acc,l,h=>by
  unfold tbsR at h
  cases hw:tbR w with
  |none=>rw[hw] at h;cases h
  |some x=>
   rw[hw] at h;obtain⟨h1,ts,h2,h3⟩:=zlY r _ _ _ h;obtain⟨h4,d1,d2,d3⟩:=zst.1 h1;refine⟨h4,tb3 x::ts,by rw[h2];simp,?_⟩;rw[List.map_cons,<-h3]
   congr 1
   have j1:=zcC 62 w;unfold tbR at hw
   split at hw
   ·rename_i a t ea
    split at hw
    ·rename_i b c eb;injection hw with hw;subst hw;have j2:=zcC 42 t;rw[ea] at j1;rw[eb] at j2;simp only[zaF] at j1 j2;simp only[tbL,tb3,zbi d1,zbi d2,zbi d3];rw[zdJ d1,zdJ d2,zdJ d3,j2,j1]
    ·cases hw
   ·cases hw
theorem ztA(t:Tb):tbR (tbL t)=some (itoa t.from_,itoa t.to_,itoa t.len):=by
 have h1:zao 62 (tbL t)=[itoa t.from_,itoa t.to_++42::itoa t.len]:=by
  unfold tbL;rw[zba (no62 _),zcg];simp only[List.mem_append,List.mem_cons,not_or];exact⟨no62 _,by decide,no62 _⟩
 have h2:zao 42 (itoa t.to_++42::itoa t.len)=[itoa t.to_,itoa t.len]:=by rw[zba (no42 _),zcg (no42 _)]
 simp[tbR,h1,h2]
theorem zt7(t:Tb):tbI (tbL t)=(itoa t.from_,itoa t.to_,itoa t.len):=by
 unfold tbI tbL;rw[zq7 (no62 _)];simp only;rw[zq7 (no42 _)]
theorem zsJ{t:Tb}{ok:Bool}(h:zbe t.from_/\zbe t.to_/\zbe t.len):ok3 ok (itoa t.from_,itoa t.to_,itoa t.len)=ok/\tb3 (itoa t.from_,itoa t.to_,itoa t.len)=t:=by
 have h1:=ze9 h.1;have h2:=ze9 h.2.1;have h3:=ze9 h.2.2;simp[ok3,tb3,h1,h2,h3]
theorem znX:∀(ts:List Tb) (ok:Bool) (acc:List Tb),(∀t∈ts,zbe t.from_/\zbe t.to_/\zbe t.len)->tbsR (ts.map tbL) ok acc=some (ok,acc++ts)
 | [],ok,acc,_=>by simp[tbsR]
 |t::r,ok,acc,h=>by
  have hs:=zsJ (ok:=ok) (h t (by simp));rw[List.map_cons,tbsR,ztA];simp only;rw[hs.1,hs.2,znX r ok (acc++ [t]) (fun x hx=>h x (List.mem_cons_of_mem _ hx))];simp
theorem znW:∀(ts:List Tb) (ok:Bool) (acc:List Tb),(∀t∈ts,zbe t.from_/\zbe t.to_/\zbe t.len)->tbsI (ts.map tbL) ok acc=(ok,acc++ts)
 | [],ok,acc,_=>by simp[tbsI]
 |t::r,ok,acc,h=>by
  have hs:=zsJ (ok:=ok) (h t (by simp));rw[List.map_cons,tbsI,zt7,hs.1,hs.2,znW r ok (acc++ [t]) (fun x hx=>h x (List.mem_cons_of_mem _ hx))];simp
theorem zlH{n:Nt}(h:okNt n=true):netF (ntL n)=some n:=by
 obtain⟨h1,h2,h3⟩:=zd2 h;have hr:=ze9 h1
 have hh:ze2 (itoa n.sta++ [58])=some (itoa n.sta):=by
  unfold ze2;rw[zba (no58 _),zcg (by simp)]
 unfold netF;rw[zhY];simp only[hh];rw[znX n.tubes _ [] h3,hr.1,hr.2];simp[h]
theorem zgn{s:List UInt8}{n:Nt}(h:netF s=some n):okNt n=true/\s=ntL n:=by
 have j:=zcC 32 s;unfold netF at h
 split at h
 ·cases h
 ·rename_i a r e
  split at h
  ·cases h
  ·rename_i x ex
   split at h
   ·cases h
   ·rename_i ok l el
    split at h
    ·rename_i hc;injection h with h;subst h;rw[Bool.and_eq_true] at hc;refine⟨hc.2,?_⟩;rw[hc.1] at el;obtain⟨hd,ts,rfl,rfl⟩:=zlY _ _ _ _ el;rw[<-j,e,ntL,zbi hd];simp only[List.nil_append];rw[zdJ hd]
     congr 2
     have j2:=zcC 58 a;unfold ze2 at ex
     split at ex
     ·rename_i x' e2;injection ex with ex;subst ex;rw[<-j2,e2]
      rfl
     ·cases ex
    ·cases h
theorem zp8(n:Int):zbP (itoa n++ [58])=itoa n:=by
 simp[zbP,trimSuffix,hasSuffix]
theorem zra{n:Nt}(h:okNt n=true):netI ((itoa n.sta++ [58])::n.tubes.map tbL) (ntL n)=some n:=by
 obtain⟨h1,h2,h3⟩:=zd2 h;have hr:=ze9 h1;unfold netI;simp only;rw[zp8,znW n.tubes _ [] h3,hr.1,hr.2];simp[ntT,h]
theorem ztm(ws:List (List UInt8))(s:List UInt8)(hne:s.count 32<=24->ws=zao 32 s):netI ws s=netF s:=by
 cases hf:netF s with
 |some n=>
  obtain⟨ho,rfl⟩:=zgn hf
  have hc:(ntL n).count 32<=24:=by
   have:=zf6 32 (ntL n);rw[zhY] at this;simp only[List.length_cons,List.length_map] at this;have:=(zd2 ho).2.1;omega
  rw[hne hc,zhY];exact zra ho
 |none=>
  cases hi:netI ws s with
  |none=>rfl
  |some n=>
   exfalso
   have h1:ntT n=s:=by
    unfold netI at hi
    split at hi
    ·cases hi
    ·split at hi
     rename_i ok l e
     split at hi
     ·split at hi
      ·rename_i h2;injection hi with hi;rw[<-hi];exact h2
      ·cases hi
     ·cases hi
   unfold ntT at h1
   split at h1
   ·rename_i ho;rw[<-h1,zlH ho] at hf
    cases hf
   ·subst h1;rw[hne (by simp)] at hi
    cases hi
end
section
open Go.RowKit Go.Proofs.Tryz
theorem zgk (P:Option Addr) (m d B:Nat) (ts:List Int) (A:Option Addr) (n c:Nat) (rs:List Rn) (w:World) (ht:zad w B 1 P m (ints ts)) (h:zaC w B A n rs) (hm:m <= 1048576) (hn:n <= 1048576) (hsm:zbM rs) :
  Calls prog 98 #[.slice P m d,.slice A n c] w fun e w'=>e= .returned (.bool (zap ts rs))/\w=w':=by
 have HL:=hid h.len;have HM:=hid (zai ht);have HT:=hid ht;have HSM:=hid hsm;clear ht hsm;go_enter func98,ntmps98;go_wp2
 go_loop [5] (fun i=>∃k:Nat,k<=n/\i= .int .i64 k/\za0 (zby ts) rs k) (fun i=>n-(RowKit.intOf i).toNat)
 case atStart=>exact⟨0,Nat.zero_le _,rfl,za0.zero _ _⟩
 case round=>
  obtain⟨k,hk,rfl,hall⟩:=hrel;have HA:=hid hall;clear hall;by_cases hlt:k<n
  ·obtain⟨x,b,off,P',m',d',he,rfl,hb,c0,c1,hr,hm'⟩:=zcn h hlt;have hm2:m'<=1048576:=by have:=HSM.out k x he;have:=zai hr;omega
   have HE:=hid he;have HR:=hid hr;clear he h hr
   go_wp2_with fail
   refine(zkd P m d ts hm HM.out P' m' d' B x.way w HR.out hm2).mono ?_;rintro e w1 ⟨rfl,rfl⟩;rcases e1:zaN ts x.way with _|_
   ·have HF:=hid (show zap ts rs=false by simp only[zap,zcd (p:=zby ts) HE.out (by simp[zby,e1]),Bool.and_false]);go_wp2;go_ret;exact⟨zae HF.out.symm,rfl⟩
   go_wp2_with fail
   refine(zdl _ _).mono ?_;rintro e w1 ⟨rfl,rfl⟩;rcases e2:inR x.st 0 100000 with _|_
   ·have HF:=hid (show zap ts rs=false by simp only[zap,zcd (p:=zby ts) HE.out (by simp[zby,e2]),Bool.and_false]);go_wp2;go_ret;exact⟨zae HF.out.symm,rfl⟩
   have HG:=hid (show zby ts x=true by simp[zby,e1,e2]);go_wp2
   go_round
   case rel=>exact⟨k+1,by omega,by go_num,HA.out.step HE.out HG.out⟩
   case measure=>simp[RowKit.intOf];omega
  ·obtain rfl:k=n:=by omega
   go_wp2_with fail
   refine(zhL P m d B ts w HT.out hm).mono ?_;rintro e w1 ⟨rfl,rfl⟩;rcases e1:zaK ts with _|_
   ·have HF:=hid (show zap ts rs=false by simp only[zap,e1,Bool.false_and]);go_wp2;go_ret;exact⟨zae HF.out.symm,rfl⟩
   have HF:=hid (show zap ts rs=decide ((k:Int)<=12) by simp only[zap,e1,HL.out,HA.out.done HL.out,Bool.and_true,Bool.true_and];rw[decide_eq_decide];omega);go_wp2;go_ret;exact⟨zae HF.out.symm,rfl⟩
end
section
open Go.RowKit
structure Sn where
 l0:Bool
 l1:Bool
 a0:Bool
 a1:Bool
def sn0:Sn:=⟨false,false,false,false⟩
def snUp(s:Sn)(side:Int)(w:Bool):Sn:=if side=0 then ⟨true,s.l1,s.a0||w,s.a1⟩ else ⟨s.l0,true,s.a0,s.a1||w⟩
def zbo(s:Sn):Int:=(if s.l0=true then 1 else 0)+(if s.l1=true then 2 else 0)
def zbm(s:Sn):Bool:=s.a0||s.a1
def zbw(s:Sn):Bool:=(s.a0||s.a1)&&s.l0&&s.l1
def Sn.okS(s:Sn):Prop:=(s.a0=true->s.l0=true)/\(s.a1=true->s.l1=true)
theorem zrx:sn0.okS:=by unfold Sn.okS sn0;simp
theorem zt1{s:Sn}(h:s.okS)(side:Int)(w:Bool):(snUp s side w).okS:=by
 unfold snUp
 split
 ·exact⟨fun _=>rfl,h.2⟩
 ·exact⟨h.1,fun _=>rfl⟩
theorem znH(s:Sn):0<=zbo s/\zbo s<=3:=by
 unfold zbo;constructor<;>split<;>split<;>omega
theorem zrH(s:Sn)(side:Int)(w:Bool):zbm (snUp s side w)=(zbm s||w):=by
 unfold snUp zbm
 split<;>cases s.a0<;>cases s.a1<;>cases w<;>rfl
theorem zjd{s:Sn}(h:s.okS):zbw s=(zbm s&&zbo s==3):=by
 obtain⟨l0,l1,a0,a1⟩:=s
 revert h
 unfold Sn.okS
 cases l0<;>cases l1<;>cases a0<;>cases a1<;>simp[zbw,zbm,zbo]
def outI:List Sn->Nat->List (Int×Int)
 | [],_=>[]
 |s::r,i=>(if s.a0=true then [((i:Int),0)] else if s.a1=true then [((i:Int),1)] else [])++outI r (i+1)
def zct(l:List Sn)(v:Int)(side:Int)(w:Bool):List Sn:=l.set v.toNat (snUp (l.getD v.toNat sn0) side w)
def zbZ(dg:Nat->Int):Nat->Int
 |0=>1
 |k+1=>2*zbZ dg k+dg k
theorem zfQ{dg:Nat->Int}(h:∀k,0<=dg k/\dg k<=1):∀k:Nat,(2:Int)^k<=zbZ dg k/\zbZ dg k<2^(k+1)
 |0=>by simp[zbZ]
 |k+1=>by
  have ih:=zfQ h k;have hd:=h k;have e2:(2:Int)^(k+1+1)=2*2^(k+1):=by rw[Int.pow_succ];omega
  rw[e2];show 2^(k+1)<=2*zbZ dg k+dg k/\2*zbZ dg k+dg k<2*2^(k+1);omega
theorem zrA(l:List Sn)(v side:Int)(w:Bool):(zct l v side w).length=l.length:=by simp[zct]
theorem zs7{l:List Sn}(h:∀s∈l,s.okS)(v side:Int)(w:Bool):∀s∈zct l v side w,s.okS:=by
 intro s hs;unfold zct at hs;rcases List.mem_or_eq_of_mem_set hs with h1|h1
 ·exact h s h1
 ·rw[h1];refine zt1 ?_ _ _;rw[List.getD_eq_getElem?_getD]
  cases he:l[v.toNat]? with
  |none=>exact zrx
  |some x=>exact h x (List.mem_of_getElem? he)
end
section
open Go.RowKit Go.Lib
def zcz(a b c d:ByteArray):Option (En×Int):=
 if (zav a.data.toList&&zav c.data.toList&&zav d.data.toList&&okEn ⟨numS a.data.toList,b,numS c.data.toList⟩)=true then some (⟨numS a.data.toList,b,numS c.data.toList⟩,numS d.data.toList) else none
def zbt(line:ByteArray):Option (En×Int):=match zah 32 line with
 | [a,b,c,d]=>zcz a b c d
 |_=>none
theorem zbT{line a b c d:ByteArray}(h:zah 32 line=[a,b,c,d]):zbt line=zcz a b c d:=by simp[zbt,h]
theorem ziN{line:ByteArray}(h:(zah 32 line).length≠4):zbt line=none:=by
 unfold zbt
 split
 ·rename_i e;rw[e] at h;simp at h
 ·rfl
theorem zoR{α:Type}{l:List α}(h:l.length=4):∃a b c d,l=[a,b,c,d]:=by
 match l,h with
 | [a,b,c,d],_=>exact⟨a,b,c,d,rfl⟩
theorem zf9{a b c d:ByteArray}(h1:zav a.data.toList=true)(h2:zav c.data.toList=true)(h3:zav d.data.toList=true)(h4:okEn ⟨numS a.data.toList,b,numS c.data.toList⟩=true):
 zcz a b c d=some (⟨numS a.data.toList,b,numS c.data.toList⟩,numS d.data.toList):=by simp[zcz,h1,h2,h3,h4]
theorem zkJ{a b c d:ByteArray}(h:zav a.data.toList=false):zcz a b c d=none:=by simp[zcz,h]
theorem zkK{a b c d:ByteArray}(h:zav c.data.toList=false):zcz a b c d=none:=by simp[zcz,h]
theorem zqt{a b c d:ByteArray}(h:zav d.data.toList=false):zcz a b c d=none:=by simp[zcz,h]
theorem zkL{a b c d:ByteArray}(h:okEn ⟨numS a.data.toList,b,numS c.data.toList⟩=false):zcz a b c d=none:=by simp[zcz,h]
structure LogR where
 list:List En
 stamp:Int
 at_:Nat
def dayR(l:List En):Int:=match l.getLast? with
 |none=>0
 |some x=>x.day
def zbz(r:LogR)(line:ByteArray):Option LogR:=match zbt line with
 |none=>none
 |some (e,st)=>if (decide (dayR r.list<=e.day)&&(zbf r.stamp (zau e)==st))=true then some ⟨r.list++ [e],st,r.at_+line.size+1⟩ else none
def zbK:List ByteArray->LogR->LogR
 | [],r=>r
 | [_],r=>r
 |l::m::t,r=>match zbz r l with
  |none=>r
  |some r'=>zbK (m::t) r'
def logR(s:ByteArray):LogR:=zbK (zah 10 s) ⟨[],0,0⟩
theorem zev(c:UInt8)(s:ByteArray):zah c s≠[]:=by
 intro h;have:=zc2 c s;rw[h] at this
 cases this
theorem zdV{s:ByteArray}{r:LogR}(h:(10:UInt8)∉s.data.toList):zbK (zah 10 s) r=r:=by
 rw[zik h];rfl
theorem zfi {s a:ByteArray} {t:List UInt8} {r:LogR} (he:s.data.toList = a.data.toList ++ 10 :: t) (hn:(10:UInt8) ∉ a.data.toList) :
  zbK (zah 10 s) r=match zbz r a with
   |none=>r
   |some r'=>zbK (zah 10 (zab t)) r':=by
 have e:zah 10 s=a::zah 10 (zab t):=by
  unfold zah;rw[he,zba hn,List.map_cons,zaM,zaf]
 rw[e];rcases h:zah 10 (zab t) with _|⟨m,t'⟩
 ·exact absurd h (zev _ _)
 ·rfl
theorem zjs{s a:ByteArray}{j:Nat}{t:List UInt8}(hj:j<=s.size)(he:(s.extract j s.size).data.toList=a.data.toList++10::t):zab t=s.extract (j+a.size+1) s.size/\j+a.size+1<=s.size:=by
 have hl:=za8 s;have ha:=za8 a;rw[extract_to_end] at he;have h1:=congrArg List.length he;simp only[List.length_drop,List.length_append,List.length_cons] at h1;refine⟨?_,by omega⟩;rw[<-zaM (s.extract (j+a.size+1) s.size),extract_to_end]
 congr 1
 rw[show j+a.size+1=j+(a.size+1) by omega,<-List.drop_drop,he,<-ha,<-List.drop_drop,List.drop_left]
 rfl
theorem zd4{r:LogR}{line:ByteArray}(h:zbt line=none):zbz r line=none:=by simp[zbz,h]
theorem zgq{r:LogR}{line:ByteArray}{e:En}{st:Int}(h:zbt line=some (e,st))(h2:¬(dayR r.list<=e.day)):zbz r line=none:=by simp[zbz,h,h2]
theorem zeg{r:LogR}{line:ByteArray}{e:En}{st:Int}(h:zbt line=some (e,st))(h2:zbf r.stamp (zau e)≠st):zbz r line=none:=by simp[zbz,h,h2]
theorem zew{r:LogR}{line:ByteArray}{e:En}{st:Int}(h:zbt line=some (e,st))(h1:dayR r.list<=e.day)(h2:zbf r.stamp (zau e)=st):zbz r line=some ⟨r.list++ [e],st,r.at_+line.size+1⟩:=by simp[zbz,h,h1,h2]
theorem zdX{x:En}(h:okEn x=true):0<=x.day/\x.day<=100000/\zaZ x.what=true/\-1000000<=x.val/\x.val<=1000000:=by
 simp only[okEn,Bool.and_eq_true] at h;have h1:=zam.1 h.1.1;have h2:=zam.1 h.2;exact⟨h1.1,h1.2,h.1.2,h2.1,h2.2⟩
theorem zfl{x:En}(h:okEn x=true):x.what.size<=12:=by
 have:=(zdX h).2.2.1;simp only[zaZ,Bool.and_eq_true,decide_eq_true_eq] at this;omega
theorem zfk{x:En}(h:okEn x=true):x.good:=by
 have h1:=zdX h;have h2:=zfl h;exact⟨⟨by omega,by omega⟩,by omega,⟨by omega,by omega⟩⟩
theorem zhb{x:En}(h:okEn x=true):x.small:=by
 have h2:=zfl h;unfold En.small;omega
theorem zgY{line:ByteArray}{e:En}{st:Int}(h:zbt line=some (e,st)):okEn e=true:=by
 unfold zbt at h
 split at h
 ·unfold zcz at h
  split at h
  ·rename_i h2;simp only[Bool.and_eq_true] at h2;injection h with h;injection h with h h';subst h;exact h2.2
  ·cases h
 ·cases h
theorem zsj{line:ByteArray}{e:En}{st:Int}(h:zbt line=some (e,st)):e.good/\e.small:=⟨zfk (zgY h),zhb (zgY h)⟩
theorem zjf:dayR []=0:=rfl
theorem zh7{l:List En}{x:En}(h:l[l.length-1]?=some x):dayR l=x.day:=by
 have h2:l.getLast?=some x:=by rw[List.getLast?_eq_getElem?];exact h
 simp[dayR,h2]
structure LogR.ok (r:LogR):Prop where
 ok:∀x∈r.list,okEn x=true
 stamp0:0<=r.stamp
 stamp1:r.stamp<=65518
 len:r.list.length<=r.at_
theorem LogR.ok_start:(⟨[],0,0⟩:LogR).ok:=⟨fun x hx=>by simp at hx,by simp,by simp,by simp⟩
theorem LogR.ok_step{r r':LogR}{line:ByteArray}(h:r.ok)(hs:zbz r line=some r'):r'.ok/\r'.at_=r.at_+line.size+1/\∃e,r'.list=r.list++ [e]/\okEn e=true:=by
 rcases hl:zbt line with _|⟨e,st⟩
 ·rw[zd4 hl] at hs;cases hs
 ·by_cases h1:dayR r.list<=e.day
  ·by_cases h2:zbf r.stamp (zau e)=st
   ·rw[zew hl h1 h2] at hs;injection hs with hs;subst hs;have he:=zgY hl;have hb:=zdt r.stamp (zau e);refine⟨⟨fun x hx=>?_,by rw[<-h2];exact hb.1,by rw[<-h2];exact hb.2,?_⟩,rfl,e,rfl,he⟩
    ·rcases List.mem_append.1 hx with hx|hx
     ·exact h.ok x hx
     ·rw[List.mem_singleton] at hx;subst hx;exact he
    ·have:=h.len;simp only[List.length_append,List.length_singleton];omega
   ·rw[zeg hl h2] at hs;cases hs
  ·rw[zgq hl h1] at hs;cases hs
theorem znr:∀(l:List ByteArray) (r:LogR),r.ok->(zbK l r).ok
 | [],r,h=>h
 | [_],r,h=>h
 |a::m::t,r,h=>by
  rw[zbK];rcases hs:zbz r a with _|r'
  ·exact h
  ·exact znr (m::t) r' (LogR.ok_step h hs).1
theorem zeM(s:ByteArray):(logR s).ok:=znr _ _ LogR.ok_start
def zds:List ByteArray->Nat
 | []=>0
 | [x]=>x.size
 |x::y::t=>x.size+1+zds (y::t)
theorem zgo(c:UInt8):∀l:List UInt8,zds ((zao c l).map zab)=l.length
 | []=>rfl
 |x::r=>by
  have ih:=zgo c r;rw[zao];by_cases h:x=c
  ·subst h;rw[if_pos rfl];have hne:=zdL x r
   revert ih hne
   cases zao x r with
   |nil=>intro _ hne;exact absurd rfl hne
   |cons y t=>
    intro ih _;rw[List.map_cons] at ih;rw[List.map_cons,List.map_cons,zds,ih,zaj,List.length_cons];simp;omega
  ·rw[if_neg h];have hne:=zdL c r
   revert ih hne
   cases zao c r with
   |nil=>intro _ hne;exact absurd rfl hne
   |cons y t=>
    intro ih _
    cases t with
    |nil=>
     simp only[List.map_cons,List.map_nil,zds,zaj] at ih⊢;simp[ih]
    |cons z u=>
     simp only[List.map_cons,zds,zaj,List.length_cons] at ih⊢;omega
theorem znq:∀(l:List ByteArray) (r:LogR),(zbK l r).at_<=r.at_+zds l
 | [],r=>by simp[zbK,zds]
 | [_],r=>by simp[zbK]
 |a::m::t,r=>by
  rw[zbK,zds];rcases hs:zbz r a with _|r'
  ·simp only;omega
  ·have h2:r'.at_=r.at_+a.size+1:=by
    rcases hl:zbt a with _|⟨e,st⟩
    ·rw[zd4 hl] at hs;cases hs
    ·by_cases h1:dayR r.list<=e.day
     ·by_cases h2:zbf r.stamp (zau e)=st
      ·rw[zew hl h1 h2] at hs;injection hs with hs;subst hs
       rfl
      ·rw[zeg hl h2] at hs;cases hs
     ·rw[zgq hl h1] at hs;cases hs
   have:=znq (m::t) r';simp only;omega
theorem zi5(s:ByteArray):(logR s).at_<=s.size:=by
 have h:=znq (zah 10 s) ⟨[],0,0⟩;have h2:=zgo 10 s.data.toList;unfold zah at h;rw[h2,za8] at h;unfold logR zah;simpa using h
def zbc(st:Int)(e:En):ByteArray:=zau e++⟨#[32]⟩++zab (itoa st)++⟨#[10]⟩
theorem zcB(a b:ByteArray):(a++b).data.toList=a.data.toList++b.data.toList:=by simp
theorem zke(st:Int)(e:En):(zbc st e).data.toList=itoa e.day++32::(e.what.data.toList++32::(itoa e.val++32::(itoa st++ [10]))):=by
 simp[zbc,zau,zaf]
theorem zdn{a b:ByteArray}(h:a.data.toList=b.data.toList):a=b:=by
 rw[<-zaM a,h,zaM]
theorem zlw{line a b c d:ByteArray}(h:zah 32 line=[a,b,c,d]):line.data.toList=a.data.toList++32::(b.data.toList++32::(c.data.toList++32::d.data.toList)):=by
 have h2:zao 32 line.data.toList=[a.data.toList,b.data.toList,c.data.toList,d.data.toList]:=by
  have h3:=congrArg (List.map (fun x:ByteArray=>x.data.toList)) h;simp only[zah,List.map_map,List.map_cons,List.map_nil] at h3;rw[<-h3]
  conv=>lhs;rw[<-List.map_id (zao 32 line.data.toList)]
  congr 1
 have:=zcC 32 line.data.toList;rw[h2] at this;rw[<-this]
 rfl
theorem zl8 {line a b c d:ByteArray} {st:Int} (h:zah 32 line = [a,b,c,d]) (h1:zav a.data.toList = true) (h2:zav c.data.toList = true) (hs0:0 <= st) (hs1:st <= 65518) :
  (zbc st ⟨numS a.data.toList,b,numS c.data.toList⟩=line++⟨#[10]⟩)↔(zav d.data.toList=true/\numS d.data.toList=st):=by
 have e1:(zbc st ⟨numS a.data.toList,b,numS c.data.toList⟩).data.toList=a.data.toList++32::(b.data.toList++32::(c.data.toList++32::(itoa st++ [10]))):=by
  rw[zke];simp only[zdJ h1,zdJ h2]
 have e2:(line++(⟨#[10]⟩:ByteArray)).data.toList=a.data.toList++32::(b.data.toList++32::(c.data.toList++32::(d.data.toList++ [10]))):=by
  rw[zcB,zlw h];simp
 constructor
 ·intro hh;have e3:=congrArg (fun x:ByteArray=>x.data.toList) hh;rw[e1,e2] at e3;have e4:itoa st=d.data.toList:=by simpa using e3
  have:=ze3 (n:=st) (by omega) (by omega);rw[e4] at this;exact this
 ·rintro ⟨h3,h4⟩;apply zdn;rw[e1,e2,<-h4,zdJ h3]
theorem zpQ{st:Int}{e:En}(h:okEn e=true)(hs0:0<=st)(hs1:st<=65518):(zbc st e).size<=80:=by
 have h1:=zfk h;have h2:=zfl h;have g1:=zaz h1.1.1 h1.1.2;have g2:=zaz h1.2.2.1 h1.2.2.2;have g3:=zaz (n:=st) (by omega) (by omega)
 have e1:(zbc st e).size=(zau e).size+1+(itoa st).length+1:=by
  simp only[zbc,ByteArray.size_append,zaj];rfl
 rw[e1,zg4];omega
theorem zdN{e:En}(h:okEn e=true):(zau e).size<=60:=by
 have h1:=zfk h;have h2:=zfl h;have g1:=zaz h1.1.1 h1.1.2;have g2:=zaz h1.2.2.1 h1.2.2.2;rw[zg4];omega
end
section
open Go.RowKit
def okOp(ps:List Int):Bool:=(ps.all fun x=>inR x 1 1000)&&decide (ps.length<=9)
theorem zfC{ps:List Int}(h:okOp ps=true)(i:Int)(h0:0<=i)(h1:i<ps.length):1<=at0 ps i/\at0 ps i<=1000:=by
 unfold okOp at h;simp only[Bool.and_eq_true,List.all_eq_true] at h;have hl:i.toNat<ps.length:=by omega
 have:=zam.1 (h.1 ps[i.toNat] (List.getElem_mem hl));have e:at0 ps i=ps[i.toNat]:=by unfold at0;rw[List.getD_eq_getElem?_getD,List.getElem?_eq_getElem hl];rfl
 rw[e];exact this
def lpW(pr:Int->Int->Int)(ps:List Int)(lo hi:Int):Nat->Int->Int×Int->Int×Int
 |0,_,acc=>acc
 |d+1,k,acc=>lpW pr ps lo hi d (k+1) (if acc.2<0\/at0 ps k+max (pr lo k) (pr (k+1) hi)<acc.1 then (at0 ps k+max (pr lo k) (pr (k+1) hi),k) else acc)
def zfd(ps:List Int):Nat->Int->Int->Int×Int
 |0,_,_=>(0,-1)
 |f+1,lo,hi=>lpW (fun a b=>(zfd ps f a b).1) ps lo hi (hi-lo).toNat lo (0,-1)
def zas(ps:List Int)(lo hi:Int):Int×Int:=zfd ps (hi-lo).toNat lo hi
theorem zhT{pr pr':Int->Int->Int}{ps:List Int}{lo hi:Int}:∀(d:Nat) (k:Int) (acc:Int×Int),lo<=k->k+d<=hi->(∀j,lo<=j->j<hi->pr lo j=pr' lo j/\pr (j+1) hi=pr' (j+1) hi)->lpW pr ps lo hi d k acc=lpW pr' ps lo hi d k acc
 |0,_,_,_,_,_=>rfl
 |d+1,k,acc,h0,h1,h=>by
  unfold lpW;obtain⟨e1,e2⟩:=h k h0 (by omega);rw[e1,e2];exact zhT d (k+1) _ (by omega) (by omega) h
theorem zfA(ps:List Int):∀(f g:Nat) (lo hi:Int),(hi-lo).toNat<=f->(hi-lo).toNat<=g->zfd ps f lo hi=zfd ps g lo hi
 |0,0,_,_,_,_=>rfl
 |0,g+1,lo,hi,hf,hg=>by
  unfold zfd;rw[show(hi-lo).toNat=0 by omega];rfl
 |f+1,0,lo,hi,hf,hg=>by
  unfold zfd;rw[show(hi-lo).toNat=0 by omega];rfl
 |f+1,g+1,lo,hi,hf,hg=>by
  unfold zfd;by_cases hlt:lo<hi
  ·exact zhT _ _ _ (Int.le_refl _) (by omega) (fun j h0 h1=>⟨by rw[zfA ps f g lo j (by omega) (by omega)],by rw[zfA ps f g (j+1) hi (by omega) (by omega)]⟩)
  ·rw[show(hi-lo).toNat=0 by omega];rfl
theorem ziW{ps:List Int}{lo hi:Int}(h:hi<=lo):zas ps lo hi=(0,-1):=by
 unfold zas;rw[show(hi-lo).toNat=0 by omega];rfl
theorem zg5(ps:List Int)(lo hi:Int):zas ps lo hi=lpW (fun a b=>(zas ps a b).1) ps lo hi (hi-lo).toNat lo (0,-1):=by
 by_cases hlt:lo<hi
 ·have e:(hi-lo).toNat=((hi-lo).toNat-1)+1:=by omega
  have e2:zas ps lo hi=lpW (fun a b=>(zfd ps ((hi-lo).toNat-1) a b).1) ps lo hi (hi-lo).toNat lo (0,-1):=by
   unfold zas;obtain⟨m,hm⟩:∃m,(hi-lo).toNat-1=m:=⟨_,rfl⟩
   rw[hm] at e⊢;rw[show zfd ps (hi-lo).toNat lo hi=zfd ps (m+1) lo hi by rw[e]]
   rfl
  rw[e2];exact zhT _ _ _ (Int.le_refl _) (by omega) (fun j h0 h1=>⟨by unfold zas;rw[zfA ps _ (j-lo).toNat lo j (by omega) (by omega)],by unfold zas;rw[zfA ps _ (hi-(j+1)).toNat (j+1) hi (by omega) (by omega)]⟩)
 ·rw[ziW (by omega),show(hi-lo).toNat=0 by omega];rfl
theorem zns {pr:Int -> Int -> Int} {ps:List Int} {lo hi:Int} (hps:∀ j,lo <= j -> j < hi -> 1 <= at0 ps j /\ at0 ps j <= 1000) (h:∀ j,lo <= j -> j < hi -> (0 <= pr lo j /\ pr lo j <= 1000 * (hi - lo - 1)) /\ (0 <= pr (j + 1) hi /\ pr (j + 1) hi <= 1000 * (hi - lo - 1))) :
  ∀(d:Nat) (k:Int) (acc:Int×Int),lo<=k->k+d=hi->(k=lo\/(lo<=acc.2/\acc.2<hi))->(acc=(0,-1)\/(lo<=acc.2/\acc.2<hi/\0<=acc.1/\acc.1<=1000*(hi-lo)))->0<=lo->
  ((lo<hi->lo<=(lpW pr ps lo hi d k acc).2/\(lpW pr ps lo hi d k acc).2<hi)/\0<=(lpW pr ps lo hi d k acc).1/\(lpW pr ps lo hi d k acc).1<=1000*(hi-lo))
 |0,k,acc,h0,h1,h2,h3,h4=>by
  unfold lpW;have:k=hi:=by omega
  refine⟨fun hlt=>?_,?_⟩
  ·rcases h2 with h2|h2
   ·omega
   ·exact h2
  ·rcases h3 with rfl|h3
   ·refine⟨Int.le_refl _,?_⟩;show(0:Int)<=_;omega
   ·omega
 |d+1,k,acc,h0,h1,h2,h3,h4=>by
  unfold lpW;have hk:=hps k h0 (by omega);have hp:=h k h0 (by omega)
  split
  ·exact zns hps h d (k+1) _ (by omega) (by omega) (.inr ⟨h0,by show k<hi;omega⟩) (.inr ⟨h0,by show k<hi;omega,by show 0<=at0 ps k+max _ _;omega,by show at0 ps k+max _ _<=_;omega⟩) h4
  ·rename_i hc;rcases h3 with rfl|h3
   ·exact absurd (.inl (by decide)) hc
   ·exact zns hps h d (k+1) _ (by omega) (by omega) (.inr ⟨h3.1,h3.2.1⟩) (.inr h3) h4
theorem zit{ps:List Int}(h:okOp ps=true):∀(n:Nat) (lo hi:Int),(hi-lo).toNat<=n->0<=lo->lo<=hi->hi<=ps.length->((lo<hi->lo<=(zas ps lo hi).2/\(zas ps lo hi).2<hi)/\0<=(zas ps lo hi).1/\(zas ps lo hi).1<=1000*(hi-lo))
 |0,lo,hi,hn,h0,h1,h2=>by
  rw[ziW (by omega)];exact⟨fun hlt=>by omega,Int.le_refl _,by show(0:Int)<=_;omega⟩
 |n+1,lo,hi,hn,h0,h1,h2=>by
  rw[zg5];refine zns (fun j k0 k1=>zfC h j (by omega) (by omega)) (fun j k0 k1=>?_) _ lo _ (Int.le_refl _) (by omega) (.inl rfl) (.inl rfl) h0;have a1:=zit h n lo j (by omega) h0 k0 (by omega);have a2:=zit h n (j+1) hi (by omega) (by omega) (by omega) h2;exact⟨⟨a1.2.1,by have:=a1.2.2;omega⟩,⟨a2.2.1,by have:=a2.2.2;omega⟩⟩
theorem zcY{ps:List Int}(h:okOp ps=true){lo hi:Int}(h0:0<=lo)(h1:lo<=hi)(h2:hi<=ps.length):(lo<hi->lo<=(zas ps lo hi).2/\(zas ps lo hi).2<hi)/\0<=(zas ps lo hi).1/\(zas ps lo hi).1<=1000*(hi-lo):=zit h _ lo hi lr h0 h1 h2
def zcp(ps:List Int)(sec:Int):Nat->Int->Int->List Int
 |0,_,_=>[]
 |f+1,lo,hi=>if lo<hi then (zas ps lo hi).2::(if sec<=(zas ps lo hi).2 then zcp ps sec f lo (zas ps lo hi).2 else zcp ps sec f ((zas ps lo hi).2+1) hi) else []
def zbb(ps:List Int)(sec lo hi:Int):List Int:=zcp ps sec (hi-lo).toNat lo hi
theorem zft{ps:List Int}(h:okOp ps=true)(sec:Int):∀(f g:Nat) (lo hi:Int),(hi-lo).toNat<=f->(hi-lo).toNat<=g->0<=lo->hi<=ps.length->zcp ps sec f lo hi=zcp ps sec g lo hi
 |0,0,_,_,_,_,_,_=>rfl
 |0,g+1,lo,hi,hf,hg,_,_=>by unfold zcp;rw[if_neg (by omega)]
 |f+1,0,lo,hi,hf,hg,_,_=>by unfold zcp;rw[if_neg (by omega)]
 |f+1,g+1,lo,hi,hf,hg,h0,h1=>by
  unfold zcp;by_cases hlt:lo<hi
  ·rw[if_pos hlt,if_pos hlt];have k:=(zcY h h0 (by omega) h1).1 hlt
   split
   ·rw[zft h sec f g lo _ (by omega) (by omega) h0 (by omega)]
   ·rw[zft h sec f g _ hi (by omega) (by omega) (by omega) h1]
  ·rw[if_neg hlt,if_neg hlt]
theorem zlu{ps:List Int}{sec lo hi:Int}(h:¬lo<hi):zbb ps sec lo hi=[]:=by
 unfold zbb;rw[show(hi-lo).toNat=0 by omega];rfl
theorem zjG{ps:List Int}(h:okOp ps=true){sec lo hi:Int}(h0:0<=lo)(h1:hi<=ps.length)(hlt:lo<hi):zbb ps sec lo hi=(zas ps lo hi).2::(if sec<=(zas ps lo hi).2 then zbb ps sec lo (zas ps lo hi).2 else zbb ps sec ((zas ps lo hi).2+1) hi):=by
 have k:=(zcY h h0 (by omega) h1).1 hlt;have e:(hi-lo).toNat=((hi-lo).toNat-1)+1:=by omega
 have e1:zbb ps sec lo hi=zcp ps sec ((hi-lo).toNat-1+1) lo hi:=by unfold zbb;rw[<-e]
 rw[e1,zcp,if_pos hlt]
 split
 ·rw[zft h sec _ ((zas ps lo hi).2-lo).toNat lo _ (by omega) (by omega) h0 (by omega)];rfl
 ·rw[zft h sec _ (hi-((zas ps lo hi).2+1)).toNat _ hi (by omega) (by omega) (by omega) h1];rfl
theorem ze0(ps:List Int)(sec:Int):∀(f:Nat) (lo hi:Int),(zcp ps sec f lo hi).length<=f
 |0,_,_=>Nat.le_refl _
 |f+1,lo,hi=>by
  unfold zcp
  split
  ·have a1:=ze0 ps sec f lo (zas ps lo hi).2;have a2:=ze0 ps sec f ((zas ps lo hi).2+1) hi;rw[List.length_cons]
   split<;>omega
  ·exact Nat.zero_le _
def zb3(ps:List Int):List Int->Int
 | []=>0
 |k::r=>at0 ps k+zb3 ps r
def seaC(ps:List Int)(sec:Int):List Int×Int×Int:=
 if okOp ps=false then ([],0,1) else if inR sec 0 ps.length=false then ([],0,2) else (zbb ps sec 0 ps.length,zb3 ps (zbb ps sec 0 ps.length),0)
end
end Go.Proofs.YtjalgpioklcbfaaGreatDoor
