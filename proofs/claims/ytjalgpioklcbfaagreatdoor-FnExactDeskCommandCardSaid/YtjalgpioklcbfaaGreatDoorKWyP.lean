/- The shortest way: plain. As many rounds as stations settle all labels; the first way along tight tubes. -/
import Derived.Test.YtjalgpioklcbfaaGreatDoorMgDesksAG
set_option linter.unusedVariables false
set_option maxHeartbeats 4000000
namespace Go.Proofs.YtjalgpioklcbfaaGreatDoor
open Go.RowKit
theorem zoL(l:List Int)(i j v:Int)(hj:0<=j)(hi:0<=i)(hl:i.toNat<l.length):at0 (l.set i.toNat v) j=if j=i then v else at0 l j:=by
 unfold at0;simp only[List.getD_eq_getElem?_getD,List.getElem?_set];by_cases h:j=i
 ·subst h;simp[hl]
 ·rw[if_neg h,if_neg (by omega)]
def zar(x:List Int)(t:Tb):List Int:=
 if at0 x t.to_<0 then x else if at0 x t.from_<0\/at0 x t.to_+t.len<at0 x t.from_ then x.set t.from_.toNat (at0 x t.to_+t.len) else x
def zbl(l:List Tb)(x:List Int):List Int:=l.foldl zar x
def zaA(l:List Tb):Nat->List Int->List Int
 |0,x=>x
 |n+1,x=>zaA l n (zbl l x)
theorem zc0(l:List Tb):∀(n:Nat) (x:List Int),zaA l (n+1) x=zbl l (zaA l n x)
 |0,_=>rfl
 |n+1,x=>zc0 l n (zbl l x)
def OkT(n:Nat)(t:Tb):Prop:=0<=t.from_/\t.from_<n/\0<=t.to_/\t.to_<n/\t.from_≠t.to_/\1<=t.len/\t.len<=2000
theorem zsu{n:Nat}{t:Tb}(h:okTb n t=true):OkT n t:=by
 unfold okTb at h;simp only[Bool.and_eq_true,bne_iff_ne] at h;have h1:=zam.1 h.1;have h2:=zam.1 h.2.1;have h3:=zam.1 h.2.2.2;exact⟨h1.1,by omega,h2.1,by omega,h.2.2.1,h3.1,h3.2⟩
theorem zcw(x:List Int)(t:Tb):(zar x t).length=x.length:=by
 unfold zar;split
 ·rfl
 ·split<;>simp
theorem zei:∀(l:List Tb) (x:List Int),(zbl l x).length=x.length
 | [],_=>rfl
 |t::l,x=>(zei l (zar x t)).trans (zcw x t)
theorem zfK(l:List Tb):∀(n:Nat) (x:List Int),(zaA l n x).length=x.length
 |0,_=>rfl
 |n+1,x=>(zfK l n _).trans (zei l x)
theorem zb6 {n:Nat} {x:List Int} {t:Tb} (hx:x.length = n) (ht:OkT n t) :
  (zar x t=x/\(at0 x t.to_<0\/(0<=at0 x t.from_/\at0 x t.from_<=at0 x t.to_+t.len)))\/
  (0<=at0 x t.to_/\(at0 x t.from_<0\/at0 x t.to_+t.len<at0 x t.from_)/\zar x t=x.set t.from_.toNat (at0 x t.to_+t.len)/\∀j,0<=j->at0 (zar x t) j=if j=t.from_ then at0 x t.to_+t.len else at0 x j):=by
 obtain⟨h1,h2,h3,h4,h5,h6,h7⟩:=ht;unfold zar;by_cases ha:at0 x t.to_<0
 ·rw[if_pos ha];exact .inl ⟨rfl,.inl ha⟩
 ·rw[if_neg ha];by_cases hb:at0 x t.from_<0\/at0 x t.to_+t.len<at0 x t.from_
  ·rw[if_pos hb];exact .inr ⟨by omega,hb,rfl,fun j hj=>zoL x t.from_ j _ hj h1 (by omega)⟩
  ·rw[if_neg hb];exact .inl ⟨rfl,.inr (by omega)⟩
structure Lab (n:Nat) (l:List Tb) (to_:Int) (x:List Int):Prop where
 len:x.length=n
 sign:∀j,0<=j->at0 x j=-1\/0<=at0 x j
 zero:at0 x to_=0
 next:∀v:Int,0<=v->v<n->v≠to_->0<=at0 x v->∃t∈l,t.from_=v/\0<=at0 x t.to_/\at0 x t.to_+t.len<=at0 x v
theorem Lab.relax{n:Nat}{l:List Tb}{to_:Int}{x:List Int}{t:Tb}(h:Lab n l to_ x)(ht:OkT n t)(hm:t∈l)(h0:0<=to_)(hl:∀t∈l,OkT n t):Lab n l to_ (zar x t):=by
 rcases zb6 h.len ht with ⟨he,-⟩|⟨ha,hb,hc,hd⟩
 ·rw[he];exact h
 ·have ht':=ht;obtain⟨h1,h2,h3,h4,h5,h6,h7⟩:=ht;have hz:=h.zero
  have hft:t.from_≠to_:=by
   intro e;rw[e] at hb;omega
  refine⟨(zcw x t).trans h.len,fun j hj=>?_,?_,fun v hv0 hv1 hvt hv=>?_⟩
  ·rw[hd j hj];split
   ·right;omega
   ·exact h.sign j hj
  ·rw[hd _ h0,if_neg (Ne.symm hft)];exact h.zero
  ·rw[hd v hv0] at hv⊢;by_cases hvf:v=t.from_
   ·refine⟨t,hm,hvf.symm,?_,?_⟩
    ·rw[hd _ h3,if_neg (Ne.symm h5)];exact ha
    ·rw[hd _ h3,if_neg (Ne.symm h5),if_pos hvf];omega
   ·rw[if_neg hvf] at hv⊢;obtain⟨s,hs,k1,k2,k3⟩:=h.next v hv0 hv1 hvt hv;have hs3:=(hl s hs).2.2.1;refine⟨s,hs,k1,?_,?_⟩
    ·rw[hd _ hs3];split<;>omega
    ·rw[hd _ hs3];split
     ·rename_i e;rw[e] at k2 k3;omega
     ·exact k3
theorem zgg{n:Nat}{l:List Tb}{to_:Int}(h0:0<=to_)(hl:∀t∈l,OkT n t):∀(q:List Tb) (x:List Int),(∀t∈q,t∈l)->Lab n l to_ x->Lab n l to_ (q.foldl zar x)
 | [],_,_,h=>h
 |t::q,x,hq,h=>zgg h0 hl q _ (fun s hs=>hq s (List.mem_cons_of_mem _ hs)) (h.relax (hl t (hq t List.mem_cons_self)) (hq t List.mem_cons_self) h0 hl)
theorem Lab.round{n:Nat}{l:List Tb}{to_:Int}{x:List Int}(h:Lab n l to_ x)(h0:0<=to_)(hl:∀t∈l,OkT n t):Lab n l to_ (zbl l x):=zgg h0 hl l x (fun _ h=>h) h
theorem Lab.iter{n:Nat}{l:List Tb}{to_:Int}(h0:0<=to_)(hl:∀t∈l,OkT n t):∀(k:Nat) {x:List Int},Lab n l to_ x->Lab n l to_ (zaA l k x)
 |0,_,h=>h
 |k+1,_,h=>Lab.iter h0 hl k (h.round h0 hl)
def zd1:List Int->Nat
 | []=>0
 |x::l=>(if x<0 then 1 else 0)+zd1 l
def nSum:List Int->Nat
 | []=>0
 |x::l=>x.toNat+nSum l
theorem zlE:∀(l:List Int) (i:Nat) (v:Int),i<l.length->zd1 (l.set i v)+(if l.getD i 0<0 then 1 else 0)=zd1 l+(if v<0 then 1 else 0)
 |x::l,0,v,_=>by simp only[List.set_cons_zero,zd1,List.getD_cons_zero];omega
 |x::l,i+1,v,h=>by
  have:=zlE l i v (by simpa using h);simp only[List.set_cons_succ,zd1,List.getD_cons_succ];omega
theorem znw:∀(l:List Int) (i:Nat) (v:Int),i<l.length->nSum (l.set i v)+(l.getD i 0).toNat=nSum l+v.toNat
 |x::l,0,v,_=>by simp only[List.set_cons_zero,nSum,List.getD_cons_zero];omega
 |x::l,i+1,v,h=>by
  have:=znw l i v (by simpa using h);simp only[List.set_cons_succ,nSum,List.getD_cons_succ];omega
def Less(y x:List Int):Prop:=zd1 y<zd1 x\/(zd1 y=zd1 x/\nSum y<nSum x)
theorem Less.trans{x y z:List Int}(h:Less x y)(k:Less y z):Less x z:=by unfold Less at*;omega
theorem Less.irrefl{x:List Int}:¬Less x x:=by unfold Less;omega
theorem ziQ{n:Nat}{x:List Int}{t:Tb}(hx:x.length=n)(ht:OkT n t):zar x t=x\/Less (zar x t) x:=by
 rcases zb6 hx ht with ⟨he,-⟩|⟨ha,hb,hc,hd⟩
 ·exact .inl he
 ·right;obtain⟨h1,h2,h3,h4,h5,h6,h7⟩:=ht;have hl:t.from_.toNat<x.length:=by omega
  have k1:=zlE x t.from_.toNat (at0 x t.to_+t.len) hl;have k2:=znw x t.from_.toNat (at0 x t.to_+t.len) hl;rw[show x.getD t.from_.toNat 0=at0 x t.from_ from rfl] at k1 k2;rw[hc];unfold Less;rw[if_neg (by omega:¬at0 x t.to_+t.len<0)] at k1
  split at k1<;>omega
theorem zfu{n:Nat}:∀(q:List Tb) (x:List Int),x.length=n->(∀t∈q,OkT n t)->(q.foldl zar x=x/\∀t∈q,zar x t=x)\/Less (q.foldl zar x) x
 | [],x,_,_=>.inl ⟨rfl,fun t ht=>by cases ht⟩
 |t::q,x,hx,hq=>by
  have ht:=hq t List.mem_cons_self;rcases ziQ hx ht with he|hlt
  ·rw[List.foldl_cons,he];rcases zfu q x hx (fun s hs=>hq s (List.mem_cons_of_mem _ hs)) with ⟨h1,h2⟩|h
   ·exact .inl ⟨h1,fun s hs=>by
     rcases List.mem_cons.1 hs with rfl|hs
     ·exact he
     ·exact h2 s hs⟩
   ·exact .inr h
  ·rw[List.foldl_cons];rcases zfu q (zar x t) ((zcw x t).trans hx) (fun s hs=>hq s (List.mem_cons_of_mem _ hs)) with ⟨h1,_⟩|h
   ·rw[h1];exact .inr hlt
   ·exact .inr (h.trans hlt)
theorem zkT{n:Nat}{l:List Tb}{x:List Int}(hx:x.length=n)(hl:∀t∈l,OkT n t)(h:zbl l x=x):∀t∈l,zar x t=x:=by
 rcases zfu l x hx hl with ⟨_,h2⟩|h2
 ·exact h2
 ·rw[show l.foldl zar x=x from h] at h2;exact absurd h2 Less.irrefl
theorem ztg:WellFounded Less:=by
 refine Subrelation.wf (r:=InvImage (Prod.Lex Nat.lt Nat.lt) (fun x:List Int=>(zd1 x,nSum x))) ?_ (InvImage.wf _ (Prod.lex ⟨Nat.lt,Nat.lt_wfRel.wf⟩ ⟨Nat.lt,Nat.lt_wfRel.wf⟩).wf);intro x y h;rcases h with h|⟨h,k⟩
 ·exact Prod.Lex.left _ _ h
 ·show Prod.Lex _ _ (zd1 x,nSum x) (zd1 y,nSum y);rw[h];exact Prod.Lex.right _ k
theorem zp4{n:Nat}{l:List Tb}(hl:∀t∈l,OkT n t)(x:List Int):x.length=n->∃N,zbl l (zaA l N x)=zaA l N x:=
 ztg.induction (C:=fun x=>x.length=n->∃N,zbl l (zaA l N x)=zaA l N x) x (fun x ih hx=>by
  rcases zfu l x hx hl with ⟨h,_⟩|h
  ·exact⟨0,h⟩
  ·obtain⟨N,hN⟩:=ih (zbl l x) h ((zei l x).trans hx);exact⟨N+1,hN⟩)
def LeL(x y:List Int):Prop:=∀j,0<=j->at0 y j<0\/(0<=at0 x j/\at0 x j<=at0 y j)
theorem zl7{n:Nat}{L y:List Int}{t:Tb}(hL:L.length=n)(hy:y.length=n)(ht:OkT n t)(hf:zar L t=L)(h:LeL L y):LeL L (zar y t):=by
 rcases zb6 hy ht with ⟨he,-⟩|⟨ha,hb,hc,hd⟩
 ·rw[he];exact h
 ·intro j hj;rw[hd j hj]
  split
  ·rename_i e;have k:=h t.to_ ht.2.2.1;have hl1:=ht.2.2.2.2.2.1;rcases zb6 hL ht with ⟨-,hq⟩|⟨q1,q2,q3,q4⟩
   ·rw[e];omega
   ·have:=q4 t.from_ ht.1;rw[hf,if_pos rfl] at this;rw[e];omega
  ·exact h j hj
theorem zkq{n:Nat}{y:List Int}{t:Tb}(hy:y.length=n)(ht:OkT n t):LeL (zar y t) y:=by
 intro j hj;rcases zb6 hy ht with ⟨he,-⟩|⟨ha,hb,hc,hd⟩
 ·rw[he];omega
 ·have hl:=ht.2.2.2.2.2.1;rw[hd j hj]
  split
  ·rename_i e;rw[e];omega
  ·omega
theorem zhC{n:Nat}:∀(q:List Tb) (y:List Int),y.length=n->(∀t∈q,OkT n t)->LeL (q.foldl zar y) y
 | [],y,_,_=>fun j _=>by simp only[List.foldl_nil];omega
 |t::q,y,hy,hq=>by
  have h1:=zkq hy (hq t List.mem_cons_self);have h2:=zhC q (zar y t) ((zcw y t).trans hy) (fun s hs=>hq s (List.mem_cons_of_mem _ hs));intro j hj;have:=h1 j hj;have:=h2 j hj;rw[List.foldl_cons];omega
theorem zgT{n:Nat}{L:List Int}(hL:L.length=n):∀(q:List Tb) (y:List Int),y.length=n->(∀t∈q,OkT n t)->(∀t∈q,zar L t=L)->LeL L y->LeL L (q.foldl zar y)
 | [],y,_,_,_,h=>h
 |t::q,y,hy,hq,hf,h=>zgT hL q _ ((zcw y t).trans hy) (fun s hs=>hq s (List.mem_cons_of_mem _ hs)) (fun s hs=>hf s (List.mem_cons_of_mem _ hs)) (zl7 hL hy (hq t List.mem_cons_self) (hf t List.mem_cons_self) h)
theorem zhD{n:Nat}{L:List Int}{s:Tb}(hL:L.length=n)(hs0:0<=at0 L s.to_)(hs1:at0 L s.to_+s.len<=at0 L s.from_):∀(q:List Tb) (y:List Int),s∈q->y.length=n->(∀t∈q,OkT n t)->(∀t∈q,zar L t=L)->LeL L y->at0 y s.to_=at0 L s.to_->at0 (q.foldl zar y) s.from_=at0 L s.from_
 |t::q,y,hs,hy,hq,hf,h,he=>by
  have ht:=hq t List.mem_cons_self;have hsk:OkT n s:=hq s hs;have hy':(zar y t).length=n:=(zcw y t).trans hy;have hq':∀t∈q,OkT n t:=fun s hs=>hq s (List.mem_cons_of_mem _ hs);have hf':∀t∈q,zar L t=L:=fun s hs=>hf s (List.mem_cons_of_mem _ hs);have h1:=zl7 hL hy ht (hf t List.mem_cons_self) h;have h2:=zkq hy ht;rw[List.foldl_cons];rcases List.mem_cons.1 hs with rfl|hs
  ·have h3:=zgT hL q _ hy' hq' hf' h1 s.from_ hsk.1;have h4:=zhC q _ hy' hq' s.from_ hsk.1
   have h5:0<=at0 (zar y s) s.from_/\at0 (zar y s) s.from_<=at0 L s.to_+s.len:=by
    have hl1:=hsk.2.2.2.2.2.1;rcases zb6 hy hsk with ⟨e,k⟩|⟨k1,k2,k3,k4⟩
    ·rw[e];omega
    ·rw[k4 _ hsk.1,if_pos rfl];omega
   omega
  ·refine zhD hL hs0 hs1 q _ hs hy' hq' hf' h1 ?_;have a1:=h1 s.to_ hsk.2.2.1;have a2:=h2 s.to_ hsk.2.2.1;omega
theorem zqW{P:Nat->Prop}:(∃n,P n)->∃n,P n/\∀m,m<n->¬P m:=by
 rintro ⟨n,hn⟩
 induction n using Nat.strongRecOn with
 |ind n ih=>
  by_cases h:∃m,m<n/\P m
  ·obtain⟨m,h1,h2⟩:=h;exact ih m h1 h2
  ·exact⟨n,hn,fun m hm hp=>h ⟨m,hm,hp⟩⟩
theorem zsP{n:Nat}{x y:List Int}(hx:x.length=n)(hy:y.length=n)(h:∀j:Nat,j<n->at0 x j=at0 y j):x=y:=by
 apply List.ext_getElem (hx.trans hy.symm);intro i h1 h2;have:=h i (by omega);unfold at0 at this;simpa[List.getD_eq_getElem?_getD,h1,h2] using this
theorem zoC {n:Nat} {l:List Tb} {to_:Int} {L x:List Int} (h0:0 <= to_) (hl:∀ t ∈ l,OkT n t) (hL:Lab n l to_ L) (hx:Lab n l to_ x) (hfix:zbl l L = L) (hle:LeL L x) (hne:x ≠ L) :
  ∃j:Nat,j<n/\at0 x j≠at0 L j/\at0 (zbl l x) j=at0 L j:=by
 have hex:∃m:Nat,∃j:Nat,j<n/\at0 x j≠at0 L j/\(at0 L j).toNat=m:=by
  refine Classical.byContradiction fun hc=>hne (zsP hx.len hL.len fun j hj=>?_);refine Classical.byContradiction fun hd=>hc ⟨_,j,hj,hd,rfl⟩
 obtain⟨m,⟨j,hj,hd,rfl⟩,hmin⟩:=zqW hex;have k:=hle j (by omega);have s1:=hL.sign j (by omega);have s2:=hx.sign j (by omega);have hz1:=hL.zero;have hz2:=hx.zero;have hjt:(j:Int)≠to_:=by intro e;rw[e] at hd;omega
 obtain⟨t,ht,t1,t2,t3⟩:=hL.next j (by omega) (by omega) hjt (by omega);have hk:=hl t ht
 have hset:at0 x t.to_=at0 L t.to_:=by
  refine Classical.byContradiction fun hc=>hmin (at0 L t.to_).toNat (by have:=hk.2.2.2.2.2.1;omega) ⟨t.to_.toNat,by have:=hk.2.2;omega,?_,?_⟩
  ·rw[show((t.to_.toNat:Nat):Int)=t.to_ by have:=hk.2.2;omega];exact hc
  ·rw[show((t.to_.toNat:Nat):Int)=t.to_ by have:=hk.2.2;omega]
 refine⟨j,hj,hd,?_⟩;have:=zhD hL.len t2 (by rw[t1];exact t3) l x ht hx.len hl (zkT hL.len hl hfix) hle hset;rw[t1] at this;exact this
def nSet(L x:List Int):Nat->Nat
 |0=>0
 |n+1=>nSet L x n+(if at0 x n=at0 L n then 1 else 0)
theorem zoY(L x:List Int):∀n,nSet L x n<=n
 |0=>Nat.le_refl _
 |n+1=>by have:=zoY L x n;unfold nSet;split<;>omega
theorem zlF{L x y:List Int}(h:∀j:Nat,at0 x j=at0 L j->at0 y j=at0 L j):∀n,nSet L x n<=nSet L y n
 |0=>Nat.le_refl _
 |n+1=>by
  have:=zlF h n;unfold nSet
  split
  ·rename_i e;rw[if_pos (h n e)];omega
  ·split<;>omega
theorem zoZ{L x y:List Int}(h:∀j:Nat,at0 x j=at0 L j->at0 y j=at0 L j){j:Nat}(h1:at0 x j≠at0 L j)(h2:at0 y j=at0 L j):∀n,j<n->nSet L x n<nSet L y n
 |n+1,hj=>by
  have hm:=zlF h n;unfold nSet;by_cases e:j=n
  ·subst e;rw[if_neg h1,if_pos h2];omega
  ·have:=zoZ h h1 h2 n (by omega)
   split
   ·rename_i e;rw[if_pos (h n e)];omega
   ·split<;>omega
theorem znv{L x:List Int}{j:Nat}(h:at0 x j=at0 L j):∀n,j<n->1<=nSet L x n
 |n+1,hj=>by
  unfold nSet;by_cases e:j=n
  ·subst e;rw[if_pos h];omega
  ·have:=znv h n (by omega);omega
def far0(n:Nat)(to_:Int):List Int:=(List.replicate n (-1)).set to_.toNat 0
theorem zeU(n:Nat)(to_:Int):(far0 n to_).length=n:=by simp[far0]
theorem zg9{n:Nat}{to_:Int}(h0:0<=to_)(h1:to_<n)(j:Int)(hj:0<=j):at0 (far0 n to_) j=if j=to_ then 0 else if j<n then-1 else 0:=by
 unfold far0;rw[zoL _ _ _ _ hj h0 (by simp;omega)]
 split
 ·rfl
 ·unfold at0;rw[List.getD_eq_getElem?_getD,List.getElem?_replicate];by_cases h:j<n
  ·rw[if_pos (by omega),if_pos h];rfl
  ·rw[if_neg (by omega),if_neg h];rfl
theorem zgO{n:Nat}{l:List Tb}{to_:Int}(h0:0<=to_)(h1:to_<n):Lab n l to_ (far0 n to_):=by
 refine⟨zeU _ _,fun j hj=>?_,?_,fun v hv0 hv1 hvt hv=>?_⟩
 ·rw[zg9 h0 h1 j hj];split<;>(try split)<;>omega
 ·rw[zg9 h0 h1 _ h0,if_pos rfl]
 ·rw[zg9 h0 h1 v hv0,if_neg hvt,if_pos hv1] at hv;omega
theorem zoQ{n:Nat}{l:List Tb}{to_:Int}(h0:0<=to_)(h1:to_<n)(hl:∀t∈l,OkT n t):zbl l (zaA l n (far0 n to_))=zaA l n (far0 n to_):=by
 obtain⟨N,hN⟩:=zp4 hl (far0 n to_) (zeU n to_);have hb:=zgO (l:=l) h0 h1;obtain⟨L,hL⟩:∃L,L=zaA l N (far0 n to_):=⟨_,rfl⟩
 have hLl:Lab n l to_ L:=by rw[hL];exact hb.iter h0 hl N
 have hfix:zbl l L=L:=by rw[hL];exact hN
 have hall:=zkT hLl.len hl hfix
 have hle0:LeL L (far0 n to_):=by
  intro j hj;rw[zg9 h0 h1 j hj];have hz:=hLl.zero;by_cases e:j=to_
  ·rw[if_pos e,e];omega
  ·rw[if_neg e];by_cases hlt:j<n
   ·rw[if_pos hlt];left;omega
   ·rw[if_neg hlt];right;have:at0 L j=0:=by unfold at0;rw[List.getD_eq_getElem?_getD,List.getElem?_eq_none (by have:=hLl.len;omega)];rfl
    omega
 have hle:∀k,LeL L (zaA l k (far0 n to_)):=by
  intro k
  induction k with
  |zero=>exact hle0
  |succ k ih=>rw[zc0];exact zgT hLl.len l _ (by rw[zfK,zeU]) hl hall ih
 have hcount:∀k,zaA l k (far0 n to_)=L\/k+1<=nSet L (zaA l k (far0 n to_)) n:=by
  intro k
  induction k with
  |zero=>
   right;refine znv (j:=to_.toNat) ?_ n (by omega);rw[show((to_.toNat:Nat):Int)=to_ by omega];exact hb.zero.trans hLl.zero.symm
  |succ k ih=>
   rcases ih with ih|ih
   ·left;rw[zc0,ih];exact hfix
   ·by_cases he:zaA l k (far0 n to_)=L
    ·left;rw[zc0,he];exact hfix
    ·right;have hx:=hb.iter h0 hl k;obtain⟨j,hj,d1,d2⟩:=zoC h0 hl hLl hx hfix (hle k) he;rw[zc0]
     have hmono:∀j:Nat,at0 (zaA l k (far0 n to_)) j=at0 L j->at0 (zbl l (zaA l k (far0 n to_))) j=at0 L j:=by
      intro j hj;have a1:=zhC l _ hx.len hl j (by omega);have a2:=hle (k+1) j (by omega);rw[zc0] at a2;have s1:=hLl.sign j (by omega);have s2:=(hx.round h0 hl).sign j (by omega);have s3:=hx.sign j (by omega);change at0 (zbl l _) _=_;have a1':at0 (zaA l k (far0 n to_)) ↑j<0\/0<=at0 (zbl l (zaA l k (far0 n to_))) ↑j/\at0 (zbl l (zaA l k (far0 n to_))) ↑j<=at0 (zaA l k (far0 n to_)) ↑j:=a1;omega
     have:=zoZ hmono d1 d2 n hj;omega
 rcases hcount n with h|h
 ·rw[h];exact hfix
 ·have:=zoY L (zaA l n (far0 n to_)) n;omega
theorem zl2(l:List Tb){x:List Int}(h:zbl l x=x):∀k,zaA l k x=x
 |0=>rfl
 |k+1=>by show zaA l k (zbl l x)=x;rw[h];exact zl2 l h k
theorem zl1(l:List Tb):∀(a b:Nat) (x:List Int),zaA l (a+b) x=zaA l b (zaA l a x)
 |0,b,x=>by rw[Nat.zero_add];rfl
 |a+1,b,x=>by rw[Nat.add_right_comm];exact zl1 l a b (zbl l x)
theorem zjY(l:List Tb){x:List Int}{a b:Nat}(hab:a<=b)(h:zbl l (zaA l a x)=zaA l a x):zaA l b x=zaA l a x:=by
 obtain⟨d,rfl⟩:=Nat.exists_eq_add_of_le hab;rw[zl1];exact zl2 l h d
theorem zrn{n:Nat}{x:List Int}{t:Tb}{m:Int}(hx:x.length=n)(ht:OkT n t)(h:∀j,0<=j->at0 x j<=m)(hm:0<=m):∀j,0<=j->at0 (zar x t) j<=m+2000:=by
 intro j hj;have:=h j hj;rcases zb6 hx ht with ⟨he,-⟩|⟨ha,hb,hc,hd⟩
 ·rw[he];omega
 ·rw[hd j hj];have:=h t.to_ ht.2.2.1;have:=ht.2.2.2.2.2.2
  split<;>omega
theorem zgS{n:Nat}:∀(q:List Tb) (x:List Int) (m:Int),x.length=n->(∀t∈q,OkT n t)->(∀j,0<=j->at0 x j<=m)->0<=m->∀j,0<=j->at0 (q.foldl zar x) j<=m+2000*q.length
 | [],x,m,_,_,h,_=>fun j hj=>by have:=h j hj;simp only[List.foldl_nil,List.length_nil];omega
 |t::q,x,m,hx,hq,h,hm=>by
  intro j hj;have:=zgS q (zar x t) (m+2000) ((zcw x t).trans hx) (fun s hs=>hq s (List.mem_cons_of_mem _ hs)) (zrn hx (hq t List.mem_cons_self) h hm) (by omega) j hj;rw[List.foldl_cons,List.length_cons];omega
theorem zfJ{n:Nat}{l:List Tb}{to_:Int}(h0:0<=to_)(h1:to_<n)(hl:∀t∈l,OkT n t)(h24:l.length<=24):∀(k:Nat) (j:Int),0<=j->at0 (zaA l k (far0 n to_)) j<=48000*k
 |0,j,hj=>by show at0 (far0 n to_) j<=_;rw[zg9 h0 h1 j hj];split<;>(try split)<;>omega
 |k+1,j,hj=>by
  rw[zc0];have:=zgS l (zaA l k (far0 n to_)) (48000*k) (by rw[zfK,zeU]) hl (zfJ h0 h1 hl h24 k) (by omega) j hj;change at0 (zbl l _) j<=_ at this;omega
def farF(x:Nt)(to_:Int):List Int:=zaA x.tubes x.sta.toNat (far0 x.sta.toNat to_)
def zc3(L:List Int)(p:Int)(t:Tb):Bool:=t.from_==p&&(decide (0<=at0 L t.to_)&&at0 L t.to_+t.len==at0 L p)
def wayF(l:List Tb)(L:List Int)(to_:Int):Nat->Int->List Int
 |0,_=>[]
 |f+1,p=>if p=to_ then [] else match l.findIdx? (zc3 L p) with
  |some i=>(i:Int)::wayF l L to_ f ((l[i]?.getD ⟨0,0,0⟩).to_)
  |none=>[]
def wayG(l:List Tb)(L:List Int)(to_:Int)(p:Int):List Int:=wayF l L to_ ((at0 L p).toNat+1) p
theorem zbx{x:Nt}(h:okNt x=true):2<=x.sta/\x.sta<=10/\x.tubes.length<=24/\∀t∈x.tubes,OkT x.sta.toNat t:=by
 unfold okNt at h;simp only[Bool.and_eq_true,decide_eq_true_eq,List.all_eq_true] at h;have h1:=zam.1 h.1;refine⟨h1.1,h1.2,h.2.1,fun t ht=>?_⟩;have:=h.2.2 t ht;rw[show x.sta=((x.sta.toNat:Nat):Int) by omega] at this;exact zsu this
theorem zgP{x:Nt}{to_:Int}(h:okNt x=true)(h0:0<=to_)(h1:to_<x.sta):Lab x.sta.toNat x.tubes to_ (farF x to_):=by
 obtain⟨k1,k2,k3,k4⟩:=zbx h;exact(zgO h0 (by omega)).iter h0 k4 _
theorem zrZ{x:Nt}{to_:Int}(h:okNt x=true)(h0:0<=to_)(h1:to_<x.sta):zbl x.tubes (farF x to_)=farF x to_:=by
 obtain⟨k1,k2,k3,k4⟩:=zbx h;exact zoQ h0 (by omega) k4
theorem zkS{x:Nt}{to_:Int}(h:okNt x=true)(h0:0<=to_)(h1:to_<x.sta)(j:Int)(hj:0<=j):at0 (farF x to_) j<=480000:=by
 obtain⟨k1,k2,k3,k4⟩:=zbx h;have:=zfJ h0 (show to_<(x.sta.toNat:Nat) by omega) k4 k3 x.sta.toNat j hj;have e:zaA x.tubes x.sta.toNat (far0 x.sta.toNat to_)=farF x to_:=rfl;rw[e] at this;omega
theorem zmh{l:List Tb}{L:List Int}{to_:Int}(hlen:∀t∈l,1<=t.len)(h0:∀j,0<=j->at0 L j=-1\/0<=at0 L j):∀(f g:Nat) (p:Int),(at0 L p).toNat<f->(at0 L p).toNat<g->wayF l L to_ f p=wayF l L to_ g p
 |f+1,g+1,p,hf,hg=>by
  unfold wayF;by_cases e:p=to_
  ·rw[if_pos e,if_pos e]
  ·rw[if_neg e,if_neg e];rcases hi:l.findIdx? (zc3 L p) with _|i
   ·rfl
   ·simp only;rw[List.findIdx?_eq_some_iff_getElem] at hi;obtain⟨h1,h2,-⟩:=hi;rw[List.getElem?_eq_getElem h1,Option.getD_some];have hk:=hlen l[i] (List.getElem_mem h1);simp only[zc3,Bool.and_eq_true,beq_iff_eq,decide_eq_true_eq] at h2;rw[zmh hlen h0 f g _ (by omega) (by omega)]
theorem zmi {x:Nt} {to_:Int} (h:okNt x = true) (h0:0 <= to_) (h1:to_ < x.sta) {p:Int} (hp0:0 <= p) (hp1:p < x.sta) (hp:0 <= at0 (farF x to_) p) (hne:p ≠ to_) :
  ∃(i:Nat) (t:Tb),x.tubes[i]?=some t/\zc3 (farF x to_) p t=true/\(∀(j:Nat) (s:Tb),j<i->x.tubes[j]?=some s->zc3 (farF x to_) p s=false)/\0<=at0 (farF x to_) t.to_/\at0 (farF x to_) t.to_<at0 (farF x to_) p/\0<=t.to_/\t.to_<x.sta/\
   wayG x.tubes (farF x to_) to_ p=(i:Int)::wayG x.tubes (farF x to_) to_ t.to_:=by
 obtain⟨k1,k2,k3,k4⟩:=zbx h;have hL:=zgP h h0 h1;have hfix:=zkT hL.len k4 (zrZ h h0 h1);obtain⟨t,ht,t1,t2,t3⟩:=hL.next p hp0 (by omega) hne hp
 have hstep:zc3 (farF x to_) p t=true:=by
  have:at0 (farF x to_) t.to_+t.len=at0 (farF x to_) p:=by
   rcases zb6 hL.len (k4 t ht) with ⟨-,hq⟩|⟨q1,q2,q3,q4⟩
   ·rw[t1] at hq;omega
   ·have:=q4 t.from_ (k4 t ht).1;rw[hfix t ht,if_pos rfl,t1] at this;omega
  simp[zc3,t1,t2,this]
 have hsome:(x.tubes.findIdx? (zc3 (farF x to_) p)).isSome:=by
  rcases hn:x.tubes.findIdx? (zc3 (farF x to_) p) with _|i
  ·have:=List.findIdx?_eq_none_iff.1 hn t ht;rw[hstep] at this;cases this
  ·rfl
 obtain⟨i,hi⟩:=Option.isSome_iff_exists.1 hsome;have hi':=hi;rw[List.findIdx?_eq_some_iff_getElem] at hi;obtain⟨q1,q2,q3⟩:=hi;have hk:=k4 x.tubes[i] (List.getElem_mem q1);have q2':=q2;simp only[zc3,Bool.and_eq_true,beq_iff_eq,decide_eq_true_eq] at q2';have hlen:=hk.2.2.2.2.2.1;refine⟨i,x.tubes[i],List.getElem?_eq_getElem q1,q2,fun j s hj hs=>?_,q2'.2.1,by omega,hk.2.2.1,by have:=hk.2.2.2.1;omega,?_⟩
 ·have:=q3 j hj;rw[List.getElem?_eq_getElem (by omega)] at hs;injection hs with hs;rw[hs] at this;simpa using this
 ·unfold wayG;rw[wayF];rw[if_neg hne,hi'];simp only;rw[List.getElem?_eq_getElem q1,Option.getD_some]
  congr 1
  exact zmh (fun t ht=>(k4 t ht).2.2.2.2.2.1) hL.sign _ _ _ (by omega) (by omega)
theorem zob{x:Nt}{to_:Int}:wayG x.tubes (farF x to_) to_ to_=[]:=by
 unfold wayG;rw[wayF,if_pos rfl]
theorem zfb(l:List Tb)(L:List Int)(to_:Int):∀(f:Nat) (p:Int),(wayF l L to_ f p).length<=f
 |0,_=>Nat.le_refl _
 |f+1,p=>by
  unfold wayF
  split
  ·exact Nat.zero_le _
  ·split
   ·have:=zfb l L to_ f ((l[(‹Nat›)]?.getD ⟨0,0,0⟩).to_);simp only[List.length_cons];omega
   ·exact Nat.zero_le _
def wayC(x:Nt)(a b:Int):List Int×Int:=
 if okNt x=false then ([],1) else if (inR a 0 (x.sta-1)&&inR b 0 (x.sta-1))=false then ([],2) else if at0 (farF x b) a<0 then ([],3) else (wayG x.tubes (farF x b) b a,0)
end Go.Proofs.YtjalgpioklcbfaaGreatDoor
