/- Steps of the proof. -/
import Derived.Test.YtjalgpioklcbfaaGreatDoorKRnI
set_option linter.unusedVariables false
set_option linter.unusedSimpArgs false
set_option maxHeartbeats 4000000
set_option maxRecDepth 100000
namespace Go.Proofs.YtjalgpioklcbfaaGreatDoor
section
open Go.RowKit
def inB(A:Option Addr)(b:Nat):Prop:=∃ad,A=some ad/\ad.block=b
structure Off (S:Nat->Prop) (w w':World):Prop where
 os:w'.os=w.os
 tape:w'.tape=w.tape
 output:w'.output=w.output
 size:w.heap.size<=w'.heap.size
 block:∀k,k<w.heap.size->¬S k->w'.heap[k]?=w.heap[k]?
section
variable {S S':Nat->Prop}{a b w w':World}{B lo hi:Nat}
theorem Off.refl(S:Nat->Prop)(w:World):Off S w w:=⟨rfl,rfl,rfl,Nat.le_refl _,fun _ _ _=>rfl⟩
theorem Off.trans(h:Off S a b)(k:Off S b w):Off S a w:=
 ⟨k.os.trans h.os,k.tape.trans h.tape,k.output.trans h.output,Nat.le_trans h.size k.size,fun i hi hn=>(k.block i (Nat.lt_of_lt_of_le hi h.size) hn).trans (h.block i hi hn)⟩
theorem Off.mono(h:Off S a w)(hs:∀b,S b->S' b):Off S' a w:=⟨h.os,h.tape,h.output,h.size,fun k hk hn=>h.block k hk fun hk'=>hn (hs k hk')⟩
theorem Off.of_below(h:Below w.heap.size w w')(S:Nat->Prop):Off S w w':=⟨h.os,h.tape,h.output,h.size,fun k hk _=>h.block k hk⟩
theorem Off.then_(h:Off S a b)(k:Below b.heap.size b w):Off S a w:=h.trans (Off.of_below k S)
theorem Off.setCell(h:Off S a w){p:Addr}(hp:S p.block)(u:Value):Off S a (w.setCell p u):=
 ⟨h.os,h.tape,h.output,by simpa[World.setCell] using h.size,fun i hi hn=>(Below.heap_setCell w p u i (fun e=>hn (by rw[e];exact hp))).trans (h.block i hi hn)⟩
theorem Off.below(h:Off S w w')(hs:∀b,S b->B<=b)(hB:B<=w.heap.size):Below B w w':=⟨h.os,h.tape,h.output,h.size,fun k hk=>h.block k (by omega) fun hk'=>by have:=hs k hk';omega⟩
theorem Blk.keepOnly{g:Nat}{t:TypeId}{cs:Array Value}(h:Blk w g t cs)(ho:Only lo hi w w')(hg:g<lo\/hi<=g):Blk w' g t cs:=(ho.block g h.lt hg).trans h
theorem Sl.off{t:TypeId}{size n c:Nat}{A:Option Addr}{xs:List Value}(h:Sl w lo hi t size A n c xs)(ho:Off S w w')(hs:∀b,inB A b->¬S b):Sl w' lo hi t size A n c xs:=by
 refine⟨⟨h.1.1,?_⟩,h.2⟩;rcases h.1.2 with hn|⟨g,cap,cur,h',hb,hg,rest⟩
 ·exact .inl hn
 ·refine .inr ⟨g,cap,cur,h',hb,?_,rest⟩;injection h' with h1;exact(ho.block g (Array.getElem?_eq_some_iff.1 hg).1 (hs g ⟨_,h1,rfl⟩)).trans hg
theorem Sl.inB_lt{t:TypeId}{size n c:Nat}{A:Option Addr}{xs:List Value}(h:Sl w lo hi t size A n c xs){b:Nat}(hb:inB A b):lo<=b/\b<hi:=by
 obtain⟨ad,rfl,rfl⟩:=hb;rcases h.form with ⟨h0,_⟩|⟨g,cur,h1,h2,h3,_⟩
 ·cases h0
 ·injection h1 with h1;subst h1;exact⟨h2,h3⟩
theorem Sl.inB_heap{t:TypeId}{size n c:Nat}{A:Option Addr}{xs:List Value}(h:Sl w lo hi t size A n c xs){b:Nat}(hb:inB A b):b<w.heap.size:=by
 have:=h.low.inB_lt hb;exact this.2
end
theorem zdH(g o:Nat):inB (some ⟨g,o,none⟩) g:=⟨_,rfl,rfl⟩
theorem zb4{b:Nat}:¬inB none b:=fun⟨_,h,_⟩=>by cases h
structure OwnR (w:World) (lo hi:Nat) (A:Option Addr) (n c:Nat) (rs:List Rn) (rh:List RnH):Prop where
 row:Sl w lo hi 123 2 A n c (rns rh)
 len:rs.length=n
 at_:∀(i:Nat) (h:RnH) (r:Rn),rh[i]?=some h->rs[i]?=some r->h.st=r.st/\h.m<=9223372036854775807/\Sl w lo hi 2 1 h.A h.m h.c (ints r.way)
 ne:∀(i:Nat) (h:RnH),rh[i]?=some h->∀b,inB h.A b->¬inB A b
 ne2:∀(i j:Nat) (h h':RnH),i≠j->rh[i]?=some h->rh[j]?=some h'->∀b,inB h.A b->¬inB h'.A b
def inRn(A:Option Addr)(rh:List RnH)(b:Nat):Prop:=inB A b\/∃(i:Nat) (h:RnH),rh[i]?=some h/\inB h.A b
section
variable {w w':World}{lo hi lo' hi' n c:Nat}{A:Option Addr}{rs:List Rn}{rh:List RnH}{S:Nat->Prop}
theorem OwnR.hlen(h:OwnR w lo hi A n c rs rh):rh.length=n:=by have:=h.row.len;rw[zc1] at this;omega
theorem OwnR.get(h:OwnR w lo hi A n c rs rh){i:Nat}{x:RnH}(hx:rh[i]?=some x):∃r,rs[i]?=some r:=by
 have:=(List.getElem?_eq_some_iff.1 hx).1;exact⟨_,List.getElem?_eq_getElem (by rw[h.len,<-h.hlen];exact this)⟩
theorem OwnR.inRn_lt(h:OwnR w lo hi A n c rs rh){b:Nat}(hb:inRn A rh b):lo<=b/\b<hi:=by
 rcases hb with hb|⟨i,x,hx,hb⟩
 ·exact h.row.inB_lt hb
 ·obtain⟨r,hr⟩:=h.get hx;exact(h.at_ i x r hx hr).2.2.inB_lt hb
theorem OwnR.off(h:OwnR w lo hi A n c rs rh)(ho:Off S w w')(hs:∀b,inRn A rh b->¬S b):OwnR w' lo hi A n c rs rh:=
 ⟨h.row.off ho fun b hb=>hs b (.inl hb),h.len,fun i x r hx hr=>⟨(h.at_ i x r hx hr).1,(h.at_ i x r hx hr).2.1,(h.at_ i x r hx hr).2.2.off ho fun b hb=>hs b (.inr ⟨i,x,hx,hb⟩)⟩,h.ne,h.ne2⟩
theorem OwnR.on(h:OwnR w lo hi A n c rs rh)(hb:Below w.heap.size w w'):OwnR w' lo hi A n c rs rh:=
 ⟨h.row.on hb,h.len,fun i x r hx hr=>⟨(h.at_ i x r hx hr).1,(h.at_ i x r hx hr).2.1,(h.at_ i x r hx hr).2.2.on hb⟩,h.ne,h.ne2⟩
theorem OwnR.wide(h:OwnR w lo hi A n c rs rh)(h1:lo'<=lo)(h2:hi<=hi'):OwnR w lo' hi' A n c rs rh:=
 ⟨h.row.wide h1 h2,h.len,fun i x r hx hr=>⟨(h.at_ i x r hx hr).1,(h.at_ i x r hx hr).2.1,(h.at_ i x r hx hr).2.2.wide h1 h2⟩,h.ne,h.ne2⟩
theorem OwnR.low(h:OwnR w lo hi A n c rs rh):OwnR w lo w.heap.size A n c rs rh:=
 ⟨h.row.low,h.len,fun i x r hx hr=>⟨(h.at_ i x r hx hr).1,(h.at_ i x r hx hr).2.1,(h.at_ i x r hx hr).2.2.low⟩,h.ne,h.ne2⟩
theorem OwnR.reads(h:OwnR w lo hi A n c rs rh){B:Nat}(hB:hi<=B):zaC w B A n rs:=
 ⟨rh,h.row.reads hB,h.len,fun i x r hx hr=>⟨(h.at_ i x r hx hr).1,(h.at_ i x r hx hr).2.1,(h.at_ i x r hx hr).2.2.reads hB⟩⟩
theorem OwnR.nil(w:World)(lo hi:Nat):OwnR w lo hi none 0 0 [] []:=⟨Sl.nil _ _ _ _ _,rfl,fun i x r hx=>by simp at hx,fun i x hx=>by simp at hx,fun i j x x' _ hx=>by simp at hx⟩
theorem OwnR.setWay(h:OwnR w lo hi A n c rs rh){i:Nat}{x:RnH}{r:Rn}(hx:rh[i]?=some x)(hr:rs[i]?=some r){way:List Int}(ho:Off (inB x.A) w w')(hw:Sl w' lo hi 2 1 x.A x.m x.c (ints way)):OwnR w' lo hi A n c (rs.set i ⟨way,r.st⟩) rh:=by
 refine⟨h.row.off ho fun b hb hb'=>h.ne i x hx b hb' hb,by rw[List.length_set];exact h.len,fun j y q hy hq=>?_,h.ne,h.ne2⟩;by_cases e:i=j
 ·subst e;rw[hx] at hy;injection hy with hy;subst hy;rw[List.getElem?_set_self (List.getElem?_eq_some_iff.1 hr).1] at hq;injection hq with hq;subst hq;exact⟨(h.at_ i x r hx hr).1,(h.at_ i x r hx hr).2.1,hw⟩
 ·rw[List.getElem?_set_ne e] at hq;exact⟨(h.at_ j y q hy hq).1,(h.at_ j y q hy hq).2.1,(h.at_ j y q hy hq).2.2.off ho fun b hb=>h.ne2 j i y x (Ne.symm e) hy hx b hb⟩
theorem zty{l:List RnH}:∀{i:Nat}{x:RnH} (v:Int),l[i]?=some x->(rns l).set (i*2+1) (.int .i64 v)=rns (l.set i ⟨x.A,x.m,x.c,v⟩):=by
 induction l with
 |nil=>intro i x v h;simp at h
 |cons y l ih=>
  intro i x v h
  cases i with
  |zero=>
   simp only[List.getElem?_cons_zero,Option.some.injEq] at h;subst h;simp[rns,zd7]
  |succ i=>
   have:=ih v (by simpa using h);simp only[rns,List.flatMap_cons,List.set_cons_succ,zd7] at this⊢;rw[show(i+1)*2+1=(i*2+1)+1+1 by omega];simp only[List.cons_append,List.nil_append,List.set_cons_succ];rw[this]
theorem OwnR.setStart{g:Nat}(h:OwnR w lo hi (some ⟨g,0,none⟩) n c rs rh){i:Nat}{x:RnH}{r:Rn}(hx:rh[i]?=some x)(hr:rs[i]?=some r)(v:Int):OwnR (w.setCell ⟨g,i*2+1,none⟩ (.int .i64 v)) lo hi (some ⟨g,0,none⟩) n c (rs.set i ⟨r.way,v⟩) (rh.set i ⟨x.A,x.m,x.c,v⟩):=by
 have ho:Off (inB (some ⟨g,0,none⟩)) w (w.setCell ⟨g,i*2+1,none⟩ (.int .i64 v)):=(Off.refl _ _).setCell ⟨_,rfl,rfl⟩ _;have hil:=(List.getElem?_eq_some_iff.1 hx).1
 have hget:∀(j:Nat) (y:RnH),(rh.set i ⟨x.A,x.m,x.c,v⟩)[j]?=some y->∃z,rh[j]?=some z/\z.A=y.A/\z.m=y.m/\z.c=y.c:=fun j y hy=>by
  by_cases e:i=j
  ·subst e;rw[List.getElem?_set_self hil] at hy;injection hy with hy;subst hy;exact⟨x,hx,rfl,rfl,rfl⟩
  ·rw[List.getElem?_set_ne e] at hy;exact⟨y,hy,rfl,rfl,rfl⟩
 refine⟨?_,by rw[List.length_set];exact h.len,fun j y q hy hq=>?_,fun j y hy b hb=>?_,fun j j' y y' hne hy hy' b hb=>?_⟩
 ·rw[<-zty v hx];exact h.row.set_ _ _
 ·by_cases e:i=j
  ·subst e;rw[List.getElem?_set_self hil] at hy;rw[List.getElem?_set_self (List.getElem?_eq_some_iff.1 hr).1] at hq;injection hy with hy;injection hq with hq;subst hy hq;exact⟨rfl,(h.at_ i x r hx hr).2.1,(h.at_ i x r hx hr).2.2.off ho fun b hb=>h.ne i x hx b hb⟩
  ·rw[List.getElem?_set_ne e] at hy hq;exact⟨(h.at_ j y q hy hq).1,(h.at_ j y q hy hq).2.1,(h.at_ j y q hy hq).2.2.off ho fun b hb=>h.ne j y hy b hb⟩
 ·obtain⟨z,hz,e1,_,_⟩:=hget j y hy;exact h.ne j z hz b (by rw[e1];exact hb)
 ·obtain⟨z,hz,e1,_,_⟩:=hget j y hy;obtain⟨z',hz',e1',_,_⟩:=hget j' y' hy';have:=h.ne2 j j' z z' hne hz hz' b (by rw[e1];exact hb);rw[e1'] at this;exact this
end
structure OwnD (w:World) (lo hi:Nat) (h:DkH) (d:Dk) (rh:List RnH):Prop where
 tubes:Sl w lo hi 101 3 h.A1 h.n1 h.c1 (tbs d.net.tubes)
 times:Sl w lo hi 2 1 h.A2 h.n2 h.c2 (ints d.times)
 runs:OwnR w lo hi h.A3 h.n3 h.c3 d.runs rh
 n12:∀b,inB h.A1 b->¬inB h.A2 b
 n1r:∀b,inB h.A1 b->¬inRn h.A3 rh b
 n2r:∀b,inB h.A2 b->¬inRn h.A3 rh b
def inD(h:DkH)(rh:List RnH)(b:Nat):Prop:=inB h.A1 b\/inB h.A2 b\/inRn h.A3 rh b
section
variable {w w':World}{lo hi lo' hi':Nat}{h:DkH}{d:Dk}{rh:List RnH}{S:Nat->Prop}
theorem OwnD.on(k:OwnD w lo hi h d rh)(hb:Below w.heap.size w w'):OwnD w' lo hi h d rh:=⟨k.tubes.on hb,k.times.on hb,k.runs.on hb,k.n12,k.n1r,k.n2r⟩
theorem OwnD.wide(k:OwnD w lo hi h d rh)(h1:lo'<=lo)(h2:hi<=hi'):OwnD w lo' hi' h d rh:=⟨k.tubes.wide h1 h2,k.times.wide h1 h2,k.runs.wide h1 h2,k.n12,k.n1r,k.n2r⟩
theorem OwnD.low(k:OwnD w lo hi h d rh):OwnD w lo w.heap.size h d rh:=⟨k.tubes.low,k.times.low,k.runs.low,k.n12,k.n1r,k.n2r⟩
theorem OwnD.off(k:OwnD w lo hi h d rh)(ho:Off S w w')(hs:∀b,inD h rh b->¬S b):OwnD w' lo hi h d rh:=
 ⟨k.tubes.off ho fun b hb=>hs b (.inl hb),k.times.off ho fun b hb=>hs b (.inr (.inl hb)),k.runs.off ho fun b hb=>hs b (.inr (.inr hb)),k.n12,k.n1r,k.n2r⟩
theorem OwnD.reads(k:OwnD w lo hi h d rh){B:Nat}(hB:hi<=B):DkR w B h d:=⟨k.tubes.reads hB,k.times.reads hB,k.runs.reads hB⟩
theorem OwnD.inD_lt(k:OwnD w lo hi h d rh){b:Nat}(hb:inD h rh b):lo<=b/\b<hi:=by
 rcases hb with hb|hb|hb
 ·exact k.tubes.inB_lt hb
 ·exact k.times.inB_lt hb
 ·exact k.runs.inRn_lt hb
end
-- the marks
def zbU(k:Int)(n:Nat):List Int:=(List.range n).map fun(i:Nat)=>k+(i:Int)
theorem zfq(k:Int)(n:Nat):(zbU k n).length=n:=by simp[zbU]
theorem zkh{k:Int}{n i:Nat}(h:i<n):(zbU k n)[i]?=some (k+(i:Int)):=by simp[zbU,h]
def zcm(k:Int)(n:Nat):List Tb:=(List.range n).map fun(i:Nat)=>⟨k+3*(i:Int),k+3*(i:Int)+1,k+3*(i:Int)+2⟩
theorem zhs(k:Int)(n:Nat):(zcm k n).length=n:=by simp[zcm]
theorem zki{k:Int}{n i:Nat}(h:i<n):(zcm k n)[i]?=some ⟨k+3*(i:Int),k+3*(i:Int)+1,k+3*(i:Int)+2⟩:=by simp[zcm,h]
def wlen(rs:List Rn)(i:Nat):Nat:=((rs[i]?).map fun r=>r.way.length).getD 0
theorem zpr{rs:List Rn}{i:Nat}{r:Rn}(h:rs[i]?=some r):wlen rs i=r.way.length:=by simp[wlen,h]
def kR(k:Int)(rs:List Rn):Nat->Int
 |0=>k
 |i+1=>kR k rs i+(wlen rs i:Int)+1
def zdz(k:Int)(rs:List Rn):List Rn:=(List.range rs.length).map fun i=>⟨zbU (kR k rs i) (wlen rs i),kR k rs i+(wlen rs i:Int)⟩
theorem zfO(k:Int)(rs:List Rn):(zdz k rs).length=rs.length:=by simp[zdz]
theorem zhU{k:Int}{rs:List Rn}{i:Nat}(h:i<rs.length):(zdz k rs)[i]?=some ⟨zbU (kR k rs i) (wlen rs i),kR k rs i+(wlen rs i:Int)⟩:=by simp[zdz,h]
theorem zi3{k:Int}{rs:List Rn}(hs:∀i,wlen rs i<=1048576):∀i:Nat,k<=kR k rs i/\kR k rs i<=k+1048577*(i:Int)
 |0=>by simp[kR]
 |i+1=>by
  have:=zi3 (k:=k) hs i;have:=hs i;unfold kR;omega
def k1D(k:Int)(d:Dk):Int:=k+3*(d.net.tubes.length:Int)
def k2D(k:Int)(d:Dk):Int:=k1D k d+(d.times.length:Int)
def k3D(k:Int)(d:Dk):Int:=kR (k2D k d) d.runs d.runs.length
def zgl(k:Int)(d:Dk):Dk:=⟨⟨d.net.sta,zcm k d.net.tubes.length⟩,zbU (k1D k d) d.times.length,zdz (k2D k d) d.runs,d.log⟩
end
section
open Go.RowKit Go.Proofs.Tryz
theorem zp3{ys:List Value}{l:List Int}{n:Nat}(h:zdC ys (ints l) n)(h1:ys.length=n)(h2:l.length=n):ys=ints l:=h.done h1 (by rw[za4];exact h2)
theorem zgm (A:Option Addr) (n c lo hi:Nat) (k0:Int) (xs:List Value) (w:World) (h:Sl w lo hi 2 1 A n c xs) (hn:n <= 1048576) (hk0:0 <= k0) (hk1:k0 <= 4000000000000) :
  Calls prog 56 #[.slice A n c,.int .i64 k0] w fun e w'=>e= .returned (.int .i64 (k0+(n:Int)))/\Sl w' lo hi 2 1 A n c (ints (zbU k0 n))/\Off (inB A) w w':=by
 have hxs:=hid h.len;go_enter func56,ntmps56;go_wp2
 go_loopw [1,5] (fun q i wr=>∃(k:Nat) (ys:List Value),k<=n/\i= .int .i64 k/\q= .int .i64 (k0+(k:Int))/\Sl wr lo hi 2 1 A n c ys/\zdC ys (ints (zbU k0 n)) k/\Off (inB A) w wr) (fun _ i _=>n-(RowKit.intOf i).toNat)
 case atStart=>exact⟨0,xs,Nat.zero_le _,rfl,by simp,h,zdC.zero _ _,Off.refl _ _⟩
 case round=>
  obtain⟨k,ys,hk,rfl,rfl,hsl,hfill,honly⟩:=hrel;have HS:=hid hsl;have HF:=hid hfill;have HO:=hid honly;have HL:=hid hsl.len;clear hsl hfill honly h;by_cases hlt:k<n
  ·obtain⟨g,rfl,hg1,hg2,hg3⟩:=HS.out.lt (by omega);have hcell:=HS.out.cellAt k (by omega);rw[List.getElem?_eq_getElem (by have:=HL.out;omega)] at hcell;have hfro:=HS.out.frozenAt k;go_wp2
   go_roundw
   case rel=>
    refine⟨k+1,_,by omega,by go_num,by simp;omega,HS.out.set_ _ _,?_,HO.out.setCell (p:=⟨g,k,none⟩) (zdH g 0) _⟩;exact HF.out.step (zeK (zkh hlt)) (by have:=HL.out;omega)
   case measure=>simp[RowKit.intOf];omega
  ·obtain rfl:k=n:=by omega
   have e:ys=ints (zbU k0 k):=zp3 HF.out (by have:=HL.out;omega) (zfq _ _);go_wp2;go_ret;exact⟨rfl,by rw[<-e];exact HS.out,HO.out⟩
theorem zlx (A:Option Addr) (n c B:Nat) (k0:Int) (w:World) (h:zad w B 1 A n (ints (zbU k0 n))) (hn:n <= 1048576) (hk0:0 <= k0) (hk1:k0 <= 4000000000000) :
  Calls prog 60 #[.slice A n c,.int .i64 k0] w fun e w'=>e= .returned (.int .i64 (k0+(n:Int)))/\Below w.heap.size w w':=by
 go_enter func60,ntmps60;go_wp2
 go_loop [1,5] (fun q i=>∃(k:Nat),k<=n/\i= .int .i64 k/\q= .int .i64 (k0+(k:Int))) (fun _ i=>n-(RowKit.intOf i).toNat)
 case atStart=>exact⟨0,Nat.zero_le _,rfl,by simp⟩
 case round=>
  obtain⟨k,hk,rfl,rfl⟩:=hrel;by_cases hlt:k<n
  ·obtain⟨x,b,off,he,rfl,hb,c0⟩:=zax h hlt;obtain rfl:k0+(k:Int)=x:=by rw[zkh hlt] at he;injection he
   clear he h;go_wp2
   go_round
   case rel=>exact⟨k+1,by omega,by go_num,by simp;omega⟩
   case measure=>simp[RowKit.intOf];omega
  ·obtain rfl:k=n:=by omega
   go_wp2;go_ret;exact⟨rfl,Below.refl _ _⟩
theorem ztS{n:Nat}{k0:Int}{k:Nat}(h:k<n):(tbs (zcm k0 n))[k*3]?=some (.int .i64 (k0+3*(k:Int)))/\(tbs (zcm k0 n))[k*3+1]?=some (.int .i64 (k0+3*(k:Int)+1))/\(tbs (zcm k0 n))[k*3+2]?=some (.int .i64 (k0+3*(k:Int)+2)):=zli (zki h)
theorem zsm (A:Option Addr) (n c lo hi:Nat) (k0:Int) (xs:List Value) (w:World) (h:Sl w lo hi 101 3 A n c xs) (hn:n <= 1048576) (hk0:0 <= k0) (hk1:k0 <= 4000000000000) :
  Calls prog 123 #[.slice A n c,.int .i64 k0] w fun e w'=>e= .returned (.int .i64 (k0+3*(n:Int)))/\Sl w' lo hi 101 3 A n c (tbs (zcm k0 n))/\Off (inB A) w w':=by
 have hxs:=hid h.len;go_enter func123,ntmps123;go_wp2
 go_loopw [1,5] (fun q i wr=>∃(k:Nat) (ys:List Value),k<=n/\i= .int .i64 k/\q= .int .i64 (k0+3*(k:Int))/\Sl wr lo hi 101 3 A n c ys/\zdC ys (tbs (zcm k0 n)) (k*3)/\Off (inB A) w wr) (fun _ i _=>n-(RowKit.intOf i).toNat)
 case atStart=>exact⟨0,xs,Nat.zero_le _,rfl,by simp,h,zdC.zero _ _,Off.refl _ _⟩
 case round=>
  obtain⟨k,ys,hk,rfl,rfl,hsl,hfill,honly⟩:=hrel;have HS:=hid hsl;have HF:=hid hfill;have HO:=hid honly;have HL:=hid hsl.len;clear hsl hfill honly h;by_cases hlt:k<n
  ·obtain⟨g,rfl,hg1,hg2,hg3⟩:=HS.out.lt (by omega);obtain⟨v0,hv0⟩:=zi4 (ys:=ys) (j:=k*3) (by have:=HL.out;omega);obtain⟨v1,hv1⟩:=zi4 (ys:=ys) (j:=k*3+1) (by have:=HL.out;omega);obtain⟨v2,hv2⟩:=zi4 (ys:=ys) (j:=k*3+2) (by have:=HL.out;omega);have c0:=(HS.out.cellAt (k*3) (by omega)).trans hv0;have c1:=(HS.out.cellAt (k*3+1) (by omega)).trans hv1;have c2:=(HS.out.cellAt (k*3+2) (by omega)).trans hv2;have f0:=HS.out.frozenAt (k*3);have f1:=HS.out.frozenAt (k*3+1);have f2:=HS.out.frozenAt (k*3+2);have hk0':(0:Int)<=k:=by omega
   have hkn:(k:Int)<n:=by omega
   clear hv0 hv1 hv2;go_wp2
   go_roundw
   case rel=>
    obtain⟨e0,e1,e2⟩:=ztS (k0:=k0) hlt;refine⟨k+1,_,by omega,by go_num,by simp;omega,((HS.out.set_ _ _).set_ _ _).set_ _ _,?_,((HO.out.setCell (p:=⟨g,k*3,none⟩) (zdH g 0) _).setCell (p:=⟨g,k*3+1,none⟩) (zdH g 0) _).setCell (p:=⟨g,k*3+2,none⟩) (zdH g 0) _⟩;have q:=((HF.out.step e0 (by have:=HL.out;omega)).step e1 (by have:=HL.out;simp;omega)).step e2 (by have:=HL.out;simp;omega);rw[show(k+1)*3=k*3+1+1+1 by omega];simpa[Int.add_assoc] using q
   case measure=>simp[RowKit.intOf];omega
  ·obtain rfl:k=n:=by omega
   have e:ys=tbs (zcm k0 k):=HF.out.done (by have:=HL.out;omega) (by rw[zea,zhs]);go_wp2;go_ret;exact⟨rfl,by rw[<-e];exact HS.out,HO.out⟩
theorem zse (A:Option Addr) (n c B:Nat) (k0:Int) (w:World) (h:zad w B 3 A n (tbs (zcm k0 n))) (hn:n <= 1048576) (hk0:0 <= k0) (hk1:k0 <= 4000000000000) :
  Calls prog 124 #[.slice A n c,.int .i64 k0] w fun e w'=>e= .returned (.int .i64 (k0+3*(n:Int)))/\Below w.heap.size w w':=by
 go_enter func124,ntmps124;go_wp2
 go_loop [1,5] (fun q i=>∃(k:Nat),k<=n/\i= .int .i64 k/\q= .int .i64 (k0+3*(k:Int))) (fun _ i=>n-(RowKit.intOf i).toNat)
 case atStart=>exact⟨0,Nat.zero_le _,rfl,by simp⟩
 case round=>
  obtain⟨k,hk,rfl,rfl⟩:=hrel;by_cases hlt:k<n
  ·obtain⟨x,b,off,he,rfl,hb,c0,c1,c2⟩:=zdD h hlt;obtain rfl:(⟨k0+3*(k:Int),k0+3*(k:Int)+1,k0+3*(k:Int)+2⟩:Tb)=x:=by rw[zki hlt] at he;injection he
   have c2':w.cell? ⟨b,off+k*3+2,none⟩=some (.int .i64 (k0+3*(k:Int)+1+1)):=by rw[c2];simp;omega
   have hk0':(0:Int)<=k:=by omega
   have hkn:(k:Int)<n:=by omega
   simp only at c0 c1;clear he h c2;go_wp2
   go_round
   case rel=>exact⟨k+1,by omega,by go_num,by simp;omega⟩
   case measure=>simp[RowKit.intOf];omega
  ·obtain rfl:k=n:=by omega
   go_wp2;go_ret;exact⟨rfl,Below.refl _ _⟩
end
section
open Go.RowKit Go.Lib Go.Proofs.Tryz
def okDk(d:Dk):Bool:=okNt d.net&&(zap d.times d.runs&&za9 d.log==0)
theorem zqQ (s:ByteArray) (m:Int) (w:World) (hs:s.size <= 1048576) (hm:w.cell? ⟨1,0,none⟩ = some (.int .i64 m)) (ht:TabP w) (hv:SynP w) :
  Calls prog 72 #[.string s] w fun e w'=>e= .returned (.bool (za9 s==0))/\Below w.heap.size w w':=by
 have HC:=hid (zgw s m w hs hm ht hv);clear ht hv hm;go_enter func72,ntmps72
 go_wp2_with fail
 refine HC.out.mono ?_;rintro e w1 ⟨A,n,d,rfl,hsl,b1⟩;have HB:=hid b1;clear hsl b1;go_wp2;go_ret;exact⟨rfl,HB.out.alloc HB.out.size _⟩
theorem zfs (h:DkH) (d:Dk) (m:Int) (B:Nat) (w:World) (hr:DkR w B h d) (hs:DkS h d) (hB:B <= w.heap.size) (hm:w.cell? ⟨1,0,none⟩ = some (.int .i64 m)) (ht:TabP w) (hv:SynP w) :
  Calls prog 30 #[.agg #[.int .i64 d.net.sta,.slice h.A1 h.n1 h.c1,.slice h.A2 h.n2 h.c2,.slice h.A3 h.n3 h.c3,.string d.log]] w fun e w'=>e= .returned (.bool (okDk d))/\Below w.heap.size w w':=by
 obtain⟨W,hW,y0,hb⟩:∃W,W=w.alloc (.cells #[.int .i64 d.net.sta,.slice h.A1 h.n1 h.c1,.slice h.A2 h.n2 h.c2,.slice h.A3 h.n3 h.c3,.string d.log] 32)/\Blk W w.heap.size 32 #[.int .i64 d.net.sta,.slice h.A1 h.n1 h.c1,.slice h.A2 h.n2 h.c2,.slice h.A3 h.n3 h.c3,.string d.log]/\Below w.heap.size w W:=⟨_,rfl,Blk.new _ _ _,bal _⟩
 have HW:=hid hW;have HB:=hid hb;have HY:=hid y0;have HR:=hid hr;have HS:=hid hs;have HM:=hid hm;have HT:=hid ht;have HV:=hid hv;clear hW hb y0 hr hs hm ht hv;go_enter func30,ntmps30
 go_wp2_with fail
 rw[<-HW.out];refine(zdy h.A1 h.n1 h.c1 B d.net W (HR.out.tubes.on hB HB.out) (Nat.le_trans hB HB.out.size) HS.out.n1).mono ?_;rintro e w1 ⟨rfl,b1⟩;have HB1:=hid (zac HB.out b1 lr);have HY1:=hid (HY.out.on b1);have a2:=HY1.out.cellAt 2 (by simp);have a3:=HY1.out.cellAt 3 (by simp);simp only[ly] at a2 a3;clear b1;rcases e1:okNt d.net with _|_
 ·have HO:=hid (show okDk d=false by simp only[okDk,e1,Bool.false_and]);go_wp2;go_ret;exact⟨zae HO.out.symm,HB1.out⟩
 have HO1:=hid (show okDk d=(zap d.times d.runs&&za9 d.log==0) by simp only[okDk,e1,Bool.true_and])
 go_wp2_with fail
 refine(zec h.A2 h.n2 h.c2 d.times h.A3 h.n3 h.c3 B d.runs w1 (HR.out.times.on hB HB1.out) (HR.out.runs.on hB HB1.out) (Nat.le_trans hB HB1.out.size) HS.out.n2 HS.out.n3 HS.out.runs).mono ?_;rintro e w2 ⟨rfl,b2⟩;have HB2:=hid (zac HB1.out b2 lr);have a4:=(HY1.out.on b2).cellAt 4 (by simp);simp only[ly] at a4;clear b2 a2 a3;rcases e2:zap d.times d.runs with _|_
 ·have HO:=hid (show okDk d=false by rw[HO1.out,e2,Bool.false_and]);go_wp2;go_ret;exact⟨zae HO.out.symm,HB2.out⟩
 have HO2:=hid (show okDk d=(za9 d.log==0) by rw[HO1.out,e2,Bool.true_and])
 go_wp2_with fail
 refine(zqQ d.log m w2 HS.out.log (zaa HB2.out HM.out) (zaw HT.out HB2.out) (zbk HV.out HB2.out)).mono ?_;rintro e w3 ⟨rfl,b3⟩;have HB3:=hid (zac HB2.out b3 lr);clear b3 a4;go_wp2;go_ret;exact⟨zae HO2.out.symm,HB3.out⟩
theorem zqV (h:DkH) (d:Dk) (B g:Nat) (w:World) (hr:DkR w B h d) (hs:DkS h d) (hB:B <= w.heap.size) (y0:Blk w g 32 #[.int .i64 d.net.sta,.slice h.A1 h.n1 h.c1,.slice h.A2 h.n2 h.c2,.slice h.A3 h.n3 h.c3,.string d.log]) :
  Calls prog 37 #[.pointer (some ⟨g,0,none⟩)] w fun e w'=>e= .returned (.bool (okDk d))/\Below w.heap.size w w':=by
 have HY:=hid y0;have HR:=hid hr;have HS:=hid hs;have a4:=y0.cellAt 4 (by simp);simp only[ly] at a4;clear y0 hr hs;go_enter func37,ntmps37
 go_wp2_with fail
 refine(zdb d.log w HS.out.log).mono ?_;rintro e w1 ⟨g1,rfl,hrec,b1⟩;have HB1:=hid b1;have HY1:=hid (HY.out.on b1);have c0:=HY1.out.cellAt 0 (by simp);have c1:=HY1.out.cellAt 1 (by simp);have c2:=HY1.out.cellAt 2 (by simp);have c3:=HY1.out.cellAt 3 (by simp);simp only[ly] at c0 c1 c2 c3;clear b1 hrec a4
 go_upto_region 2 with fail
 rcases e1:okNt d.net with _|_
 ·have HO:=hid (show okDk d=false by simp only[okDk,e1,Bool.false_and]);refine ez (fun W=>Below w1.heap.size w1 W/\W.cell? ⟨g,0,none⟩=some (.int .i64 d.net.sta)/\W.cell? ⟨g,1,none⟩=some (.slice h.A1 h.n1 h.c1)/\W.cell? ⟨g,2,none⟩=some (.slice h.A2 h.n2 h.c2)/\W.cell? ⟨g,3,none⟩=some (.slice h.A3 h.n3 h.c3)) ?_ fun hHeld=>?_
  ·exact⟨(Below.refl _ _).drew,c0,c1,c2,c3⟩
  refine dq 0 rfl (h:=dq 1 rfl (h:=dq 2 rfl (h:=?_)));refine rd 3 rfl fun K hK=>?_;go_simp
  go_at_call 97
  refine(zfh h.A1 h.n1 h.c1 B g d.net _ (HR.out.tubes.on hB (zac HB1.out hHeld.1 lr)) (Nat.le_trans hB (zac HB1.out hHeld.1 lr).size) HS.out.n1 hHeld.2.1 hHeld.2.2.1).mono ?_;rw[e1];rintro e w2 ⟨rfl,b2⟩
  go_wp2_with fail
  refine ke hK ?_ ?_
  ·exact⟨zac hHeld.1 b2 lr,zaa b2 hHeld.2.1,zaa b2 hHeld.2.2.1,zaa b2 hHeld.2.2.2.1,zaa b2 hHeld.2.2.2.2⟩
  clear hK K hHeld;intro hHeld;refine dq 4 rfl (h:=dr 5 rfl (h:=dr 6 rfl (h:=dr 7 rfl (h:=dr 8 rfl (h:=dr 9 rfl (h:=dr 10 rfl (h:=dr 11 rfl (h:=?_))))))));refine dr 12 rfl (h:=dr 13 rfl (h:=dq 14 rfl (h:=dq 15 rfl (h:=dr 16 rfl (h:=dr 17 rfl (h:=dq 18 rfl (h:=dq 19 rfl (h:=?_))))))));refine dn ?_;have HF:=hid (zac HB1.out hHeld.1 lr);go_wp2;go_ret;exact⟨zae HO.out.symm,HF.out⟩
 have HO1:=hid (show okDk d=(zap d.times d.runs&&za9 d.log==0) by simp only[okDk,e1,Bool.true_and]);rcases e2:zap d.times d.runs with _|_
 ·have HO:=hid (show okDk d=false by rw[HO1.out,e2,Bool.false_and]);refine ez (fun W=>Below w1.heap.size w1 W/\W.cell? ⟨g,0,none⟩=some (.int .i64 d.net.sta)/\W.cell? ⟨g,1,none⟩=some (.slice h.A1 h.n1 h.c1)/\W.cell? ⟨g,2,none⟩=some (.slice h.A2 h.n2 h.c2)/\W.cell? ⟨g,3,none⟩=some (.slice h.A3 h.n3 h.c3)) ?_ fun hHeld=>?_
  ·exact⟨(Below.refl _ _).drew,c0,c1,c2,c3⟩
  refine dq 0 rfl (h:=dq 1 rfl (h:=dq 2 rfl (h:=?_)));refine rd 3 rfl fun K hK=>?_;go_simp
  go_at_call 97
  refine(zfh h.A1 h.n1 h.c1 B g d.net _ (HR.out.tubes.on hB (zac HB1.out hHeld.1 lr)) (Nat.le_trans hB (zac HB1.out hHeld.1 lr).size) HS.out.n1 hHeld.2.1 hHeld.2.2.1).mono ?_;rw[e1];rintro e w2 ⟨rfl,b2⟩
  go_wp2_with fail
  refine ke hK ?_ ?_
  ·exact⟨zac hHeld.1 b2 lr,zaa b2 hHeld.2.1,zaa b2 hHeld.2.2.1,zaa b2 hHeld.2.2.2.1,zaa b2 hHeld.2.2.2.2⟩
  clear hK K hHeld;intro hHeld;refine dq 4 rfl (h:=dq 5 rfl (h:=dq 6 rfl (h:=dq 7 rfl (h:=dq 8 rfl (h:=dq 9 rfl (h:=dq 10 rfl (h:=dq 11 rfl (h:=?_))))))));refine dq 12 rfl (h:=?_);refine rd 13 rfl fun K hK=>?_;go_simp
  go_at_call 98
  refine(zgk h.A2 h.n2 h.c2 B d.times h.A3 h.n3 h.c3 d.runs _ (HR.out.times.on hB (zac HB1.out hHeld.1 lr)) (HR.out.runs.on hB (zac HB1.out hHeld.1 lr)) HS.out.n2 HS.out.n3 HS.out.runs).mono ?_;rw[e2];rintro e w3 ⟨rfl,rfl⟩
  go_wp2_with fail
  refine ke hK ?_ ?_
  ·exact hHeld
  clear hK K hHeld;intro hHeld;refine dq 14 rfl (h:=dq 15 rfl (h:=dr 16 rfl (h:=dr 17 rfl (h:=dq 18 rfl (h:=dq 19 rfl (h:=?_))))));refine dn ?_;have HF:=hid (zac HB1.out hHeld.1 lr);go_wp2;go_ret;exact⟨zae HO.out.symm,HF.out⟩
 ·have HO:=hid (show okDk d=(za9 d.log==0) by rw[HO1.out,e2,Bool.true_and]);refine ez (fun W=>Below w1.heap.size w1 W/\W.cell? ⟨g,0,none⟩=some (.int .i64 d.net.sta)/\W.cell? ⟨g,1,none⟩=some (.slice h.A1 h.n1 h.c1)/\W.cell? ⟨g,2,none⟩=some (.slice h.A2 h.n2 h.c2)/\W.cell? ⟨g,3,none⟩=some (.slice h.A3 h.n3 h.c3)) ?_ fun hHeld=>?_
  ·exact⟨(Below.refl _ _).drew,c0,c1,c2,c3⟩
  refine dq 0 rfl (h:=dq 1 rfl (h:=dq 2 rfl (h:=?_)));refine rd 3 rfl fun K hK=>?_;go_simp
  go_at_call 97
  refine(zfh h.A1 h.n1 h.c1 B g d.net _ (HR.out.tubes.on hB (zac HB1.out hHeld.1 lr)) (Nat.le_trans hB (zac HB1.out hHeld.1 lr).size) HS.out.n1 hHeld.2.1 hHeld.2.2.1).mono ?_;rw[e1];rintro e w2 ⟨rfl,b2⟩
  go_wp2_with fail
  refine ke hK ?_ ?_
  ·exact⟨zac hHeld.1 b2 lr,zaa b2 hHeld.2.1,zaa b2 hHeld.2.2.1,zaa b2 hHeld.2.2.2.1,zaa b2 hHeld.2.2.2.2⟩
  clear hK K hHeld;intro hHeld;refine dq 4 rfl (h:=dq 5 rfl (h:=dq 6 rfl (h:=dq 7 rfl (h:=dq 8 rfl (h:=dq 9 rfl (h:=dq 10 rfl (h:=dq 11 rfl (h:=?_))))))));refine dq 12 rfl (h:=?_);refine rd 13 rfl fun K hK=>?_;go_simp
  go_at_call 98
  refine(zgk h.A2 h.n2 h.c2 B d.times h.A3 h.n3 h.c3 d.runs _ (HR.out.times.on hB (zac HB1.out hHeld.1 lr)) (HR.out.runs.on hB (zac HB1.out hHeld.1 lr)) HS.out.n2 HS.out.n3 HS.out.runs).mono ?_;rw[e2];rintro e w3 ⟨rfl,rfl⟩
  go_wp2_with fail
  refine ke hK ?_ ?_
  ·exact hHeld
  clear hK K hHeld;intro hHeld;refine dq 14 rfl (h:=dq 15 rfl (h:=dq 16 rfl (h:=dq 17 rfl (h:=dq 18 rfl (h:=dq 19 rfl (h:=?_))))));refine dn ?_;have HF:=hid (zac HB1.out hHeld.1 lr);go_wp2;go_ret;exact⟨zae HO.out.symm,HF.out⟩
def zhh(s:Int)(m k:Nat):ByteArray:=zab (itoa s)++⟨#[32,115,116,97,116,105,111,110,115,44,32]⟩++zab (itoa (m:Int))++⟨#[32,116,105,109,101,115,44,32]⟩++zab (itoa (k:Int))++⟨#[32,114,117,110,115]⟩
def zcc(d:Dk):ByteArray:=if okDk d=true then zhh d.net.sta d.times.length d.runs.length else ⟨#[]⟩
theorem zma{d:Dk}(h:okDk d=false):zcc d=⟨#[]⟩:=by simp[zcc,h]
theorem zf7{d:Dk}(h:okDk d=true):zcc d=zhh d.net.sta d.times.length d.runs.length:=by simp[zcc,h]
theorem zha{d:Dk}(h:okDk d=true):2<=d.net.sta/\d.net.sta<=10:=by
 unfold okDk okNt at h;simp only[Bool.and_eq_true] at h;exact zam.1 h.1.1
theorem DkR.n2eq{w:World}{B:Nat}{h:DkH}{d:Dk}(hr:DkR w B h d):d.times.length=h.n2:=zai hr.times
theorem DkR.n3eq{w:World}{B:Nat}{h:DkH}{d:Dk}(hr:DkR w B h d):d.runs.length=h.n3:=hr.runs.len
theorem zmy (h:DkH) (d:Dk) (g:Nat) (w:World) (hs0:0 <= d.net.sta) (hs9:d.net.sta <= 10) (h2:h.n2 <= 1048576) (h3:h.n3 <= 1048576) (q0:w.cell? ⟨g,0,none⟩ = some (.int .i64 d.net.sta)) (q2:w.cell? ⟨g,2,none⟩ = some (.slice h.A2 h.n2 h.c2)) (q3:w.cell? ⟨g,3,none⟩ = some (.slice h.A3 h.n3 h.c3)) :
  Calls prog 179 #[.pointer (some ⟨g,0,none⟩)] w fun e w'=>e= .returned (.string (zhh d.net.sta h.n2 h.n3))/\Below w.heap.size w w':=by
 have hs1:(zab (itoa d.net.sta)).size<=20:=by rw[zaj];exact zaz (by omega) (by omega)
 have hs2:(zab (itoa (h.n2:Int))).size<=20:=by rw[zaj];exact zaz (by omega) (by omega)
 have hs3:(zab (itoa (h.n3:Int))).size<=20:=by rw[zaj];exact zaz (by omega) (by omega)
 have n1:¬(9223372036854775807<(zab (itoa d.net.sta)).size+11):=by omega
 have n2:¬(9223372036854775807<(zab (itoa d.net.sta)).size+11+(zab (itoa (h.n2:Int))).size):=by omega
 have n3:¬(9223372036854775807<(zab (itoa d.net.sta)).size+11+(zab (itoa (h.n2:Int))).size+8):=by omega
 have n4:¬(9223372036854775807<(zab (itoa d.net.sta)).size+11+(zab (itoa (h.n2:Int))).size+8+(zab (itoa (h.n3:Int))).size):=by omega
 have n5:¬(9223372036854775807<(zab (itoa d.net.sta)).size+11+(zab (itoa (h.n2:Int))).size+8+(zab (itoa (h.n3:Int))).size+5):=by omega
 go_enter func179,ntmps179
 go_wp2_with fail
 go_region_held3 (fun W=>Below w.heap.size w W∧W.cell? ⟨g,0,none⟩=some (.int .i64 d.net.sta)∧W.cell? ⟨g,2,none⟩=some (.slice h.A2 h.n2 h.c2)∧W.cell? ⟨g,3,none⟩=some (.slice h.A3 h.n3 h.c3)) (first|exact⟨(Below.refl _ _).drew,q0,q2,q3⟩|(go_split_ands;exact⟨zac (by assumption) hb1 lr,zaa hb1 (by assumption),zaa hb1 (by assumption),zaa hb1 (by assumption)⟩)|(go_split_ands;exact⟨by assumption,by assumption,by assumption,by assumption⟩)|fail "keep") (first|(go_at_call 173;go_split_ands;refine(zbj _ _ (by omega) (by omega)).mono ?_;rintro e w2 ⟨rfl,hb1⟩)|fail "arm")
 rename_i hS;have HF:=hid hS.1;go_wp2;go_ret;exact⟨rfl,HF.out⟩
theorem zfI (h:DkH) (d:Dk) (m:Int) (B:Nat) (w:World) (hr:DkR w B h d) (hs:DkS h d) (hB:B <= w.heap.size) (hm:w.cell? ⟨1,0,none⟩ = some (.int .i64 m)) (ht:TabP w) (hv:SynP w) :
  Calls prog 11 #[.agg #[.int .i64 d.net.sta,.slice h.A1 h.n1 h.c1,.slice h.A2 h.n2 h.c2,.slice h.A3 h.n3 h.c3,.string d.log]] w fun e w'=>e= .returned (.string (zcc d))/\Below w.heap.size w w':=by
 obtain⟨W,hW,y0,hb⟩:∃W,W=w.alloc (.cells #[.int .i64 d.net.sta,.slice h.A1 h.n1 h.c1,.slice h.A2 h.n2 h.c2,.slice h.A3 h.n3 h.c3,.string d.log] 32)/\Blk W w.heap.size 32 #[.int .i64 d.net.sta,.slice h.A1 h.n1 h.c1,.slice h.A2 h.n2 h.c2,.slice h.A3 h.n3 h.c3,.string d.log]/\Below w.heap.size w W:=⟨_,rfl,Blk.new _ _ _,bal _⟩
 have HW:=hid hW;have HB:=hid hb;have HR:=hid hr;have HS:=hid hs;have HM:=hid (zaa hb hm);have HT:=hid (zaw ht hb);have HV:=hid (zbk hv hb);clear hW hb hr hs hm ht hv;obtain⟨a0,a1,a2,a3,a4⟩:=zaq y0;go_enter func11,ntmps11
 go_upto_region 1 with fail
 rw[<-HW.out]
 go_wp2_with fail
 refine(zfs h d m B W (HR.out.on hB HB.out) HS.out (Nat.le_trans hB HB.out.size) HM.out HT.out HV.out).mono ?_;rintro e w1 ⟨rfl,b1⟩;have HB1:=hid (zac HB.out b1 lr);have q0:=zaa b1 a0;have q2:=zaa b1 a2;have q3:=zaa b1 a3;have HT1:=hid (zaw HT.out b1);clear b1 y0 a0 a1 a2 a3 a4;rcases e1:okDk d with _|_
 ·have HO:=hid (zma e1);go_wp2;go_ret;exact⟨by rw[HO.out];rfl,HB1.out⟩
 have HO:=hid (zf7 e1);obtain⟨h8,h9⟩:=zha e1;have h2:=HS.out.n2;have h3:=HS.out.n3;have hs1:(zab (itoa d.net.sta)).size<=20:=by rw[zaj];exact zaz (by omega) (by omega)
 have hs2:(zab (itoa (h.n2:Int))).size<=20:=by rw[zaj];exact zaz (by omega) (by omega)
 have hs3:(zab (itoa (h.n3:Int))).size<=20:=by rw[zaj];exact zaz (by omega) (by omega)
 have n1:¬(9223372036854775807<(zab (itoa d.net.sta)).size+11):=by omega
 have n2:¬(9223372036854775807<(zab (itoa d.net.sta)).size+11+(zab (itoa (h.n2:Int))).size):=by omega
 have n3:¬(9223372036854775807<(zab (itoa d.net.sta)).size+11+(zab (itoa (h.n2:Int))).size+8):=by omega
 have n4:¬(9223372036854775807<(zab (itoa d.net.sta)).size+11+(zab (itoa (h.n2:Int))).size+8+(zab (itoa (h.n3:Int))).size):=by omega
 have n5:¬(9223372036854775807<(zab (itoa d.net.sta)).size+11+(zab (itoa (h.n2:Int))).size+8+(zab (itoa (h.n3:Int))).size+5):=by omega
 go_wp2_with fail
 go_region_held3 (fun W=>Below w1.heap.size w1 W∧W.cell? ⟨w.heap.size,0,none⟩=some (.int .i64 d.net.sta)∧W.cell? ⟨w.heap.size,2,none⟩=some (.slice h.A2 h.n2 h.c2)∧W.cell? ⟨w.heap.size,3,none⟩=some (.slice h.A3 h.n3 h.c3)) (first|exact⟨(Below.refl _ _).drew,q0,q2,q3⟩|(go_split_ands;exact⟨zac (by assumption) hb1 lr,zaa hb1 (by assumption),zaa hb1 (by assumption),zaa hb1 (by assumption)⟩)|(go_split_ands;exact⟨by assumption,by assumption,by assumption,by assumption⟩)|fail "keep") (first|(go_at_call 38;go_split_ands;refine(zaL _ _ (by omega) (by omega) (zaw HT1.out (by assumption))).mono ?_;rintro e w2 ⟨rfl,hb1⟩)|fail "arm")
 rename_i hS;have HF:=hid (zac HB1.out hS.1 lr);go_wp2;go_ret;exact⟨by rw[HO.out,HR.out.n2eq,HR.out.n3eq];rfl,HF.out⟩
end
end Go.Proofs.YtjalgpioklcbfaaGreatDoor
