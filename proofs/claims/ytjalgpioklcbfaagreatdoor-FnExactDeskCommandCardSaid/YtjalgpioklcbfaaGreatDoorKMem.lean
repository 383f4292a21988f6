/- Words for memory that the walks share: a slice that reads as a list, a block known whole. No program in sight. -/
import Derived.WalkKit
import Derived.WalkSpells
import Derived.Deep.Draws
import Derived.Lib.Hide
set_option linter.unusedVariables false
set_option maxHeartbeats 4000000
namespace Go.Proofs.YtjalgpioklcbfaaGreatDoor
open Go.RowKit
def zad(w:World)(B size:Nat)(A:Option Addr)(n:Nat)(xs:List Value):Prop:=
 xs.length=n*size/\(0<n->∃ad,A=some ad/\ad.spot=none/\ad.block<B/\∀j u,xs[j]?=some u->w.cell? ⟨ad.block,ad.off+j,none⟩=some u)
def Blk(w:World)(g:Nat)(t:TypeId)(cs:Array Value):Prop:=w.heap[g]?=some (.cells cs t (0,0))
section
variable {w w':World}{B B' size n:Nat}{A:Option Addr}{xs:List Value}
theorem zad.none_:zad w B size A 0 []:=⟨by simp,fun h=>absurd h (by omega)⟩
theorem zad.at_(h:zad w B size A n xs)(hn:0<n):∃b off,A=some ⟨b,off,none⟩/\b<B/\∀j u,xs[j]?=some u->w.cell? ⟨b,off+j,none⟩=some u:=by
 obtain⟨⟨b,off,spot⟩,e,hs,hb,hc⟩:=h.2 hn;simp only at hs;subst hs;exact⟨b,off,e,hb,hc⟩
theorem zad.keep(h:zad w B size A n xs)(hk:∀p:Addr,p.block<B->w'.cell? p=w.cell? p):zad w' B size A n xs:=
 ⟨h.1,fun hn=>by
  obtain⟨ad,e,hs,hb,hc⟩:=h.2 hn;exact⟨ad,e,hs,hb,fun j u hu=>(hk ⟨ad.block,ad.off+j,none⟩ hb).trans (hc j u hu)⟩⟩
theorem zad.more(h:zad w B size A n xs)(hB:B<=B'):zad w B' size A n xs:=
 ⟨h.1,fun hn=>by
  obtain⟨ad,e,hs,hb,hc⟩:=h.2 hn;exact⟨ad,e,hs,by omega,hc⟩⟩
theorem zad.below(h:zad w B size A n xs)(hb:Below B w w'):zad w' B size A n xs:=h.keep fun _ hp=>hb.cell hp
theorem zad.sub{b off i m:Nat}(h:zad w B 1 (some ⟨b,off,none⟩) n xs)(hm:i+m<=n):zad w B 1 (some ⟨b,off+i,none⟩) m ((xs.drop i).take m):=by
 refine⟨?_,fun h0=>?_⟩
 ·have:=h.1;rw[List.length_take,List.length_drop];omega
 ·obtain⟨ad,e,hs,hb,hc⟩:=h.2 (by omega);injection e with e;subst e;refine⟨_,rfl,rfl,hb,fun j u hu=>?_⟩;rw[List.getElem?_take] at hu
  split at hu
  ·rw[List.getElem?_drop] at hu;have:=hc (i+j) u hu;simpa[Nat.add_assoc] using this
  ·cases hu
theorem zad.on(h:zad w B size A n xs)(hB:B<=w.heap.size)(hb:Below w.heap.size w w'):zad w' B size A n xs:=h.below (hb.mono hB)
end
section
variable {w w':World}{g:Nat}{t:TypeId}{cs:Array Value}
theorem Blk.lt(h:Blk w g t cs):g<w.heap.size:=by
 rcases Nat.lt_or_ge g w.heap.size with hlt|hge
 ·exact hlt
 ·unfold Blk at h;rw[Array.getElem?_eq_none hge] at h;cases h
theorem Blk.cell(h:Blk w g t cs)(i:Nat):w.cell? ⟨g,i,none⟩=cs[i]?:=cell_of_row w g i cs t (0,0) h
theorem Blk.cellAt(h:Blk w g t cs)(i:Nat)(hi:i<cs.size):w.cell? ⟨g,i,none⟩=some cs[i]:=by rw[h.cell,Array.getElem?_eq_getElem hi]
theorem Blk.frozen(h:Blk w g t cs)(i:Nat):w.frozen? ⟨g,i,none⟩=false:=by
 unfold Blk at h;simp[World.frozen?,h]
theorem Blk.new(w:World)(t:TypeId)(cs:Array Value):Blk (w.alloc (.cells cs t)) w.heap.size t cs:=heap_alloc_new w _
theorem Blk.drew(h:Blk w g t cs):Blk w.drew g t cs:=h
theorem Blk.drewN(h:Blk w g t cs)(n:Nat):Blk (w.drewN n) g t cs:=h
theorem Blk.alloc(h:Blk w g t cs)(o:Obj):Blk (w.alloc o) g t cs:=(Below.heap_alloc w o g h.lt).trans h
theorem Blk.set_(h:Blk w g t cs)(i:Nat)(u:Value):Blk (w.setCell ⟨g,i,none⟩ u) g t (cs.setIfInBounds i u):=by
 unfold Blk at h⊢;simp[World.setCell,Array.getElem?_modify,h]
theorem Blk.far(h:Blk w g t cs){p:Addr}(hp:g≠p.block)(u:Value):Blk (w.setCell p u) g t cs:=(Below.heap_setCell w p u g hp).trans h
theorem Blk.below{B:Nat}(h:Blk w g t cs)(hb:Below B w w')(hg:g<B):Blk w' g t cs:=(hb.block g hg).trans h
theorem Blk.on(h:Blk w g t cs)(hb:Below w.heap.size w w'):Blk w' g t cs:=h.below hb h.lt
theorem Blk.reads(h:Blk w g t cs){B size n:Nat}(hg:g<B)(hn:cs.size=n*size):zad w B size (some ⟨g,0,none⟩) n cs.toList:=
 ⟨by simpa using hn,fun _=>⟨_,rfl,rfl,hg,fun j u hu=>by
  simp only[Nat.zero_add];rw[h.cell j];simpa using hu⟩⟩
theorem Blk.readsL{xs:List Value}(h:Blk w g t xs.toArray){size n:Nat}(hn:xs.length=n*size):zad w w.heap.size size (some ⟨g,0,none⟩) n xs:=
 h.reads h.lt (by simpa using hn)
end
structure Only (lo hi:Nat) (w w':World):Prop where
 os:w'.os=w.os
 tape:w'.tape=w.tape
 output:w'.output=w.output
 size:w.heap.size<=w'.heap.size
 block:∀k,k<w.heap.size->(k<lo\/hi<=k)->w'.heap[k]?=w.heap[k]?
section
variable {lo hi lo' hi' B:Nat}{a b w w':World}
theorem Only.refl(lo hi:Nat)(w:World):Only lo hi w w:=⟨rfl,rfl,rfl,Nat.le_refl _,fun _ _ _=>rfl⟩
theorem Only.of_below(h:Below w.heap.size w w')(lo hi:Nat):Only lo hi w w':=⟨h.os,h.tape,h.output,h.size,fun k hk _=>h.block k hk⟩
theorem Only.trans(h:Only lo hi a b)(k:Only lo hi b w):Only lo hi a w:=
 ⟨k.os.trans h.os,k.tape.trans h.tape,k.output.trans h.output,Nat.le_trans h.size k.size,fun i hi hne=>(k.block i (Nat.lt_of_lt_of_le hi h.size) hne).trans (h.block i hi hne)⟩
theorem Only.wide(h:Only lo hi w w')(h1:lo'<=lo)(h2:hi<=hi'):Only lo' hi' w w':=⟨h.os,h.tape,h.output,h.size,fun k hk hd=>h.block k hk (by omega)⟩
theorem Only.setCell(h:Only lo hi a w){p:Addr}(h1:lo<=p.block)(h2:p.block<hi)(u:Value):Only lo hi a (w.setCell p u):=
 ⟨h.os,h.tape,h.output,by simpa[World.setCell] using h.size,fun i hi' hd=>(Below.heap_setCell w p u i (by omega)).trans (h.block i hi' hd)⟩
theorem Only.alloc(h:Only lo hi a w)(o:Obj):Only lo hi a (w.alloc o):=
 ⟨h.os,h.tape,h.output,Nat.le_trans h.size (by simp),fun i hi' hd=>(Below.heap_alloc w o i (Nat.lt_of_lt_of_le hi' h.size)).trans (h.block i hi' hd)⟩
theorem Only.drewN(h:Only lo hi a w)(n:Nat):Only lo hi a (w.drewN n):=⟨h.os,h.tape,h.output,h.size,h.block⟩
theorem Only.below(h:Only lo hi w w')(hlo:B<=lo)(hB:B<=w.heap.size):Below B w w':=⟨h.os,h.tape,h.output,h.size,fun k hk=>h.block k (by omega) (by omega)⟩
theorem zan(h:Below B a w)(n:Nat):Below B a (w.drewN n):=⟨h.os,h.tape,h.output,h.size,h.block⟩
theorem zaa{p:Addr}{v:Value}(hb:Below w.heap.size w w')(h:w.cell? p=some v):w'.cell? p=some v:=(hb.cell (World.block_lt_of_cell? w _ h)).trans h
theorem zac(h:Below B a w)(k:Below w.heap.size w w')(hB:B<=a.heap.size):Below B a w':=h.trans (k.mono (Nat.le_trans hB h.size))
theorem zbN(h:Below B a w)(k:Only lo hi w w')(hlo:B<=lo)(hB:B<=a.heap.size):Below B a w':=h.trans (k.below hlo (Nat.le_trans hB h.size))
end
def Sl(w:World)(lo hi:Nat)(t:TypeId)(size:Nat)(A:Option Addr)(n c:Nat)(xs:List Value):Prop:=
 w.ownsRow lo t size (.slice A n c) n xs/\∀b,A=some b->b.block<hi
section
variable {w w':World}{lo hi lo' hi' size n c:Nat}{t:TypeId}{A:Option Addr}{xs:List Value}
theorem Sl.nil(w:World)(lo hi:Nat)(t:TypeId)(size:Nat):Sl w lo hi t size none 0 0 []:=⟨World.ownsRow_nil _ _ _ _,fun b h=>by cases h⟩
theorem Sl.len(h:Sl w lo hi t size A n c xs):xs.length=n*size:=h.1.1
theorem Sl.form(h:Sl w lo hi t size A n c xs):(A=none/\n=0/\c=0)\/∃g cur,A=some ⟨g,0,none⟩/\lo<=g/\g<hi/\Blk w g t cur/\n<=c/\cur.size=c*size/\cur.toList.take (n*size)=xs:=by
 rcases h.1.2 with ⟨h',hn⟩|⟨g,cap,cur,h',hb,hg,hnc,_,hcs,ht⟩
 ·injection h' with h1 h2 h3;exact .inl ⟨h1,hn,h3⟩
 ·injection h' with h1 h2 h3;subst h3;exact .inr ⟨g,cur,h1,hb,h.2 _ h1,hg,hnc,hcs,ht⟩
theorem Sl.reads(h:Sl w lo hi t size A n c xs){B:Nat}(hB:hi<=B):zad w B size A n xs:=by
 refine⟨h.len,fun hn=>?_⟩;rcases h.form with ⟨_,h0,_⟩|⟨g,cur,rfl,_,hg,hblk,_,_,ht⟩
 ·omega
 ·refine⟨_,rfl,rfl,by simp;omega,fun j u hu=>?_⟩;simp only[Nat.zero_add];rw[hblk.cell,<-Array.getElem?_toList];rw[<-ht,List.getElem?_take] at hu
  split at hu
  ·exact hu
  ·cases hu
theorem Sl.keep(h:Sl w lo hi t size A n c xs)(hk:∀b,lo<=b->b<hi->b<w.heap.size->w'.heap[b]?=w.heap[b]?):Sl w' lo hi t size A n c xs:=by
 refine⟨⟨h.1.1,?_⟩,h.2⟩;rcases h.1.2 with hn|⟨g,cap,cur,h',hb,hg,rest⟩
 ·exact .inl hn
 ·refine .inr ⟨g,cap,cur,h',hb,?_,rest⟩;injection h' with h1;rw[hk g hb (h.2 _ h1) (Array.getElem?_eq_some_iff.1 hg).1];exact hg
theorem Sl.on(h:Sl w lo hi t size A n c xs)(hb:Below w.heap.size w w'):Sl w' lo hi t size A n c xs:=h.keep fun b _ _ hb'=>hb.block b hb'
theorem Sl.apart(h:Sl w lo hi t size A n c xs)(ho:Only lo' hi' w w')(hd:hi<=lo'\/hi'<=lo):Sl w' lo hi t size A n c xs:=h.keep fun b h1 h2 h3=>ho.block b h3 (by omega)
theorem Sl.wide(h:Sl w lo hi t size A n c xs)(h1:lo'<=lo)(h2:hi<=hi'):Sl w lo' hi' t size A n c xs:=by
 refine⟨⟨h.1.1,?_⟩,fun b hb=>Nat.lt_of_lt_of_le (h.2 b hb) h2⟩;rcases h.1.2 with hn|⟨g,cap,cur,h',hb,rest⟩
 ·exact .inl hn
 ·exact .inr ⟨g,cap,cur,h',Nat.le_trans h1 hb,rest⟩
theorem Sl.of_blk{g:Nat}(h:Blk w g t xs.toArray)(h1:lo<=g)(h2:g<hi)(hn:xs.length=n*size)(hm:n<=maxLen):Sl w lo hi t size (some ⟨g,0,none⟩) n n xs:=
 ⟨⟨hn,.inr ⟨g,n,xs.toArray,rfl,h1,h,Nat.le_refl _,hm,by simpa using hn,by simp[<-hn]⟩⟩,fun b hb=>by injection hb with hb;subst hb;exact h2⟩
theorem Sl.set_{g:Nat}(h:Sl w lo hi t size (some ⟨g,0,none⟩) n c xs)(j:Nat)(u:Value):Sl (w.setCell ⟨g,j,none⟩ u) lo hi t size (some ⟨g,0,none⟩) n c (xs.set j u):=by
 obtain⟨⟨h1,h2⟩,h3⟩:=h;rcases h2 with ⟨h',_⟩|⟨g',cap,cur,h',hb,hg,hnc,hm,hcs,ht⟩
 ·cases h'
 ·injection h' with e1 e2 e3;injection e1 with e1;injection e1 with e1;subst e1 e3;refine⟨⟨by simpa using h1,.inr ⟨g,c,cur.setIfInBounds j u,rfl,hb,heap_setCell_same w g j cur t u hg,hnc,hm,by simpa using hcs,?_⟩⟩,h3⟩;rw[Array.toList_setIfInBounds,<-ht,List.take_set]
theorem Sl.cellAt{g:Nat}(h:Sl w lo hi t size (some ⟨g,0,none⟩) n c xs)(j:Nat)(hj:j<n*size):w.cell? ⟨g,j,none⟩=xs[j]?:=h.1.cellAt j hj
theorem Sl.frozenAt{g:Nat}(h:Sl w lo hi t size (some ⟨g,0,none⟩) n c xs)(j:Nat):w.frozen? ⟨g,j,none⟩=false:=h.1.frozenAt j
theorem Sl.lt(h:Sl w lo hi t size A n c xs)(hn:0<n):∃g,A=some ⟨g,0,none⟩/\lo<=g/\g<hi/\g<w.heap.size:=by
 rcases h.form with ⟨_,h0,_⟩|⟨g,cur,rfl,h1,h2,hb,_⟩
 ·omega
 ·exact⟨g,rfl,h1,h2,hb.lt⟩
end
def Fill(cs:Array Value)(xs:List Value)(m:Nat):Prop:=∀j,j<m->cs[j]?=xs[j]?
theorem Fill.zero(cs:Array Value)(xs:List Value):Fill cs xs 0:=fun j hj=>by omega
theorem Fill.step{cs:Array Value}{xs:List Value}{m:Nat}{v:Value}(h:Fill cs xs m)(hx:xs[m]?=some v)(hm:m<cs.size):Fill (cs.setIfInBounds m v) xs (m+1):=by
 intro j hj;rw[Array.getElem?_setIfInBounds];by_cases e:m=j
 ·subst e;rw[if_pos rfl,if_pos hm,hx]
 ·rw[if_neg e];exact h j (by omega)
theorem Fill.done{cs:Array Value}{xs:List Value}{m:Nat}(h:Fill cs xs m)(h1:cs.size=m)(h2:xs.length=m):cs=xs.toArray:=by
 apply Array.ext_getElem?;intro i;by_cases hi:i<m
 ·rw[h i hi];simp
 ·rw[Array.getElem?_eq_none (by omega)];simp;omega
def zdC(ys xs:List Value)(m:Nat):Prop:=∀j,j<m->ys[j]?=xs[j]?
theorem zdC.zero(ys xs:List Value):zdC ys xs 0:=fun j hj=>by omega
theorem zdC.step{ys xs:List Value}{m:Nat}{v:Value}(h:zdC ys xs m)(hx:xs[m]?=some v)(hm:m<ys.length):zdC (ys.set m v) xs (m+1):=by
 intro j hj;rw[List.getElem?_set];by_cases e:m=j
 ·subst e;rw[if_pos rfl,if_pos hm,hx]
 ·rw[if_neg e];exact h j (by omega)
theorem zdC.done{ys xs:List Value}{m:Nat}(h:zdC ys xs m)(h1:ys.length=m)(h2:xs.length=m):ys=xs:=by
 apply List.ext_getElem?;intro i;by_cases hi:i<m
 ·exact h i hi
 ·rw[List.getElem?_eq_none (by omega),List.getElem?_eq_none (by omega)]
theorem zi4{ys:List Value}{j:Nat}(h:j<ys.length):∃v,ys[j]?=some v:=⟨_,List.getElem?_eq_getElem h⟩
theorem zcZ{α:Type}(cell:α->List Value)(m:Nat)(hm:∀e,(cell e).length=m):∀l:List α,(l.flatMap cell).length=l.length*m
 | []=>by simp
 |a::l=>by
  have:=zcZ cell m hm l;rw[List.flatMap_cons,List.length_append,hm,this,List.length_cons,Nat.succ_mul];omega
theorem zce{α:Type}(cell:α->List Value)(m:Nat)(hm:∀e,(cell e).length=m):∀(l:List α) (i:Nat) (e:α),l[i]?=some e->∀j,j<m->(l.flatMap cell)[i*m+j]?=(cell e)[j]?
 | [],i,e,h,j,hj=>by simp at h
 |a::l,0,e,h,j,hj=>by
  simp at h;subst h;rw[List.flatMap_cons,List.getElem?_append_left (by rw[hm];omega)];simp
 |a::l,i+1,e,h,j,hj=>by
  have:=zce cell m hm l i e (by simpa using h) j hj;rw[List.flatMap_cons,List.getElem?_append_right (by rw[hm,Nat.succ_mul];omega),hm,<-this]
  congr 1
  rw[Nat.succ_mul];omega
def ints(l:List Int):List Value:=l.map (.int .i64)
theorem za4(l:List Int):(ints l).length=l.length:=by simp[ints]
theorem zeK{l:List Int}{i:Nat}{x:Int}(h:l[i]?=some x):(ints l)[i]?=some (.int .i64 x):=by simp[ints,h]
def strs(l:List ByteArray):List Value:=l.map .string
theorem za6(l:List ByteArray):(strs l).length=l.length:=by simp[strs]
theorem zeQ{l:List ByteArray}{i:Nat}{x:ByteArray}(h:l[i]?=some x):(strs l)[i]?=some (.string x):=by simp[strs,h]
theorem zdI{w:World}{g:Nat}{t:TypeId}{hs:List Int}(h:Blk w g t (ints hs).toArray)(m:Nat)(y:Int):Blk (w.setCell ⟨g,m,none⟩ (.int .i64 y)) g t (ints (hs.set m y)).toArray:=by
 have:=h.set_ m (.int .i64 y);rw[List.setIfInBounds_toArray] at this;simpa[ints,List.map_set] using this
def zer(n:Nat):List Int:=List.replicate n 0
theorem zqv(n:Nat):(zer n).length=n:=by simp[zer]
theorem zel(n:Nat):madeCells #[.int .i64 0] n=(ints (zer n)).toArray:=by
 apply Array.ext';rw[toList_madeCells_one];simp[ints,zer]
theorem zm1 {P:Program} (t e:TypeId) (i:TypeInfo) (z:Value) (ht:P.underlying t = some (.slice e)) (hi:P.info? e = some i) (hz:i.zero = some z)
  (kl kc:IntKind) (n c:Nat) (hnc:n<=c) (hbytes:i.bytes*c<=281474976710656) (h63:c<=9223372036854775807) (w:World):
  (Instr.makeSlice t (.int kl (n:Int)) (.int kc (c:Int))).run P w= .ok (.slice (some ⟨w.heap.size,0,none⟩) n c) (w.alloc (.cells (madeCells z.cells (c*i.size)) e)):=by
 have hb:(i.bytes:Int)*(c:Int)<=281474976710656:=by
  have h:((i.bytes*c:Nat):Int)<=281474976710656:=by omega
  rwa[Int.natCast_mul] at h
 have hr:=run_make (P:=P) w t e i z ht hi hz kl kc n c (by omega) (by omega) hb (by omega);simp only[Int.toNat_natCast] at hr;exact hr
theorem zc9 {P:Program} (t e:TypeId) (z:Value) (size bytes:Nat) (ht:P.underlying t = some (.slice e))
  (hinfo:(P.info? e).map (fun i=>(i.zero,i.size,i.bytes))=some (some z,size,bytes)) (hb:bytes<=1000) (n:Nat) (hn:n<=1048576):
  ∀w:World,(Instr.makeSlice t (.int .i64 (n:Int)) (.int .i64 (n:Int))).run P w= .ok (.slice (some ⟨w.heap.size,0,none⟩) n n) (w.alloc (.cells (madeCells z.cells (n*size)) e)):=by
 obtain⟨i,hi,hz,rfl,rfl⟩:=info_parts hinfo;intro w;refine zm1 t e i z ht hi hz _ _ n n (Nat.le_refl _) ?_ (by omega) w
 calc i.bytes*n<=1000*1048576:=Nat.mul_le_mul hb hn
  _<=281474976710656:=by decide
def inR(n lo hi:Int):Bool:=decide (lo<=n)&&decide (n<=hi)
theorem zam{n lo hi:Int}:inR n lo hi=true↔lo<=n/\n<=hi:=by simp[inR]
theorem zgi{n lo hi:Int}:inR n lo hi=false↔n<lo\/hi<n:=by simp[inR];omega
def za0{α:Type}(p:α->Bool)(l:List α)(k:Nat):Prop:=∀(j:Nat) (e:α),j<k->l[j]?=some e->p e=true
section
variable {α:Type}{p:α->Bool}{l:List α}{k:Nat}{e:α}
theorem za0.zero(p:α->Bool)(l:List α):za0 p l 0:=fun j _ hj _=>by omega
theorem za0.step(h:za0 p l k)(he:l[k]?=some e)(hp:p e=true):za0 p l (k+1):=fun j x hj hx=>by
 by_cases hjk:j=k
 ·subst hjk;rw[he] at hx;injection hx with hx;subst hx;exact hp
 ·exact h j x (by omega) hx
theorem za0.done(h:za0 p l k)(hk:l.length=k):l.all p=true:=by
 rw[List.all_eq_true];intro x hx;obtain⟨j,hj,rfl⟩:=List.mem_iff_getElem.1 hx;exact h j _ (by omega) (List.getElem?_eq_getElem hj)
theorem zcd(he:l[k]?=some e)(hp:p e=false):l.all p=false:=by
 rw[List.all_eq_false];exact⟨e,List.mem_of_getElem? he,by simp[hp]⟩
end
theorem za0.imp{α:Type}{p q:α->Bool}{l:List α}{k:Nat}(h:za0 p l k)(hi:∀x,p x=true->q x=true):za0 q l k:=fun j e hj he=>hi _ (h j e hj he)
def idxI{α:Type}(p:α->Bool)(l:List α):Int:=match l.findIdx? p with
 |some i=>i
 |none=>-1
theorem zcT{α:Type}{p:α->Bool}{l:List α}{k:Nat}{e:α}(he:l[k]?=some e)(hp:p e=true)(h:za0 (fun x=>!p x) l k):idxI p l=k:=by
 have:l.findIdx? p=some k:=by
  rw[List.findIdx?_eq_some_iff_getElem];obtain⟨hk,rfl⟩:=List.getElem?_eq_some_iff.1 he;refine⟨hk,hp,fun j hj=>?_⟩;have:=h j _ hj (List.getElem?_eq_getElem (by omega));simpa using this
 simp[idxI,this]
theorem zdo{α:Type}{p:α->Bool}{l:List α}{k:Nat}(h:za0 (fun x=>!p x) l k)(hk:l.length=k):idxI p l=-1:=by
 have:l.findIdx? p=none:=by
  rw[List.findIdx?_eq_none_iff];intro x hx;have:=List.all_eq_true.1 (h.done hk) x hx;simpa using this
 simp[idxI,this]
theorem zc5{α:Type}(p:α->Bool)(l:List α):decide (0<=idxI p l)=l.any p:=by
 unfold idxI
 split
 ·rename_i i h;obtain⟨hk,hp,_⟩:=List.findIdx?_eq_some_iff_getElem.1 h;rw[List.any_eq_true.2 ⟨_,List.getElem_mem hk,hp⟩];simp
 ·rename_i h;rw[List.findIdx?_eq_none_iff] at h;rw[List.any_eq_false.2 (fun x hx=>by simp[h x hx])];simp
def I64(x:Int):Prop:=-9223372036854775808<=x/\x<=9223372036854775807
theorem zae{a b:Bool}(h:a=b):Ending.returned (.bool a)= .returned (.bool b):=by rw[h]
theorem za3{k:IntKind}{a b:Int}(h:a=b):Ending.returned (.int k a)= .returned (.int k b):=by rw[h]
end Go.Proofs.YtjalgpioklcbfaaGreatDoor
