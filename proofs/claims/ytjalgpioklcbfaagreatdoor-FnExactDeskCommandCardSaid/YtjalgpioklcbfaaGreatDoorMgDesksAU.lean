/- Steps of the proof. -/
import Derived.Test.YtjalgpioklcbfaaGreatDoorMgDesksAT
import Derived.Test.YtjalgpioklcbfaaGreatDoorKSeR
set_option linter.unusedVariables false
set_option linter.unusedSimpArgs false
set_option maxHeartbeats 4000000
set_option maxRecDepth 100000
namespace Go.Proofs.YtjalgpioklcbfaaGreatDoor
section
open Go.RowKit Go.Lib
def rdTo(ws:List ByteArray)(i:Nat):Nat->List Int->Option (List Int)
 |0,ns=>some ns
 |m+1,ns=>match rdTo ws i m ns with
  |none=>none
  |some x=>match ws[i+m]? with
   |none=>none
   |some w=>if (zak w.data.toList).2=true then some (x++ [(zak w.data.toList).1]) else none
theorem zdc{ws:List ByteArray}{i m:Nat}{ns x:List Int}{w:ByteArray}(h:rdTo ws i m ns=some x)(hw:ws[i+m]?=some w)(hr:(zak w.data.toList).2=true):rdTo ws i (m+1) ns=some (x++ [(zak w.data.toList).1]):=by
 rw[rdTo,h];simp only;rw[hw];simp only;rw[if_pos hr]
theorem zd9{ws:List ByteArray}{i m:Nat}{ns x:List Int}{w:ByteArray}(h:rdTo ws i m ns=some x)(hw:ws[i+m]?=some w)(hr:(zak w.data.toList).2=false):rdTo ws i (m+1) ns=none:=by
 rw[rdTo,h];simp only;rw[hw];simp only;rw[if_neg (by rw[hr];decide)]
theorem zic{ws:List ByteArray}{i m:Nat}{ns:List Int}(h:rdTo ws i m ns=none):∀k,m<=k->rdTo ws i k ns=none
 |0,hk=>by
  obtain rfl:m=0:=(by omega);exact h
 |k+1,hk=>by
  by_cases e:m=k+1
  ·rw[<-e];exact h
  ·rw[rdTo,zic h k (by omega)]
def rdL:List ByteArray->List Int->Option (List Int)
 | [],ns=>some ns
 |w::r,ns=>if (zak w.data.toList).2=true then rdL r (ns++ [(zak w.data.toList).1]) else none
theorem zn4:∀ (l:List ByteArray) (w:ByteArray) (ns:List Int),rdL (l ++ [w]) ns = match rdL l ns with
  |none=>none
  |some x=>if (zak w.data.toList).2=true then some (x++ [(zak w.data.toList).1]) else none
 | [],w,ns=>by simp only[List.nil_append,rdL]
 |v::l,w,ns=>by
  rw[List.cons_append,rdL,rdL]
  split
  ·exact zn4 l w _
  ·rfl
theorem zn5{ws:List ByteArray}{i:Nat}{ns:List Int}:∀m,i+m<=ws.length->rdTo ws i m ns=rdL ((ws.drop i).take m) ns
 |0,_=>by rw[List.take_zero];rfl
 |m+1,h=>by
  have he:(ws.drop i)[m]?=some (ws[i+m]'(by omega)):=by rw[List.getElem?_drop,List.getElem?_eq_getElem (by omega)]
  have he2:ws[i+m]?=some (ws[i+m]'(by omega)):=List.getElem?_eq_getElem (by omega);rw[List.take_add_one,he,Option.toList_some,zn4,rdTo,zn5 m (by omega),he2]
theorem zdK{sh:ByteArray}:∀(l:List ByteArray) (i:Nat) (ns:List Int),(∀j,i<=j->zbh sh j=110\/zbh sh j=42)->zaD sh l i ns=rdL l ns
 | [],i,ns,_=>rfl
 |w::r,i,ns,h=>by
  rw[zaD,if_pos (h i lr),rdL]
  split
  ·exact zdK r (i+1) _ fun j hj=>h j (by omega)
  ·rfl
theorem zkm{sh:ByteArray}:∀(l:List ByteArray) (i:Nat) (ns:List Int),(∀j,i<=j->¬(zbh sh j=110\/zbh sh j=42))->zaD sh l i ns=some ns
 | [],i,ns,_=>rfl
 |w::r,i,ns,h=>by
  rw[zaD,if_neg (h i lr)];exact zkm r (i+1) _ fun j hj=>h j (by omega)
def zbQ(l:List ByteArray):ByteArray:=zab (zaF 32 (l.map fun s=>s.data.toList))
theorem zhK(w:ByteArray):zbQ [w]=w:=by unfold zbQ;exact zaM w
theorem zpD{l:List ByteArray}(w:ByteArray)(h:l≠[]):zbQ (l++ [w])=zbQ l++(⟨#[32]⟩++w):=by
 unfold zbQ;rw[List.map_append,List.map_cons,List.map_nil,zgW]
 ·apply zdn;rw[zcB,zcB,zaf,zaf]
  rfl
 ·intro e;exact h (List.map_eq_nil_iff.1 e)
theorem zjZ{l:List ByteArray}(h:∀x∈l,x.size<=1048576):(zbQ l).size<=l.length*1048577:=by
 unfold zbQ;rw[zaj]
 have:=zgj 32 1048576 (l.map fun s=>s.data.toList) (fun y hy=>by
  obtain⟨x,hx,rfl⟩:=List.mem_map.1 hy;rw[za8];exact h x hx)
 rwa[List.length_map] at this
def cntW(f:ByteArray)(ws:List ByteArray)(i:Nat):Nat:=if f.data.toList.getD i 0=114\/f.data.toList.getD i 0=108 then ws.length-i else 1
def stpW(f:ByteArray)(ws:List ByteArray)(i:Nat)(x:List Int×List ByteArray):Option (List Int×List ByteArray):=
 if f.data.toList.getD i 0=110\/f.data.toList.getD i 0=108 then (match rdTo ws i (cntW f ws i) x.1 with
  |none=>none
  |some ns=>some (ns,x.2))
 else some (x.1,x.2++ [zbQ ((ws.drop i).take (cntW f ws i))])
def frmW(f:ByteArray)(ws:List ByteArray):Nat->Option (List Int×List ByteArray)
 |0=>some ([],[])
 |i+1=>match frmW f ws i with
  |none=>none
  |some x=>stpW f ws i x
theorem zeq{f:ByteArray}{ws:List ByteArray}{i:Nat}{x:List Int×List ByteArray}(h:frmW f ws i=some x):frmW f ws (i+1)=stpW f ws i x:=by rw[frmW,h]
theorem zcS{f:ByteArray}{ws:List ByteArray}{i:Nat}(h:frmW f ws i=none):∀k,i<=k->frmW f ws k=none
 |0,hk=>by
  obtain rfl:i=0:=(by omega);exact h
 |k+1,hk=>by
  by_cases e:i=k+1
  ·rw[<-e];exact h
  ·rw[frmW,zcS h k (by omega)]
theorem zde{f:ByteArray}{ws:List ByteArray}{i m:Nat}{ns y:List Int}{ts:List ByteArray}(hc:f.data.toList.getD i 0=110\/f.data.toList.getD i 0=108)(hm:cntW f ws i=m)(h:rdTo ws i m ns=some y):stpW f ws i (ns,ts)=some (y,ts):=by
 unfold stpW;rw[if_pos hc,hm];simp only;rw[h]
theorem zdd{f:ByteArray}{ws:List ByteArray}{i m:Nat}{ns:List Int}{ts:List ByteArray}(hc:f.data.toList.getD i 0=110\/f.data.toList.getD i 0=108)(hm:cntW f ws i=m)(h:rdTo ws i m ns=none):stpW f ws i (ns,ts)=none:=by
 unfold stpW;rw[if_pos hc,hm];simp only;rw[h]
theorem zjz{f:ByteArray}{ws:List ByteArray}{i m:Nat}{ns:List Int}{ts:List ByteArray}(hc:¬(f.data.toList.getD i 0=110\/f.data.toList.getD i 0=108))(hm:cntW f ws i=m):stpW f ws i (ns,ts)=some (ns,ts++ [zbQ ((ws.drop i).take m)]):=by
 unfold stpW;rw[if_neg hc,hm]
theorem zsE {ws:List ByteArray} (h:1 <= ws.length):frmW ⟨#[108]⟩ ws 1 = match rdL ws [] with
  |none=>none
  |some ns=>some (ns,[]):=by
 rw[frmW,frmW];simp only;unfold stpW;rw[if_pos (by decide)];have hc:cntW ⟨#[108]⟩ ws 0=ws.length:=by unfold cntW;rw[if_pos (by decide)];rfl
 rw[hc,zn5 _ (by omega),List.drop_zero,List.take_length]
theorem zmV {w:ByteArray} {ws:List ByteArray} (h:1 <= ws.length):frmW ⟨#[110,108]⟩ (w :: ws) 2 = match rdL (w :: ws) [] with
  |none=>none
  |some ns=>some (ns,[]):=by
 have h0:cntW ⟨#[110,108]⟩ (w::ws) 0=1:=by unfold cntW;rw[if_neg (by decide)]
 have h1:cntW ⟨#[110,108]⟩ (w::ws) 1=ws.length:=by unfold cntW;rw[if_pos (by decide)];rfl
 rcases hr:(zak w.data.toList).2 with _|_
 ·have e1:frmW ⟨#[110,108]⟩ (w::ws) 1=none:=by
   rw[frmW,frmW];exact zdd (by decide) h0 (zd9 (x:=[]) rfl rfl hr)
  rw[frmW,e1,rdL,if_neg (by rw[hr];decide)]
 ·have e1:frmW ⟨#[110,108]⟩ (w::ws) 1=some ([(zak w.data.toList).1],[]):=by
   rw[frmW,frmW];exact zde (by decide) h0 (zdc (x:=[]) rfl rfl hr)
  rw[frmW,e1,rdL,if_pos hr];simp only;unfold stpW;rw[if_pos (by decide),h1,zn5 _ (by rw[List.length_cons];omega)];simp only[List.drop_one,List.tail_cons,List.take_length,List.nil_append]
theorem zug{ws:List ByteArray}:frmW ⟨#[114]⟩ ws 1=some ([],[zbQ ws]):=by
 rw[frmW,frmW];simp only;unfold stpW;rw[if_neg (by decide)];have hc:cntW ⟨#[114]⟩ ws 0=ws.length:=by unfold cntW;rw[if_pos (by decide)];rfl
 rw[hc,List.drop_zero,List.take_length]
 rfl
theorem ztH (a b:ByteArray):frmW ⟨#[110,110]⟩ [a,b] 2 = match rdL [a,b] [] with
  |none=>none
  |some ns=>some (ns,[]):=by
 have h0:cntW ⟨#[110,110]⟩ [a,b] 0=1:=by unfold cntW;rw[if_neg (by decide)]
 have h1:cntW ⟨#[110,110]⟩ [a,b] 1=1:=by unfold cntW;rw[if_neg (by decide)]
 rcases ra:(zak a.data.toList).2 with _|_
 ·have e1:frmW ⟨#[110,110]⟩ [a,b] 1=none:=by
   rw[frmW,frmW];exact zdd (by decide) h0 (zd9 (x:=[]) rfl rfl ra)
  rw[zcS e1 2 (by omega)];simp[rdL,ra]
 have e1:frmW ⟨#[110,110]⟩ [a,b] 1=some ([(zak a.data.toList).1],[]):=by
  rw[frmW,frmW];exact zde (by decide) h0 (zdc (x:=[]) rfl rfl ra)
 rcases rb:(zak b.data.toList).2 with _|_
 ·have e2:frmW ⟨#[110,110]⟩ [a,b] 2=none:=by
   rw[frmW,e1];exact zdd (by decide) h1 (zd9 (x:=[(zak a.data.toList).1]) rfl rfl rb)
  rw[zcS e2 2 (by omega)];simp[rdL,ra,rb]
 have e2:frmW ⟨#[110,110]⟩ [a,b] 2=some ([(zak a.data.toList).1,(zak b.data.toList).1],[]):=by
  rw[frmW,e1];exact zde (by decide) h1 (zdc (x:=[(zak a.data.toList).1]) rfl rfl rb)
 rw[e2];simp[rdL,ra,rb]
theorem ztb (a b c:ByteArray):frmW ⟨#[110,110,110]⟩ [a,b,c] 3 = match rdL [a,b,c] [] with
  |none=>none
  |some ns=>some (ns,[]):=by
 have h0:cntW ⟨#[110,110,110]⟩ [a,b,c] 0=1:=by unfold cntW;rw[if_neg (by decide)]
 have h1:cntW ⟨#[110,110,110]⟩ [a,b,c] 1=1:=by unfold cntW;rw[if_neg (by decide)]
 have h2:cntW ⟨#[110,110,110]⟩ [a,b,c] 2=1:=by unfold cntW;rw[if_neg (by decide)]
 rcases ra:(zak a.data.toList).2 with _|_
 ·have e1:frmW ⟨#[110,110,110]⟩ [a,b,c] 1=none:=by
   rw[frmW,frmW];exact zdd (by decide) h0 (zd9 (x:=[]) rfl rfl ra)
  rw[zcS e1 3 (by omega)];simp[rdL,ra]
 have e1:frmW ⟨#[110,110,110]⟩ [a,b,c] 1=some ([(zak a.data.toList).1],[]):=by
  rw[frmW,frmW];exact zde (by decide) h0 (zdc (x:=[]) rfl rfl ra)
 rcases rb:(zak b.data.toList).2 with _|_
 ·have e2:frmW ⟨#[110,110,110]⟩ [a,b,c] 2=none:=by
   rw[frmW,e1];exact zdd (by decide) h1 (zd9 (x:=[(zak a.data.toList).1]) rfl rfl rb)
  rw[zcS e2 3 (by omega)];simp[rdL,ra,rb]
 have e2:frmW ⟨#[110,110,110]⟩ [a,b,c] 2=some ([(zak a.data.toList).1,(zak b.data.toList).1],[]):=by
  rw[frmW,e1];exact zde (by decide) h1 (zdc (x:=[(zak a.data.toList).1]) rfl rfl rb)
 rcases rc:(zak c.data.toList).2 with _|_
 ·have e3:frmW ⟨#[110,110,110]⟩ [a,b,c] 3=none:=by
   rw[frmW,e2];exact zdd (by decide) h2 (zd9 (x:=[(zak a.data.toList).1,(zak b.data.toList).1]) rfl rfl rc)
  rw[zcS e3 3 (by omega)];simp[rdL,ra,rb,rc]
 have e3:frmW ⟨#[110,110,110]⟩ [a,b,c] 3=some ([(zak a.data.toList).1,(zak b.data.toList).1,(zak c.data.toList).1],[]):=by
  rw[frmW,e2];exact zde (by decide) h2 (zdc (x:=[(zak a.data.toList).1,(zak b.data.toList).1]) rfl rfl rc)
 rw[e3];simp[rdL,ra,rb,rc]
theorem ztc (a b c:ByteArray):frmW ⟨#[110,120,110]⟩ [a,b,c] 3 = match zaD ⟨#[110,119,110]⟩ [a,b,c] 0 [] with
  |none=>none
  |some ns=>some (ns,[b]):=by
 have h0:cntW ⟨#[110,120,110]⟩ [a,b,c] 0=1:=by unfold cntW;rw[if_neg (by decide)]
 have h1:cntW ⟨#[110,120,110]⟩ [a,b,c] 1=1:=by unfold cntW;rw[if_neg (by decide)]
 have h2:cntW ⟨#[110,120,110]⟩ [a,b,c] 2=1:=by unfold cntW;rw[if_neg (by decide)]
 have hj:zbQ (([a,b,c].drop 1).take 1)=b:=zhK b;have k0:(zbh ⟨#[110,119,110]⟩ 0=110\/zbh ⟨#[110,119,110]⟩ 0=42):=by decide
 have k1:¬(zbh ⟨#[110,119,110]⟩ 1=110\/zbh ⟨#[110,119,110]⟩ 1=42):=by decide
 have k2:(zbh ⟨#[110,119,110]⟩ 2=110\/zbh ⟨#[110,119,110]⟩ 2=42):=by decide
 rcases ha:(zak a.data.toList).2 with _|_
 ·have e1:frmW ⟨#[110,120,110]⟩ [a,b,c] 1=none:=by
   rw[frmW,frmW];exact zdd (by decide) h0 (zd9 (x:=[]) rfl rfl ha)
  rw[zcS e1 3 (by omega),zaD,if_pos k0,if_neg (by rw[ha];decide)]
 ·have e1:frmW ⟨#[110,120,110]⟩ [a,b,c] 1=some ([(zak a.data.toList).1],[]):=by
   rw[frmW,frmW];exact zde (by decide) h0 (zdc (x:=[]) rfl rfl ha)
  have e2:frmW ⟨#[110,120,110]⟩ [a,b,c] 2=some ([(zak a.data.toList).1],[b]):=by
   rw[frmW,e1];simp only;rw[zjz (by decide) h1,hj]
   rfl
  rw[zaD,if_pos k0,if_pos ha,zaD,if_neg k1,zaD,if_pos k2,frmW,e2];simp only;rcases hc:(zak c.data.toList).2 with _|_
  ·rw[zdd (by decide) h2 (zd9 (x:=[(zak a.data.toList).1]) rfl rfl hc),if_neg (by decide)]
  ·rw[zde (by decide) h2 (zdc (x:=[(zak a.data.toList).1]) rfl rfl hc),if_pos rfl,zaD]
   rfl
end
section
open Go.RowKit Go.Lib Go.Proofs.Tryz
def Nm(g:Nat)(A:Option Addr)(b:Nat):Prop:=b=g\/inB A b
def Nn(lo g:Nat)(A:Option Addr)(b:Nat):Prop:=Nm g A b\/b<lo
structure Mv (g:Nat) (w w':World) (A A':Option Addr):Prop where
 off:Off (Nm g A) w w'
 new:∀b,b<w.heap.size->¬Nm g A b->¬Nm g A' b
section
variable {g lo n c c' n':Nat}{w w' w1 w2:World}{A A' A1 A2:Option Addr}{cs:Array Value}{ls:List ByteArray}
theorem Mv.refl(g:Nat)(w:World)(A:Option Addr):Mv g w w A A:=⟨Off.refl _ _,fun _ _ h=>h⟩
theorem Mv.trans(h:Mv g w w1 A A1)(k:Mv g w1 w2 A1 A2):Mv g w w2 A A2:=
 ⟨⟨k.off.os.trans h.off.os,k.off.tape.trans h.off.tape,k.off.output.trans h.off.output,Nat.le_trans h.off.size k.off.size,fun b hb hn=>(k.off.block b (Nat.lt_of_lt_of_le hb h.off.size) (h.new b hb hn)).trans (h.off.block b hb hn)⟩,fun b hb hn=>k.new b (Nat.lt_of_lt_of_le hb h.off.size) (h.new b hb hn)⟩
theorem Mv.below(b:Below w.heap.size w w'):Mv g w w' A A:=⟨Off.of_below b _,fun _ _ h=>h⟩
theorem Said.mv(h:Said w w' lo g cs A n ls A' c'):Mv g w w' A A':=⟨h.off,fun b hb hn hh=>hh.elim (fun e=>hn (.inl e)) (h.new b hb (fun e=>hn (.inl e)) fun e=>hn (.inr e))⟩
theorem Mv.bel{B:Nat}(h:Mv g w w' A A')(hg:B<=g)(hA:∀b,inB A b->B<=b)(hB:B<=w.heap.size):Below B w w':=h.off.below (fun b hb=>hb.elim (fun e=>by omega) (hA b)) hB
end
theorem zej{w w':World}{p:Addr}(h:w'.heap[p.block]?=w.heap[p.block]?):w'.cell? p=w.cell? p:=by
 unfold World.cell?;rw[h]
def Aw(w:World)(N:Nat->Prop)(size:Nat)(A:Option Addr)(n:Nat)(xs:List Value):Prop:=
 zad w w.heap.size size A n xs/\(0<n->∀b,inB A b->¬N b)
section
variable {g lo hi n c size:Nat}{w w':World}{A A' X:Option Addr}{xs:List Value}{t:TypeId}
theorem Aw.mv(h:Aw w (Nn lo g A) size X n xs)(m:Mv g w w' A A'):Aw w' (Nn lo g A') size X n xs:=by
 refine⟨⟨h.1.1,fun hn=>?_⟩,fun hn b hb=>?_⟩
 ·obtain⟨ad,e,hs,hb,hc⟩:=h.1.2 hn;exact⟨ad,e,hs,Nat.lt_of_lt_of_le hb m.off.size,fun j u hu=>(zej (p:=⟨ad.block,ad.off+j,none⟩) (m.off.block _ hb fun e9=>h.2 hn _ ⟨ad,e,rfl⟩ (.inl e9))).trans (hc j u hu)⟩
 ·obtain⟨ad,e,_,hlt,_⟩:=h.1.2 hn;have h9:=h.2 hn b hb;refine fun hN=>hN.elim (m.new b ?_ fun e9=>h9 (.inl e9)) fun e9=>h9 (.inr e9);obtain⟨ad',e',rfl⟩:=hb;rw[e] at e';injection e' with e';subst e';exact hlt
theorem Aw.nil(w:World)(N:Nat->Prop)(size:Nat)(X:Option Addr):Aw w N size X 0 []:=⟨⟨by simp,fun h=>absurd h (by omega)⟩,fun h=>absurd h (by omega)⟩
theorem Aw.of_sl{z:Nat}(h:Sl w z hi t size X n c xs)(hg:g<z)(hA:∀b,inB A b->b<z)(hl:lo<=z):Aw w (Nn lo g A) size X n xs:=
 ⟨h.low.reads lr,fun _ b hb hN=>by
  have:=(h.inB_lt hb).1;rcases hN with (e|e)|e
  ·omega
  ·have:=hA b e;omega
  ·omega⟩
end
def AwR(w:World)(N:Nat->Prop)(A:Option Addr)(n:Nat)(rs:List Rn):Prop:=
 ∃hs:List RnH,Aw w N 2 A n (rns hs)/\rs.length=n/\∀(k:Nat) (h:RnH) (r:Rn),hs[k]?=some h->rs[k]?=some r->h.st=r.st/\h.m<=9223372036854775807/\Aw w N 1 h.A h.m (ints r.way)
section
variable {g lo hi n c:Nat}{w w':World}{A A' X:Option Addr}{rs:List Rn}
theorem AwR.mv(h:AwR w (Nn lo g A) X n rs)(m:Mv g w w' A A'):AwR w' (Nn lo g A') X n rs:=by
 obtain⟨hs,h1,h2,h3⟩:=h;exact⟨hs,h1.mv m,h2,fun k x r e1 e2=>⟨(h3 k x r e1 e2).1,(h3 k x r e1 e2).2.1,(h3 k x r e1 e2).2.2.mv m⟩⟩
theorem AwR.reads{N:Nat->Prop}(h:AwR w N X n rs):zaC w w.heap.size X n rs:=by
 obtain⟨hs,h1,h2,h3⟩:=h;exact⟨hs,h1.1,h2,fun k x r e1 e2=>⟨(h3 k x r e1 e2).1,(h3 k x r e1 e2).2.1,(h3 k x r e1 e2).2.2.1⟩⟩
theorem AwR.nil(w:World)(N:Nat->Prop)(X:Option Addr):AwR w N X 0 []:=⟨[],Aw.nil _ _ _ _,rfl,fun k x r e1 _=>by simp at e1⟩
end
structure StD (w:World) (lo g:Nat) (h:DkH) (d:Dk) (A:Option Addr) (n c:Nat) (ls:List ByteArray) (V6 V7:Value):Prop where
 says:Says w lo g #[.int .i64 d.net.sta,.slice h.A1 h.n1 h.c1,.slice h.A2 h.n2 h.c2,.slice h.A3 h.n3 h.c3,.string d.log,.slice A n c,V6,V7] A n c ls
 tubes:Aw w (Nn lo g A) 3 h.A1 h.n1 (tbs d.net.tubes)
 times:Aw w (Nn lo g A) 1 h.A2 h.n2 (ints d.times)
 runs:AwR w (Nn lo g A) h.A3 h.n3 d.runs
 ok:okDk d=true
section
variable {g lo n n' c c':Nat}{w w' w1:World}{A A':Option Addr}{h:DkH}{d:Dk}{ls ls':List ByteArray}{V6 V7:Value}
theorem StD.on(s:StD w lo g h d A n c ls V6 V7)(b:Below w.heap.size w w'):StD w' lo g h d A n c ls V6 V7:=
 ⟨s.says.on b,s.tubes.mv (Mv.below b),s.times.mv (Mv.below b),s.runs.mv (Mv.below b),s.ok⟩
theorem StD.said(s:StD w lo g h d A n c ls V6 V7)(q:Said w w' lo g #[.int .i64 d.net.sta,.slice h.A1 h.n1 h.c1,.slice h.A2 h.n2 h.c2,.slice h.A3 h.n3 h.c3,.string d.log,.slice A n c,V6,V7] A n' ls' A' c'):StD w' lo g h d A' n' c' ls' V6 V7:=
 ⟨q.says,s.tubes.mv q.mv,s.times.mv q.mv,s.runs.mv q.mv,s.ok⟩
theorem StD.cells(s:StD w lo g h d A n c ls V6 V7):w.cell? ⟨g,0,none⟩=some (.int .i64 d.net.sta)/\w.cell? ⟨g,1,none⟩=some (.slice h.A1 h.n1 h.c1)/\w.cell? ⟨g,2,none⟩=some (.slice h.A2 h.n2 h.c2)/\w.cell? ⟨g,3,none⟩=some (.slice h.A3 h.n3 h.c3)/\w.cell? ⟨g,4,none⟩=some (.string d.log)/\w.cell? ⟨g,5,none⟩=some (.slice A n c)/\w.cell? ⟨g,6,none⟩=some V6/\w.cell? ⟨g,7,none⟩=some V7:=
 ⟨s.says.blk.cellAt 0 (by simp),s.says.blk.cellAt 1 (by simp),s.says.blk.cellAt 2 (by simp),s.says.blk.cellAt 3 (by simp),s.says.blk.cellAt 4 (by simp),s.says.blk.cellAt 5 (by simp),s.says.blk.cellAt 6 (by simp),s.says.blk.cellAt 7 (by simp)⟩
theorem StD.glt(s:StD w lo g h d A n c ls V6 V7):g<w.heap.size:=s.says.blk.lt
theorem StD.alt(s:StD w lo g h d A n c ls V6 V7):∀b,inB A b->b<w.heap.size:=fun b hb=>s.says.sl.inB_heap hb
theorem StD.dk(s:StD w lo g h d A n c ls V6 V7):DkR w w.heap.size h d:=⟨s.tubes.1,s.times.1,s.runs.reads⟩
theorem StD.small(s:StD w lo g h d A n c ls V6 V7):DkS h d:=by
 have h1:=zbW s.tubes.1;have h2:=zai s.times.1;have h3:=s.runs.reads.len;obtain⟨k1,k2,k3⟩:=zaT s.ok;have g1:=(zd2 k1).2.1;have g2:=zd8 (zaV k2);have g3:=zbB k2;refine⟨by omega,by omega,by omega,fun k r hk=>?_,by have:=(zgI k3).1;omega⟩;have hw:=zaJ (zbG k2 hk).1;omega
def zbY(w w':World)(lo g:Nat)(A:Option Addr)(d':Dk)(ls':List ByteArray):Prop:=∃(h':DkH) (A':Option Addr) (n' c':Nat) (V6 V7:Value),StD w' lo g h' d' A' n' c' ls' V6 V7/\Mv g w w' A A'
theorem zbY.after(m:Mv g w w1 A A')(s:zbY w1 w' lo g A' d ls):zbY w w' lo g A d ls:=by
 obtain⟨h',A2,n2,c2,v6,v7,s2,m2⟩:=s;exact⟨h',A2,n2,c2,v6,v7,s2,m.trans m2⟩
theorem StD.out(s:StD w lo g h d A n c ls V6 V7)(q:Said w w' lo g #[.int .i64 d.net.sta,.slice h.A1 h.n1 h.c1,.slice h.A2 h.n2 h.c2,.slice h.A3 h.n3 h.c3,.string d.log,.slice A n c,V6,V7] A n' ls' A' c'):zbY w w' lo g A d ls':=
 ⟨h,A',n',c',V6,V7,s.said q,q.mv⟩
end
structure StI (w:World) (lo g:Nat) (h:DkH) (d:Dk) (A:Option Addr) (n c:Nat) (ls:List ByteArray) (NA:Option Addr) (nn nc:Nat) (ns:List Int) (TA:Option Addr) (tn tc:Nat) (ts:List ByteArray):Prop where
 st:StD w lo g h d A n c ls (.slice NA nn nc) (.slice TA tn tc)
 nums:Aw w (Nn lo g A) 1 NA nn (ints ns)
 texts:Aw w (Nn lo g A) 1 TA tn (strs ts)
 low:lo<=w.heap.size
 nl:n<=1000000
 nb:∀x∈ns,i64b x
 nnl:nn<=1048576
 ncl:nn<=nc
 tb:∀x∈ts,x.size<=1048576
def ansD(d:Dk)(a:Ans):Dk:=if a.code≠0 then d else a.dk
def ansL(a:Ans):List ByteArray:=if a.code≠0 then [errL a.code.toNat] else a.lines
theorem zsM{d:Dk}{a:Ans}(h:a.code=0):ansD d a=a.dk:=by unfold ansD;rw[if_neg (by rw[h];decide)]
theorem zsO{a:Ans}(h:a.code=0):ansL a=a.lines:=by unfold ansL;rw[if_neg (by rw[h];decide)]
theorem zsL{d:Dk}{a:Ans}(h:a.code≠0):ansD d a=d:=by unfold ansD;rw[if_pos h]
theorem zsN{a:Ans}(h:a.code≠0):ansL a=[errL a.code.toNat]:=by unfold ansL;rw[if_pos h]
theorem zeL (g:Nat) (w:World) :
  Calls prog 41 #[.pointer (some ⟨g,0,none⟩),.int .i64 0] w fun e w'=>e= .returned (.bool false)/\w=w':=by
 go_enter func41,ntmps41;go_wp2;go_ret;exact⟨rfl,rfl⟩
theorem zcq {lo g n c:Nat} {cs:Array Value} {A:Option Addr} {ls:List ByteArray} {w:World} (h:Says w lo g cs A n c ls) (hlo:lo <= w.heap.size) (hn:n <= 1000000) {k:Int} (h0:0 <= k) (h1:k <= 10) (hk:k ≠ 0) :
  Calls prog 41 #[.pointer (some ⟨g,0,none⟩),.int .i64 k] w fun e w'=>e= .returned (.bool true)/\∃A' c',Said w w' lo g cs A (n+1) (ls++ [errL k.toNat]) A' c':=by
 obtain⟨j,rfl⟩:=Int.eq_ofNat_of_zero_le h0;exact zmw lo g cs A n c ls j w h hlo (by omega) (by omega) (by omega)
end
section
open Go.RowKit Go.Lib
structure Plan (ws:List ByteArray) (f sh:ByteArray) (tx:List ByteArray):Prop where
 fr:frmS (zag ws 0)=f
 sp:shp (zag ws 0)=sh
 sz:f.size=sh.size
 s3:f.size<=3
 nb:(f.toList==[45])=false
 fit:zaS f (ws.length-1)=true↔¬(ws.length<sh.size+1\/(zci sh=false/\sh.size+1<ws.length))
 num:zaS f (ws.length-1)=true->frmW f (ws.drop 1) f.size=match zaD sh (ws.drop 1) 0 [] with
  |none=>none
  |some ns=>some (ns,tx)
 tb:zaS f (ws.length-1)=true->(∀x∈ws,x.size<=1048576)->(zaF 32 ((ws.drop 1).map fun s=>s.data.toList)).length<=1048576->∀x∈tx,x.size<=1048576
theorem zeI{f sh:ByteArray}{n:Nat}(hl:(f.data.toList.getLast?==some 114||f.data.toList.getLast?==some 108)=true)(hs:zci sh=true)(hz:f.size=sh.size)(h1:1<=n):zaS f (n-1)=true↔¬(n<sh.size+1\/(zci sh=false/\sh.size+1<n)):=by
 unfold zaS;rw[if_pos hl,hs,hz,decide_eq_true_iff];simp;omega
theorem zgA{f sh:ByteArray}{n:Nat}(hl:(f.data.toList.getLast?==some 114||f.data.toList.getLast?==some 108)=false)(hs:zci sh=false)(hz:f.size=sh.size)(h1:1<=n):zaS f (n-1)=true↔¬(n<sh.size+1\/(zci sh=false/\sh.size+1<n)):=by
 unfold zaS;rw[if_neg (by rw[hl];decide),hs,hz,beq_iff_eq];simp;omega
theorem zdj{f:ByteArray}{n:Nat}(h:zaS f n=true):f.size<=n:=by
 unfold zaS at h
 split at h
 ·exact of_decide_eq_true h
 ·rw[beq_iff_eq] at h;omega
theorem ze7{f:ByteArray}{l:List UInt8}(e:f.data.toList=l)(h:(l==[45])=false):(f.toList==[45])=false:=by
 rw[Go.ByteArray.toList_eq,e];exact h
theorem zcv(ws:List ByteArray):(ws.drop 1).length=ws.length-1:=List.length_drop ..
theorem zpR{α:Type}{l:List α}(h:1<=l.length):∃a r,l=a::r:=by
 cases l with
 |nil=>simp at h
 |cons a r=>exact⟨a,r,rfl⟩
theorem ztJ{α:Type}:∀{l:List α},l.length=2->∃a b,l=[a,b]
 | [a,b],_=>⟨a,b,rfl⟩
theorem znp{α:Type}:∀{l:List α},l.length=3->∃a b c,l=[a,b,c]
 | [a,b,c],_=>⟨a,b,c,rfl⟩
theorem zsA{ws:List ByteArray}{a b c:ByteArray}(e:ws.drop 1=[a,b,c]):zag ws 2=b:=by
 have h9:(ws.drop 1)[1]?=ws[2]?:=by rw[List.getElem?_drop]
 rw[e] at h9;unfold zag;rw[List.getD_eq_getElem?_getD,<-h9]
 rfl
theorem zuh(j:Nat):¬(zbh ⟨#[43]⟩ j=110\/zbh ⟨#[43]⟩ j=42):=by
 have e:zbh ⟨#[43]⟩ j=43:=by
  show [43].getD (min j 0) 0=43;rw[Nat.min_zero];rfl
 rw[e];decide
theorem ztr{ws:List ByteArray}(h1:1<=ws.length)(hw:((zag ws 0).toList==[110,101,116])=true):Plan ws ⟨#[114]⟩ ⟨#[43]⟩ [zbQ (ws.drop 1)]:=by
 refine⟨by unfold frmS;rw[if_pos hw],zru hw,rfl,by decide,ze7 rfl (by decide),zeI (by decide) (by decide) rfl h1,fun h=>?_,fun _ _ hj x hx=>by rw[List.mem_singleton] at hx;subst hx;unfold zbQ;rw[zaj];exact hj⟩
 ·rw[zkm _ _ _ fun j _=>zuh j];exact zug
theorem zri{ws:List ByteArray}(h1:1<=ws.length)(hw:((zag ws 0).toList==[113,117,101,117,101])=true):Plan ws ⟨#[108]⟩ ⟨#[42]⟩ []:=by
 refine⟨by unfold frmS;rw[eq_of_beq hw];rfl,znE hw,rfl,by decide,ze7 rfl (by decide),zeI (by decide) (by decide) rfl h1,fun h=>?_,fun _ _ _ x hx=>by cases hx⟩
 ·have h1:1<=ws.length-1:=zdj h;have h2:=zcv ws;rw[zdK _ _ _ fun j _=>zsF 42 (.inr rfl) j];exact zsE (by omega)
theorem zrk{ws:List ByteArray}(h1:1<=ws.length)(hw:((zag ws 0).toList==[116,105,109,101,115])=true):Plan ws ⟨#[108]⟩ ⟨#[42]⟩ []:=by
 refine⟨by unfold frmS;rw[eq_of_beq hw];rfl,znG hw,rfl,by decide,ze7 rfl (by decide),zeI (by decide) (by decide) rfl h1,fun h=>?_,fun _ _ _ x hx=>by cases hx⟩
 ·have h1:1<=ws.length-1:=zdj h;have h2:=zcv ws;rw[zdK _ _ _ fun j _=>zsF 42 (.inr rfl) j];exact zsE (by omega)
theorem zts{ws:List ByteArray}(h1:1<=ws.length)(hw:((zag ws 0).toList==[114,117,110])=true):Plan ws ⟨#[110,108]⟩ ⟨#[110,42]⟩ []:=by
 refine⟨by unfold frmS;rw[eq_of_beq hw];rfl,zrv hw,rfl,by decide,ze7 rfl (by decide),zeI (by decide) (by decide) rfl h1,fun h=>?_,fun _ _ _ x hx=>by cases hx⟩
 ·have h1:=zdj h;have h2:=zcv ws;rw[zdK _ _ _ fun j _=>zeh 110 42 (.inl rfl) (.inr rfl) j];have h3:(⟨#[110,108]⟩:ByteArray).size=2:=rfl;obtain⟨a,r,e⟩:=zpR (l:=ws.drop 1) (by omega);rw[e] at h2⊢;rw[List.length_cons] at h2;exact zmV (by omega)
theorem zpZ{ws:List ByteArray}(h1:1<=ws.length)(hw:((zag ws 0).toList==[115,101,97,114,99,104])=true):Plan ws ⟨#[110,108]⟩ ⟨#[110,42]⟩ []:=by
 refine⟨by unfold frmS;rw[eq_of_beq hw];rfl,zlQ hw,rfl,by decide,ze7 rfl (by decide),zeI (by decide) (by decide) rfl h1,fun h=>?_,fun _ _ _ x hx=>by cases hx⟩
 ·have h1:=zdj h;have h2:=zcv ws;rw[zdK _ _ _ fun j _=>zeh 110 42 (.inl rfl) (.inr rfl) j];have h3:(⟨#[110,108]⟩:ByteArray).size=2:=rfl;obtain⟨a,r,e⟩:=zpR (l:=ws.drop 1) (by omega);rw[e] at h2⊢;rw[List.length_cons] at h2;exact zmV (by omega)
theorem zrj{ws:List ByteArray}(h1:1<=ws.length)(hw:((zag ws 0).toList==[115,116,117,99,107])=true):Plan ws ⟨#[110,108]⟩ ⟨#[110,42]⟩ []:=by
 refine⟨by unfold frmS;rw[eq_of_beq hw];rfl,znF hw,rfl,by decide,ze7 rfl (by decide),zeI (by decide) (by decide) rfl h1,fun h=>?_,fun _ _ _ x hx=>by cases hx⟩
 ·have h1:=zdj h;have h2:=zcv ws;rw[zdK _ _ _ fun j _=>zeh 110 42 (.inl rfl) (.inr rfl) j];have h3:(⟨#[110,108]⟩:ByteArray).size=2:=rfl;obtain⟨a,r,e⟩:=zpR (l:=ws.drop 1) (by omega);rw[e] at h2⊢;rw[List.length_cons] at h2;exact zmV (by omega)
theorem ztt{ws:List ByteArray}(h1:1<=ws.length)(hw:((zag ws 0).toList==[119,97,121])=true):Plan ws ⟨#[110,110]⟩ ⟨#[110,110]⟩ []:=by
 refine⟨by unfold frmS;rw[eq_of_beq hw];rfl,zrw hw,rfl,by decide,ze7 rfl (by decide),zgA (by decide) (by decide) rfl h1,fun h=>?_,fun _ _ _ x hx=>by cases hx⟩
 ·have h1:ws.length-1=2:=by unfold zaS at h;rw[if_neg (by decide),beq_iff_eq] at h;exact h
  rw[zdK _ _ _ fun j _=>zeh 110 110 (.inl rfl) (.inl rfl) j];obtain⟨a,b,e⟩:=ztJ (l:=ws.drop 1) (by rw[zcv];exact h1);rw[e];exact ztH a b
theorem zsw{ws:List ByteArray}(h1:1<=ws.length)(hw:((zag ws 0).toList==[102,114,101,101])=true):Plan ws ⟨#[110,110,110]⟩ ⟨#[110,110,110]⟩ []:=by
 refine⟨by unfold frmS;rw[eq_of_beq hw];rfl,zpi hw,rfl,by decide,ze7 rfl (by decide),zgA (by decide) (by decide) rfl h1,fun h=>?_,fun _ _ _ x hx=>by cases hx⟩
 ·have h1:ws.length-1=3:=by unfold zaS at h;rw[if_neg (by decide),beq_iff_eq] at h;exact h
  rw[zdK _ _ _ fun j _=>zpE 110 110 110 (.inl rfl) (.inl rfl) (.inl rfl) j];obtain⟨a,b,c,e⟩:=znp (l:=ws.drop 1) (by rw[zcv];exact h1);rw[e];exact ztb a b c
theorem zrh{ws:List ByteArray}(h1:1<=ws.length)(hw:((zag ws 0).toList==[101,110,116,101,114])=true):Plan ws ⟨#[110,120,110]⟩ ⟨#[110,119,110]⟩ [zag ws 2]:=by
 refine⟨by unfold frmS;rw[eq_of_beq hw];rfl,znD hw,rfl,by decide,ze7 rfl (by decide),zgA (by decide) (by decide) rfl h1,fun h=>?_,fun h hs _ x hx=>by rw[List.mem_singleton] at hx;subst hx;unfold zag;rw[List.getD_eq_getElem?_getD];cases e:ws[2]? with
  |none=>exact Nat.zero_le _
  |some y=>exact hs y (List.mem_of_getElem? e)⟩
 ·have h1:ws.length-1=3:=by unfold zaS at h;rw[if_neg (by decide),beq_iff_eq] at h;exact h
  obtain⟨a,b,c,e⟩:=znp (l:=ws.drop 1) (by rw[zcv];exact h1);have hb:=zsA e;rw[e,hb];exact ztc a b c
theorem ztq{ws:List ByteArray}(h1:1<=ws.length)(hw:((zag ws 0).toList==[108,111,103])=true):Plan ws ⟨#[]⟩ ⟨#[]⟩ []:=by
 refine⟨by unfold frmS;rw[eq_of_beq hw];rfl,ztN hw,rfl,by decide,ze7 rfl (by decide),zgA (by decide) (by decide) rfl h1,fun h=>?_,fun _ _ _ x hx=>by cases hx⟩
 ·have h1:ws.length-1=0:=by unfold zaS at h;rw[if_neg (by decide),beq_iff_eq] at h;exact h
  have e:ws.drop 1=[]:=List.eq_nil_of_length_eq_zero (by rw[zcv];exact h1);rw[e];rfl
theorem zsx{ws:List ByteArray}(h1:1<=ws.length)(hw:((zag ws 0).toList==[114,117,110,115])=true):Plan ws ⟨#[]⟩ ⟨#[]⟩ []:=by
 refine⟨by unfold frmS;rw[eq_of_beq hw];rfl,zt0 hw,rfl,by decide,ze7 rfl (by decide),zgA (by decide) (by decide) rfl h1,fun h=>?_,fun _ _ _ x hx=>by cases hx⟩
 ·have h1:ws.length-1=0:=by unfold zaS at h;rw[if_neg (by decide),beq_iff_eq] at h;exact h
  have e:ws.drop 1=[]:=List.eq_nil_of_length_eq_zero (by rw[zcv];exact h1);rw[e];rfl
theorem ztI{s:ByteArray}(h:hasW zb9 s=false):frmS s=⟨#[45]⟩:=by
 unfold hasW at h;have h2:(zb9.map (fun y=>y.toList)).any (fun y=>s.toList==y)=false:=by rw[List.any_map];exact h
 rw[ziC] at h2;simp only[List.any_cons,List.any_nil,Bool.or_false,Bool.or_eq_false_iff] at h2;obtain⟨e1,e2,e3,e4,e5,e6,e7,e8,e9,e10,e11⟩:=h2;unfold frmS;rw[if_neg (by rw[e4];decide),if_neg (by rw[e5];decide),if_neg (by rw[e10];decide),if_neg (by rw[e6];decide),if_neg (by rw[e8];decide),if_neg (by rw[e9];decide),if_neg (by rw[e11];decide),if_neg (by rw[e2];decide),if_neg (by rw[e1];decide),if_neg (by rw[e3];decide),if_neg (by rw[e7];decide)]
theorem ztD{d:Dk}{line:ByteArray}(ok:okDk d=true)(h:hasW zb9 (zag (zah 32 line) 0)=false):(cmdF d line).code≠0:=by
 unfold cmdF;simp only;rw[if_neg (by rw[ok];decide),if_pos h]
 decide
section
variable {d:Dk}{line f sh:ByteArray}{tx:List ByteArray}{ws:List ByteArray}
theorem zq4(ok:okDk d=true)(hws:zah 32 line=ws)(hh:hasW zb9 (zag ws 0)=true)(p:Plan ws f sh tx)(h:zaS f (ws.length-1)=false):(cmdF d line).code≠0:=by
 have hf:ws.length<sh.size+1\/(zci sh=false/\sh.size+1<ws.length):=by
  refine Classical.byContradiction fun hn=>?_;have:=p.fit.2 hn;rw[h] at this
  cases this
 subst hws;unfold cmdF;simp only;rw[if_neg (by rw[ok];decide),if_neg (by rw[hh];decide),p.sp,if_pos hf]
 decide
theorem zrR(ok:okDk d=true)(hws:zah 32 line=ws)(hh:hasW zb9 (zag ws 0)=true)(p:Plan ws f sh tx)(h:zaS f (ws.length-1)=true)(hn:frmW f (ws.drop 1) f.size=none):cmdF d line=⟨d,[errL 7],0⟩:=by
 have hf:=p.fit.1 h;have hm:=p.num h;rw[hn] at hm;subst hws;unfold cmdF;simp only;rw[if_neg (by rw[ok];decide),if_neg (by rw[hh];decide),p.sp,if_neg hf]
 cases e:zaD sh ((zah 32 line).drop 1) 0 [] with
 |none=>rfl
 |some ns=>rw[e] at hm;cases hm
theorem zrQ{x:List Int×List ByteArray}(ok:okDk d=true)(hws:zah 32 line=ws)(hh:hasW zb9 (zag ws 0)=true)(p:Plan ws f sh tx)(h:zaS f (ws.length-1)=true)(hn:frmW f (ws.drop 1) f.size=some x):x.2=tx/\zaD sh (ws.drop 1) 0 []=some x.1/\(cmdF d line).code=0/\(cmdF d line).dk=ansD d (execF d ws x.1)/\(cmdF d line).lines=ansL (execF d ws x.1):=by
 have hf:=p.fit.1 h;have hm:=p.num h;rw[hn] at hm;subst hws
 cases e:zaD sh ((zah 32 line).drop 1) 0 [] with
 |none=>rw[e] at hm;cases hm
 |some ns=>
  rw[e] at hm;injection hm with hm;subst hm;refine⟨rfl,rfl,?_⟩;unfold cmdF;simp only;rw[if_neg (by rw[ok];decide),if_neg (by rw[hh];decide),p.sp,if_neg hf,e];simp only;unfold ansD ansL
  split
  ·exact⟨rfl,rfl,rfl⟩
  ·rename_i hc;exact⟨by simpa using hc,rfl,rfl⟩
end
end
section
open Go.RowKit Go.Lib Go.Proofs.Tryz
theorem outE{w w':World}{lo g:Nat}{A:Option Addr}{d:Dk}{ls:List ByteArray}{a:Ans}{k:Int}(s:zbY w w' lo g A d (ls++ [errL k.toNat]))(e:a.code=k)(hk:¬k=0):zbY w w' lo g A (ansD d a) (ls++ansL a):=by
 rw[zsL (by rw[e];exact hk),zsN (by rw[e];exact hk),e];exact s
theorem out0{w w':World}{lo g:Nat}{A:Option Addr}{d d':Dk}{ls l:List ByteArray}{a:Ans}(s:zbY w w' lo g A d' (ls++l))(e:a=⟨d',l,0⟩):zbY w w' lo g A (ansD d a) (ls++ansL a):=by
 rw[e,zsM rfl,zsO rfl];exact s
theorem zpN {w:World} {lo g:Nat} {h:DkH} {d:Dk} {A:Option Addr} {n c:Nat} {ls:List ByteArray} {NA:Option Addr} {nn nc:Nat} {ns:List Int} {TA:Option Addr} {tn tc:Nat} {ts:List ByteArray} (x:StI w lo g h d A n c ls NA nn nc ns TA tn tc ts) (hn:2 <= nn) :
  Calls prog 114 #[.pointer (some ⟨g,0,none⟩)] w fun e w'=>e= .returned (.tuple #[])/\zbY w w' lo g A (ansD d (zfa d ns)) (ls++ansL (zfa d ns)):=by
 have XI:=hid x;obtain⟨c0,c1,c2,c3,c4,c5,c6,c7⟩:=x.st.cells;have HS:=hid x.st.small;obtain⟨n0,bn0,on0,hn0,hNA0,_,q0⟩:=zax x.nums.1 (k:=0) (by omega);subst hNA0;rw[Nat.add_zero] at q0;have HN0:=hid (show zal ns 0=n0 by unfold zal;rw[List.getD_eq_getElem?_getD,hn0];rfl);obtain⟨n1,bn1,on1,hn1,hNA1,_,q1⟩:=zax x.nums.1 (k:=1) (by omega);injection hNA1 with hNA1;injection hNA1 with hNb1 hNo1;subst hNb1;subst hNo1;have HN1:=hid (show zal ns 1=n1 by unfold zal;rw[List.getD_eq_getElem?_getD,hn1];rfl);have hi0:0<nn:=by omega
 have hii1:(1:Int)<nn:=by omega
 clear x hn0 hn1;go_enter func114,ntmps114
 go_wp2_with fail
 refine ez (fun V=>Below w.heap.size w V) ?_ fun hHeld=>?_
 ·exact(Below.refl _ _).drew
 refine dq 0 rfl (h:=dq 1 rfl (h:=dq 2 rfl (h:=dq 3 rfl (h:=dq 4 rfl (hy:=by intro w hSw;(try dsimp only at hSw);(have y0:=zaa hSw c0);(have y1:=zaa hSw c1);(try have z2:=zaa hSw q2);(try have zk:=zaa hSw k0);go_simp;try with_reducible rfl) (h:=dq 5 rfl (h:=dq 6 rfl (h:=dq 7 rfl (h:=?_))))))))
 refine dq 8 rfl (hy:=by intro w hSw;(try dsimp only at hSw);(have y6:=zaa hSw c6);(try have z2:=zaa hSw q2);(try have zk:=zaa hSw k0);go_simp;try with_reducible rfl) (h:=dq 9 rfl (h:=dq 10 rfl (hy:=by intro w hSw;(try dsimp only at hSw);(try have z0:=zaa hSw q0);(try have z2:=zaa hSw q2);(try have zk:=zaa hSw k0);go_simp;try with_reducible rfl) (h:=dq 11 rfl (h:=dq 12 rfl (h:=dq 13 rfl (h:=dq 14 rfl (hy:=by intro w hSw;(try dsimp only at hSw);(have y6:=zaa hSw c6);(try have z2:=zaa hSw q2);(try have zk:=zaa hSw k0);go_simp;try with_reducible rfl) (h:=dq 15 rfl (h:=?_))))))))
 refine dq 16 rfl (hy:=by intro w hSw;(try dsimp only at hSw);(try have z1:=zaa hSw q1);(try have z2:=zaa hSw q2);(try have zk:=zaa hSw k0);go_simp;try with_reducible rfl) (h:=?_);refine rd 17 rfl fun K hK=>?_;go_simp;refine(zoF h.A1 h.n1 h.c1 w.heap.size d.net n0 n1 _ (XI.out.st.tubes.1.on lr hHeld) hHeld.size HS.out.n1).mono ?_;rintro e w5 ⟨A5,m5,d5,rfl,s5,b5⟩;have HS5:=hid s5
 go_wp2_with fail
 refine ke hK ?_ ?_
 ·exact zac hHeld b5 lr
 clear hK K hHeld;intro hHeld;refine dq 18 rfl (h:=dq 19 rfl (h:=dq 20 rfl (h:=dq 21 rfl (h:=dq 22 rfl (h:=?_)))));refine dn ?_;have HSD:=hid (XI.out.st.on hHeld);have HMV:=hid (Mv.below (g:=g) (A:=A) hHeld);have HLO:=hid (Nat.le_trans XI.out.low hHeld.size);clear hHeld c0 c1 c2 c3 c4 c5 c6 c7;have HCD:=hid (show 0<=(wayC d.net n0 n1).2/\(wayC d.net n0 n1).2<=10 by have:=zpp d.net n0 n1;omega);have HWB:=hid (zlm d.net n0 n1);have HWL:=hid (zj7 d.net n0 n1);have HAN:=hid (show zfa d ns=⟨d,[zab (zaI (wayC d.net n0 n1).1)],(wayC d.net n0 n1).2⟩ by rw[zfa,HN0.out,HN1.out]);obtain⟨v1,hv1⟩:∃z,(wayC d.net n0 n1).1=z:=⟨_,rfl⟩
 obtain⟨v2,hv2⟩:∃z,(wayC d.net n0 n1).2=z:=⟨_,rfl⟩
 rw[hv1] at HS5 HWB HWL HAN;rw[hv2] at HCD HAN⊢;clear hv1 hv2;have hm5:m5<=1048576:=by have h1:=zai (HS5.out.reads lr);have h2:=HWL.out;omega
 by_cases hc:v2=0
 ·subst hc
  go_wp2_with fail
  refine(zeL g w5).mono ?_;rintro e w6 ⟨rfl,hw⟩;rw[<-hw];clear hw w6
  go_wp2_with fail
  refine(zfy lo g _ A n c ls A5 m5 d5 w5.heap.size v1 w5 HSD.out.says (HS5.out.reads lr) lr HLO.out (by have:=XI.out.nl;omega) hm5 HWB.out).mono ?_;rintro e w7 ⟨rfl,A',c',hs⟩;have HSS:=hid ((HSD.out.out hs).after HMV.out);clear hs;go_wp2;go_end0;exact⟨rfl,out0 HSS.out HAN.out⟩
 ·skip
  go_wp2_with fail
  refine(zcq HSD.out.says (Nat.le_trans XI.out.low HMV.out.off.size) XI.out.nl HCD.out.1 HCD.out.2 hc).mono ?_;rintro e w6 ⟨rfl,A',c',hs⟩;have HSS:=hid ((HSD.out.out hs).after HMV.out);clear hs;go_wp2;go_end0;exact⟨rfl,outE HSS.out (by rw[HAN.out]) hc⟩
theorem zmx {w:World} {lo g:Nat} {h:DkH} {d:Dk} {A:Option Addr} {n c:Nat} {ls:List ByteArray} {NA:Option Addr} {nn nc:Nat} {ns:List Int} {TA:Option Addr} {tn tc:Nat} {ts:List ByteArray} (x:StI w lo g h d A n c ls NA nn nc ns TA tn tc ts) (hn:1 <= nn) :
  Calls prog 111 #[.pointer (some ⟨g,0,none⟩)] w fun e w'=>e= .returned (.tuple #[])/\zbY w w' lo g A (ansD d (zcN d ns)) (ls++ansL (zcN d ns)):=by
 have XI:=hid x;obtain⟨c0,c1,c2,c3,c4,c5,c6,c7⟩:=x.st.cells;obtain⟨n0,bn0,on0,hn0,hNA0,_,q0⟩:=zax x.nums.1 (k:=0) (by omega);subst hNA0;rw[Nat.add_zero] at q0;have HN0:=hid (show zal ns 0=n0 by unfold zal;rw[List.getD_eq_getElem?_getD,hn0];rfl);have hi0:0<nn:=by omega
 obtain⟨TA9,hTA⟩:∃z,(if nc=1 then some (⟨bn0,on0,none⟩:Addr) else some ⟨bn0,on0+1,none⟩)=z:=⟨_,rfl⟩
 have hi9:(1:Int)<=nn:=by omega
 have hic:=x.ncl
 have hSB:=(show zad w w.heap.size 1 TA9 (nn-1) (ints (ns.drop 1)) by
  have hl:=zai x.nums.1;by_cases h1:nc=1
  ·rw[if_pos h1] at hTA;refine⟨by simp[ints];omega,fun h=>by omega⟩
  ·rw[if_neg h1] at hTA;rw[<-hTA];have hr:=x.nums.1.sub (i:=1) (m:=nn-1) (by omega);rwa[show((ints ns).drop 1).take (nn-1)=ints (ns.drop 1) by rw[List.take_of_length_le (by simp[ints];omega)];simp[ints]] at hr)
 obtain⟨tl,htl⟩:∃z,ns.drop 1=z:=⟨_,rfl⟩
 rw[htl] at hSB;have HTL:=hid htl;have HSB:=hid hSB;clear htl hSB;clear x hn0;go_enter func111,ntmps111
 go_wp2_with fail
 refine ez (fun V=>Below w.heap.size w V) ?_ fun hHeld=>?_
 ·exact(Below.refl _ _).drew
 refine dq 0 rfl (h:=dq 1 rfl (h:=dq 2 rfl (h:=dq 3 rfl (hy:=by intro w hSw;(try dsimp only at hSw);(have y6:=zaa hSw c6);(try have z1:=zaa hSw q1);(try have z2:=zaa hSw q2);(try have zk:=zaa hSw k0);go_simp;try with_reducible rfl) (h:=dq 4 rfl (h:=dq 5 rfl (h:=dq 6 rfl (h:=dq 7 rfl (h:=?_))))))))
 refine dq 8 rfl (hy:=by intro w hSw;(try dsimp only at hSw);(have y6:=zaa hSw c6);(try have z1:=zaa hSw q1);(try have z2:=zaa hSw q2);(try have zk:=zaa hSw k0);go_simp;try with_reducible rfl) (h:=dq 9 rfl (h:=dq 10 rfl (hy:=by intro w hSw;(try dsimp only at hSw);(try have z0:=zaa hSw q0);(try have z1:=zaa hSw q1);(try have z2:=zaa hSw q2);(try have zk:=zaa hSw k0);go_simp;try with_reducible rfl) (h:=?_)));refine rd 11 rfl fun K hK=>?_;go_simp;refine(zlc TA9 (nn-1) (nc-1) w.heap.size tl n0 _ (HSB.out.on lr hHeld) hHeld.size (by have:=XI.out.nnl;omega)).mono ?_;rintro e w5 ⟨A5,m5,d5,rfl,s5,b5⟩;have HS5:=hid s5
 go_wp2_with fail
 refine ke hK ?_ ?_
 ·exact zac hHeld b5 lr
 clear hK K hHeld;intro hHeld;refine dq 12 rfl (h:=dq 13 rfl (h:=dq 14 rfl (h:=dq 15 rfl (h:=dq 16 rfl (h:=dq 17 rfl (h:=dq 18 rfl (h:=?_)))))));refine dn ?_;have HSD:=hid (XI.out.st.on hHeld);have HMV:=hid (Mv.below (g:=g) (A:=A) hHeld);have HLO:=hid (Nat.le_trans XI.out.low hHeld.size);clear hHeld c0 c1 c2 c3 c4 c5 c6 c7;have HCD:=hid (show 0<=(seaC tl n0).2.2/\(seaC tl n0).2.2<=10 by have:=zph tl n0;omega);have HWB:=hid (zi7 tl n0).1;have HVB:=hid (zi7 tl n0).2;have HWL:=hid (zjt tl n0);have HAN:=hid (show zcN d ns=⟨d,[zab (zaI (seaC tl n0).1),zab (itoa (seaC tl n0).2.1)],(seaC tl n0).2.2⟩ by rw[zcN,HN0.out,HTL.out]);obtain⟨v1,hv1⟩:∃z,(seaC tl n0).1=z:=⟨_,rfl⟩
 obtain⟨v3,hv3⟩:∃z,(seaC tl n0).2.1=z:=⟨_,rfl⟩
 obtain⟨v2,hv2⟩:∃z,(seaC tl n0).2.2=z:=⟨_,rfl⟩
 rw[hv1] at HS5 HWB HWL HAN;rw[hv2] at HCD HAN⊢;rw[hv3] at HVB HAN⊢;clear hv1 hv2 hv3;have hm5:m5<=1048576:=by have h1:=zai (HS5.out.reads lr);have h2:=HWL.out;omega
 by_cases hc:v2=0
 ·subst hc
  go_wp2_with fail
  refine(zeL g w5).mono ?_;rintro e w6 ⟨rfl,hw⟩;rw[<-hw];clear hw w6
  go_wp2_with fail
  refine(zfy lo g _ A n c ls A5 m5 d5 w5.heap.size v1 w5 HSD.out.says (HS5.out.reads lr) lr HLO.out (by have:=XI.out.nl;omega) hm5 HWB.out).mono ?_;rintro e w7 ⟨rfl,A',c',hs⟩;have HS7:=hid (HSD.out.said hs);have HM7:=hid (HMV.out.trans hs.mv);clear hs
  go_wp2_with fail
  refine(zbj v3 w7 HVB.out.1 HVB.out.2).mono ?_;rintro e w8 ⟨rfl,b8⟩;have HS8:=hid (HS7.out.on b8);have HM8:=hid (HM7.out.trans (Mv.below b8));clear b8
  go_wp2_with fail
  refine(zbR lo g _ A' (n+1) c' (ls++ [zab (zaI v1)]) (zab (itoa v3)) w8 HS8.out.says (Nat.le_trans XI.out.low HM8.out.off.size) (by have:=XI.out.nl;omega)).mono ?_;rintro e w9 ⟨rfl,A9,c9,hs⟩;have HSS:=hid ((HS8.out.out hs).after HM8.out);clear hs;rw[List.append_assoc] at HSS;go_wp2;go_end0;exact⟨rfl,out0 HSS.out HAN.out⟩
 ·skip
  go_wp2_with fail
  refine(zcq HSD.out.says (Nat.le_trans XI.out.low HMV.out.off.size) XI.out.nl HCD.out.1 HCD.out.2 hc).mono ?_;rintro e w6 ⟨rfl,A',c',hs⟩;have HSS:=hid ((HSD.out.out hs).after HMV.out);clear hs;go_wp2;go_end0;exact⟨rfl,outE HSS.out (by rw[HAN.out]) hc⟩
theorem zo6 {w:World} {lo g:Nat} {h:DkH} {d:Dk} {A:Option Addr} {n c:Nat} {ls:List ByteArray} {NA:Option Addr} {nn nc:Nat} {ns:List Int} {TA:Option Addr} {tn tc:Nat} {ts:List ByteArray} (x:StI w lo g h d A n c ls NA nn nc ns TA tn tc ts) :
  Calls prog 110 #[.pointer (some ⟨g,0,none⟩)] w fun e w'=>e= .returned (.tuple #[])/\zbY w w' lo g A (ansD d (zfn d)) (ls++ansL (zfn d)):=by
 have XI:=hid x;obtain⟨c0,c1,c2,c3,c4,c5,c6,c7⟩:=x.st.cells;clear x;go_enter func110,ntmps110;have HRR:=hid XI.out.st.runs.reads;have HLN:=hid HRR.out.len;have hok:=(zaT XI.out.st.ok).2.1;have HOK:=hid hok;have hn3:h.n3<=12:=by have:=zbB hok;have:=HLN.out;omega
 have HAN:=hid (show zfn d=⟨d,okL (d.runs.map fun r=>zab (zaI (r.st::r.way))),0⟩ from rfl);have C3:=hid c3;have acc0:=Acc.made w 9 1;have HS0:=hid (acc0.sl (lo:=w.heap.size) lr lr);have HB0:=hid (acc0.below (B:=w.heap.size) lr lr);obtain⟨M,hM⟩:∃z,d.runs.map (fun r=>zab (zaI (r.st::r.way)))=z:=⟨_,rfl⟩
 rw[hM] at HAN;have HM:=hid hM;clear hok acc0 hM c0 c1 c2 c3 c4 c5 c6 c7
 go_wp2_with fail
 go_loopw [2,3] (fun o i wr=>∃(k:Nat) (A':Option Addr) (d':Nat),k<=h.n3/\i= .int .i64 (k:Int)/\o= .slice A' k d'/\Sl wr w.heap.size wr.heap.size 9 1 A' k d' (strs (M.take k))/\Below w.heap.size w wr) (fun _ i _=>h.n3-(RowKit.intOf i).toNat)
 case atStart=>exact⟨0,_,_,Nat.zero_le _,rfl,rfl,HS0.out,HB0.out⟩
 case round=>
  obtain⟨k,A',d',hk,rfl,rfl,hsl,hbel⟩:=hrel;have HS:=hid hsl;have HBr:=hid hbel;have c3:=zaa hbel C3.out;clear hsl hbel;have hk0:(0:Int)<=k:=by omega
  by_cases hlt:k<h.n3
  ·obtain⟨r,rb,ro,RA,rm,rcc,hre,hA3,hrb,r0,r1,hrd⟩:=zcn (HRR.out.on lr HBr.out) hlt;obtain⟨q1,q2,q3⟩:=zbG HOK.out hre;have hwm:=zaJ q1;have hml:=zai hrd.1;have hkn:(k:Int)<h.n3:=by omega
   have hr0:=zaa (Below.refl wr.heap.size wr) r0;have HTK:=hid (show M.take (k+1)=M.take k++ [zab (zaI (r.st::r.way))] by rw[List.take_add_one,<-HM.out,List.getElem?_map,hre];rfl);rw[hA3] at c3;have HRB:=hid (show RA=RA from rfl);have HRD:=hid hrd.1;have HR0:=hid r0;have HC3:=hid c3
   have HBN:=hid (show∀t∈r.st::r.way,i64b t from fun t ht=>by
    rcases List.mem_cons.1 ht with rfl|ht
    ·exact⟨by omega,by omega⟩
    ·have h1:=hwm.2.2 t ht;have h2:=zd8 (zaV HOK.out);exact⟨by omega,by omega⟩)
   have hrm:rm<=12:=by omega
   have HRL:=hid (zn8 (l:=r.st::r.way) (n:=rm+1) (by rw[List.length_cons];omega));have HSZ:=hid (zlN HBN.out);have HD:=hid (fun w1=>zbj r.st w1 (by omega) (by omega));have HST0:=hid (zn9 (l:=r.st::r.way) (x:=r.st) rfl);obtain⟨rw_,hrw⟩:∃z,r.way=z:=⟨_,rfl⟩
   obtain⟨rs_,hrs⟩:∃z,r.st=z:=⟨_,rfl⟩
   rw[hrw] at HTK HRD HBN HRL HSZ HST0;rw[hrs] at r1 HTK HBN HRL HSZ HD HST0;clear hre q1 q2 q3 hwm hml hrd hr0 hrw hrs
   go_wp2_with fail
   refine(HD.out wr).mono ?_;rintro e w6 ⟨rfl,b6⟩;have HB6:=hid b6;have HBW6:=hid (zac HBr.out b6 lr);have HS6:=hid (HS.out.on b6).low;clear b6 r0 r1 c3;rw[<-HST0.out]
   go_wp2_with fail
   go_loopw [4,5] (fun o i wx=>∃j:Nat,j<=rm/\i= .int .i64 (j:Int)/\o= .string (rowT (rs_::rw_) (j+1))/\Below w6.heap.size w6 wx) (fun _ i _=>rm-(RowKit.intOf i).toNat)
   case atStart=>exact⟨0,Nat.zero_le _,rfl,rfl,Below.refl _ _⟩
   case round=>
    rename World=>wx
    obtain⟨j,hj,rfl,rfl,hbel⟩:=hrel;have HBx:=hid (zac HB6.out hbel lr);have HBy:=hid hbel;have c3:=zaa HBx.out HC3.out;have r0:=zaa HBx.out HR0.out;clear hbel;have hj0:(0:Int)<=j:=by omega
    by_cases hjt:j<rm
    ·have hjn:(j:Int)<rm:=by omega
     obtain⟨t,wb,wo,hte,rfl,_,t0⟩:=zax (HRD.out.on HBr.out.size HBx.out) hjt;have hx:=HBN.out t (List.mem_cons_of_mem _ (List.mem_of_getElem? hte));have HDT:=hid (fun w1=>zbj t w1 hx.1 hx.2);have hil:=zaz hx.1 hx.2;have hsz:=HSZ.out (j+1);have HST:=hid (zlO (l:=rs_::rw_) (k:=j+1) (x:=t) (by rw[List.getElem?_cons_succ];exact hte) (by omega));obtain⟨it,hit⟩:∃z,zab (itoa t)=z:=⟨_,rfl⟩
     have hits:it.size<=20:=by rw[<-hit,zaj];exact hil
     rw[hit] at HST HDT;obtain⟨rt,hrt⟩:∃z,rowT (rs_::rw_) (j+1)=z:=⟨_,rfl⟩
     rw[hrt] at HST hsz⊢;have ov1:¬(9223372036854775807<1+it.size):=by omega
     have ov2:¬(9223372036854775807<rt.size+(1+it.size)):=by omega
     clear hte hrt hit hil hx
     go_wp2_with fail
     refine(HDT.out wx).mono ?_;rintro e w2 ⟨rfl,b2⟩;have HB2:=hid (zac HBy.out b2 lr);clear b2 c3 r0 t0;go_wp2
     go_roundw
     case rel=>exact⟨j+1,by omega,by go_num,by rw[HST.out],HB2.out⟩
     case measure=>simp[RowKit.intOf];omega
    ·obtain rfl:j=rm:=by omega
     rw[HRL.out];obtain⟨ln,hln⟩:∃z,zab (zaI (rs_::rw_))=z:=⟨_,rfl⟩
     rw[hln] at HTK⊢;have HTK2:=hid (show strs (M.take k)++ [.string ln]=strs (M.take (k+1)) by rw[HTK.out];simp[strs]);have HSx:=hid (HS6.out.on HBy.out).low;have HBWx:=hid (zac HBW6.out HBy.out lr);have hzx:w.heap.size<=wx.heap.size:=HBWx.out.size;clear hln
     go_wp2_with (at_builtin;refine zat rfl _ _ 24 rfl 9 _ 1 16 underlying24 zbu rfl (by decide) (by decide) HSx.out hzx rfl [.string ln] wx.heap.size rfl rfl rfl (fun u hu=>by simp at hu;subst hu;rfl) (by omega) ?_;intro A2 d2 w9 hs9 b9 z9 f9 k9;have HS9:=hid hs9;have HB9:=hid (HBWx.out.trans b9);clear hs9 b9 z9 f9 k9)
     go_roundw
     case rel=>exact⟨k+1,A2,d2,by omega,by go_num,rfl,by rw[<-HTK2.out];exact HS9.out,HB9.out⟩
     case measure=>simp[RowKit.intOf];omega
  ·obtain rfl:k=h.n3:=by omega
   have HT:=hid (show M.take h.n3=M by rw[List.take_of_length_le (by rw[<-HM.out,List.length_map,HLN.out];exact Nat.le_refl _)]);have HSX:=hid (show zad wr wr.heap.size 1 A' h.n3 (strs M) by have h9:=HS.out.reads lr;rwa[HT.out] at h9);have HSD:=hid (XI.out.st.on HBr.out);have HMV:=hid (Mv.below (g:=g) (A:=A) HBr.out)
   go_wp2_with fail
   refine(ziK lo g _ A n c ls A' h.n3 d' wr.heap.size M wr HSD.out.says HSX.out (Nat.le_trans XI.out.low HBr.out.size) (by have:=XI.out.nl;omega) (by omega) (by have:=XI.out.nl;omega)).mono ?_;rintro e w7 ⟨rfl,A9,c9,hs⟩;have HSS:=hid ((HSD.out.out hs).after HMV.out);clear hs;go_wp2;go_end0;exact⟨rfl,out0 HSS.out HAN.out⟩
end
end Go.Proofs.YtjalgpioklcbfaaGreatDoor
