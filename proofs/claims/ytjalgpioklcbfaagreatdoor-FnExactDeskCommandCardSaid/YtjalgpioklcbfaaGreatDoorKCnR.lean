/- What a command leaves: a valid desk, one line or more, all of it small: plain. -/
import Derived.Test.YtjalgpioklcbfaaGreatDoorMgDesksAS
set_option linter.unusedVariables false
set_option linter.unusedSimpArgs false
set_option maxHeartbeats 4000000
namespace Go.Proofs.YtjalgpioklcbfaaGreatDoor
open Go.RowKit Go.Lib
theorem zs4{r r':LogR}{a:ByteArray}(hs:zbz r a=some r'):r'.at_=r.at_+a.size+1:=by
 unfold zbz at hs
 split at hs
 ·cases hs
 ·split at hs
  ·injection hs with hs;subst hs
   rfl
  ·cases hs
theorem zqX(t:List UInt8):∀(n:Nat) (L:List UInt8) (r:LogR),L.length<=n->(zbK (zah 10 (zab L)) r).at_=r.at_+L.length->zbK (zah 10 (zab (L++t))) r=zbK (zah 10 (zab t)) (zbK (zah 10 (zab L)) r):=by
 intro n
 induction n with
 |zero=>
  intro L r hn _;have:L=[]:=List.eq_nil_of_length_eq_zero (by omega);subst this;rw[zdV (s:=zab []) (by rw[zaf];simp),List.nil_append]
 |succ n ih=>
  intro L r hn hat;by_cases hm:(10:UInt8)∈L
  ·obtain⟨a,L',rfl,ha⟩:=List.eq_append_cons_of_mem hm;have h1:=zfi (s:=zab (a++10::L')) (a:=zab a) (t:=L') (r:=r) (by rw[zaf,zaf]) (by rw[zaf];exact ha);have h2:=zfi (s:=zab (a++10::L'++t)) (a:=zab a) (t:=L'++t) (r:=r) (by rw[zaf,zaf];simp) (by rw[zaf];exact ha);rw[List.length_append,List.length_cons] at hat hn;rcases hs:zbz r (zab a) with _|r'
   ·rw[hs] at h1;rw[h1] at hat;simp only at hat;omega
   ·rw[hs] at h1 h2;simp only at h1 h2;have h3:=zs4 hs;rw[zaj] at h3;rw[h1] at hat;rw[h2,h1,ih L' r' (by omega) (by omega)]
  ·have hL:zbK (zah 10 (zab L)) r=r:=zdV (by rw[zaf];exact hm);rw[hL] at hat⊢;have:L=[]:=List.eq_nil_of_length_eq_zero (by omega);subst this;rw[List.nil_append]
theorem zgI{s:ByteArray}(h:za9 s=0):s.size<=4000/\(logR s).at_=s.size:=by
 unfold za9 at h
 split at h
 ·cases h
 ·split at h
  ·rename_i h1 h2;exact⟨by omega,h2⟩
  ·cases h
theorem zgt{s:ByteArray}{x:En}(h:(zaQ s x).2=0):za9 (zaQ s x).1=0/\za9 s=0/\okEn x=true:=by
 by_cases hc:za9 s=0
 ·rw[ziZ hc] at h⊢;rcases ho:okEn x with _|_
  ·rw[zja ho] at h;cases h
  ·by_cases hd:dayR (logR s).list<=x.day
   ·by_cases hf:4000<(s++zbc (zbf (logR s).stamp (zau x)) x).size
    ·rw[zgc ho hd hf] at h;cases h
    ·rw[ziv ho hd hf];refine⟨zgH hf ?_,hc,rfl⟩;have hz:=zgI hc;have hb:=zdt (logR s).stamp (zau x);obtain⟨st,hst⟩:∃z,zbf (logR s).stamp (zau x)=z:=⟨_,rfl⟩
     rw[hst] at hb⊢
     have e1:s++zbc st x=zab (s.data.toList++(zbS st x++ [10])):=by
      apply zdn;rw[zaf,zcB,zpP]
     have hs0:zab s.data.toList=s:=zaM s;have h1:=zqX (zbS st x++ [10]) s.data.toList.length s.data.toList ⟨[],0,0⟩ lr (by rw[hs0,za8];show(logR s).at_=0+s.size;rw[hz.2,Nat.zero_add]);have h2:=zfi (s:=zab (zbS st x++ [10])) (a:=zab (zbS st x)) (t:=[]) (r:=logR s) (by rw[zaf,zaf]) (by rw[zaf];exact zqz ho);rw[zew (r:=logR s) (zq0 ho hb.1 hb.2) hd hst] at h2;simp only at h2;rw[zdV (s:=zab []) (by rw[zaf];simp)] at h2;show(zbK (zah 10 (s++zbc st x)) ⟨[],0,0⟩).at_=_;have h3:zbK (zah 10 (zab (zbS st x++ [10]))) (zbK (zah 10 (zab s.data.toList)) ⟨[],0,0⟩)=zbK (zah 10 (zab (zbS st x++ [10]))) (logR s):=by rw[hs0];rfl
     rw[e1,h1,h3,h2,zaj,zaj];simp only[List.length_append,List.length_singleton,hz.2,<-za8 s];omega
   ·rw[zjb ho hd] at h;cases h
 ·rw[zhw hc] at h;exact absurd h hc
theorem zm9(s:ByteArray)(x:En):0<=(zaQ s x).2/\(zaQ s x).2<=8:=by
 unfold zaQ addG;have h:=zmJ s
 split
 ·split
  ·split
   ·split<;>simp
   ·simp
  ·simp
 ·exact h
theorem zhB(P:Ans->Prop)(d:Dk)(ws:List ByteArray)(ns:List Int)(h1:P (netC d ws))(h2:P (zfa d ns))(h3:P (zcG d ns))(h4:P (runC d ns))(h5:P (zfn d))(h6:P (zeV d ns))(h7:P (zcN d ns))(h8:P (zcF d ns))(h9:P (queueC d ns))(h10:P (zcR d ws ns))(h11:P (logC d)):P (execF d ws ns):=by
 unfold execF
 repeat' (first|assumption|split)
theorem zpp(x:Nt)(a b:Int):0<=(wayC x a b).2/\(wayC x a b).2<=3:=by
 unfold wayC
 repeat' (first|(simp;done)|split)
theorem zmN(ts:List Int)(rs:List Rn)(way:List Int)(a:Int):0<=(earlF ts rs way a).2/\(earlF ts rs way a).2<=5:=by
 unfold earlF
 repeat' (first|(simp;done)|split)
theorem zgM{ts:List Int}{rs:List Rn}{way:List Int}{a:Int}(h:(earlF ts rs way a).2=0):zap ts rs=true/\zaN ts way=true/\0<=(earlF ts rs way a).1/\(earlF ts rs way a).1<=100000:=by
 rcases h1:zap ts rs with _|_
 ·rw[zkP h1] at h;cases h
 ·rcases h2:(zaN ts way&&inR a 0 100000) with _|_
  ·rw[zg7 h1 h2] at h;cases h
  ·rw[zkQ h1 h2] at h⊢;rw[Bool.and_eq_true] at h2;have ha:=zam.1 h2.2;have he:=(zeE h1 h2.1 a).1
   split at h
   ·cases h
   ·rename_i hc;rw[if_neg hc];exact⟨rfl,h2.1,by show 0<=earl ts rs way a;omega,by show earl ts rs way a<=100000;omega⟩
theorem zmU(ts:List Int)(rs:List Rn)(a b c:Int):0<=(zbA ts rs a b c).2/\(zbA ts rs a b c).2<=2:=by
 unfold zbA
 repeat' (first|(simp;done)|split)
theorem zph(ps:List Int)(sec:Int):0<=(seaC ps sec).2.2/\(seaC ps sec).2.2<=2:=by
 unfold seaC
 repeat' (first|(simp;done)|split)
theorem zlT(D:Int)(ts:List Tl):0<=(za5 D ts).2/\(za5 D ts).2<=9:=by
 unfold za5
 repeat' (first|(simp;done)|split)
theorem zpm(l:List It):0<=(srvC l).2/\(srvC l).2<=1:=by
 unfold srvC
 repeat' (first|(simp;done)|split)
theorem zs9(s t:ByteArray):0<=zbD s t/\zbD s t<=8:=by
 unfold zbD;have h:=zmJ s
 repeat' (first|assumption|(simp;done)|split)
theorem zrW(d:Dk)(ws:List ByteArray)(ns:List Int):0<=(execF d ws ns).code/\(execF d ws ns).code<=10:=by
 refine zhB (fun a=>0<=a.code/\a.code<=10) d ws ns ?_ ?_ ?_ ?_ ?_ ?_ ?_ ?_ ?_ ?_ ?_
 ·unfold netC
  split
  ·exact⟨by simp,by simp⟩
  ·exact⟨by simp,by simp⟩
 ·have h:=zpp d.net (zal ns 0) (zal ns 1);exact⟨h.1,by show(wayC d.net (zal ns 0) (zal ns 1)).2<=10;omega⟩
 ·unfold zcG
  split
  ·exact⟨by simp,by simp⟩
  ·exact⟨by simp,by simp⟩
 ·unfold runC;have h:=zmN d.times d.runs (ns.drop 1) (zal ns 0)
  split
  ·exact⟨h.1,by show(earlF d.times d.runs (ns.drop 1) (zal ns 0)).2<=10;omega⟩
  ·split
   ·exact⟨by simp,by simp⟩
   ·exact⟨by simp,by simp⟩
 ·exact⟨by show(0:Int)<=0;decide,by show(0:Int)<=10;decide⟩
 ·have h:=zmU d.times d.runs (zal ns 0) (zal ns 1) (zal ns 2);exact⟨h.1,by show(zbA d.times d.runs (zal ns 0) (zal ns 1) (zal ns 2)).2<=10;omega⟩
 ·have h:=zph (ns.drop 1) (zal ns 0);exact⟨h.1,by show(seaC (ns.drop 1) (zal ns 0)).2.2<=10;omega⟩
 ·unfold zcF;have h:=zlT (zal ns 0) (zaW (ns.drop 1))
  split
  ·exact⟨by simp,by simp⟩
  ·exact⟨h.1,by show(za5 (zal ns 0) (zaW (ns.drop 1))).2<=10;omega⟩
 ·unfold queueC;have h:=zpm (zb1 ns)
  split
  ·exact⟨by simp,by simp⟩
  ·exact⟨h.1,by show(srvC (zb1 ns)).2<=10;omega⟩
 ·unfold zcR;simp only;have h:=zm9 d.log ⟨zal ns 0,zag ws 2,zal ns 1⟩;have h2:=zs9 (zaQ d.log ⟨zal ns 0,zag ws 2,zal ns 1⟩).1 (zag ws 2)
  split
  ·exact⟨h.1,by show(zaQ d.log ⟨zal ns 0,zag ws 2,zal ns 1⟩).2<=10;omega⟩
  ·exact⟨h2.1,by show zbD (zaQ d.log ⟨zal ns 0,zag ws 2,zal ns 1⟩).1 (zag ws 2)<=10;omega⟩
 ·exact⟨by show(0:Int)<=0;decide,by show(0:Int)<=10;decide⟩
theorem zdW{n:Nt}{ts:List Int}{rs:List Rn}{lg:ByteArray}(h1:okNt n=true)(h2:zap ts rs=true)(h3:za9 lg=0):okDk ⟨n,ts,rs,lg⟩=true:=by
 unfold okDk;simp[h1,h2,h3]
theorem zrf(xs:List ByteArray):okL xs≠[]:=by unfold okL;simp
theorem zrX{d:Dk}(h:okDk d=true)(ws:List ByteArray)(ns:List Int):(execF d ws ns).code=0->okDk (execF d ws ns).dk=true/\(execF d ws ns).lines≠[]:=by
 obtain⟨h1,h2,h3⟩:=zaT h;refine zhB (fun a=>a.code=0->okDk a.dk=true/\a.lines≠[]) d ws ns ?_ ?_ ?_ ?_ ?_ ?_ ?_ ?_ ?_ ?_ ?_
 ·unfold netC
  split
  ·intro hc;cases hc
  ·rename_i hs;intro _;refine⟨zdW ?_ h2 h3,by simp⟩
   cases hn:netF (zaF 32 ((ws.drop 1).map fun s=>s.data.toList)) with
   |none=>rw[hn] at hs;exact absurd rfl hs
   |some n=>rw[zdr (s:=zab _) (x:=n) (by rw[zaf];exact hn)];exact(zgn hn).1
 ·intro _;exact⟨h,by simp[zfa]⟩
 ·unfold zcG
  split
  ·intro hc;cases hc
  ·rename_i ht;intro _;have ht2:zaK ns=true:=by simpa using ht
   exact⟨zdW h1 (by unfold zap;simp[ht2]) h3,by simp⟩
 ·unfold runC
  split
  ·rename_i hc;intro hc2;exact absurd hc2 hc
  ·rename_i hc
   split
   ·intro hc2;cases hc2
   ·rename_i h12;intro _;obtain⟨e1,e2,e3,e4⟩:=zgM (ts:=d.times) (rs:=d.runs) (way:=ns.drop 1) (a:=zal ns 0) (by simpa using hc);have hl:=zbB h2;refine⟨zdW h1 ?_ h3,by simp⟩;unfold zap at h2⊢;simp only[Bool.and_eq_true,decide_eq_true_eq,List.all_eq_true] at h2⊢;refine⟨h2.1,by rw[List.length_append,List.length_singleton];omega,fun r hr=>?_⟩;rw[List.mem_append,List.mem_singleton] at hr;rcases hr with hr|rfl
    ·exact h2.2.2 r hr
    ·unfold zby;rw[Bool.and_eq_true];exact⟨e2,zam.2 ⟨e3,e4⟩⟩
 ·intro _;exact⟨h,zrf _⟩
 ·intro _;exact⟨h,by simp[zeV]⟩
 ·intro _;exact⟨h,by simp[zcN]⟩
 ·unfold zcF
  split
  ·intro hc;cases hc
  ·intro _;exact⟨h,by simp⟩
 ·unfold queueC
  split
  ·intro hc;cases hc
  ·intro _;exact⟨h,by simp⟩
 ·unfold zcR;simp only
  split
  ·rename_i hc;intro hc2;exact absurd hc2 hc
  ·rename_i hc;intro _;exact⟨zdW h1 h2 (zgt (by simpa using hc)).1,by simp⟩
 ·intro _;exact⟨h,zrf _⟩
def Sml(xs:List ByteArray):Prop:=xs.length<=4002/\∀x∈xs,x.size<=33554432
theorem Sml.nil:Sml []:=⟨by simp,fun x hx=>(by cases hx)⟩
theorem Sml.one{x:ByteArray}(h:x.size<=33554432):Sml [x]:=⟨by simp,fun y hy=>by rw[List.mem_singleton] at hy;subst hy;exact h⟩
theorem Sml.okL{xs:List ByteArray}(h:xs.length<=4000)(hx:∀x∈xs,x.size<=33554432):Sml (okL xs):=by
 refine⟨by unfold Go.Proofs.YtjalgpioklcbfaaGreatDoor.okL;rw[List.length_append,List.length_singleton];omega,fun y hy=>?_⟩;unfold Go.Proofs.YtjalgpioklcbfaaGreatDoor.okL at hy;rw[List.mem_append,List.mem_singleton] at hy;rcases hy with hy|rfl
 ·exact hx y hy
 ·have:=zaz (n:=(xs.length:Int)) (by omega) (by omega);rw[ByteArray.size_append,zaj];show 3+_<=_;omega
theorem ze8{l:List Int}(hl:l.length<=1048577)(hs:∀x∈l,i64b x):(zab (zaI l)).size<=33554432:=by
 rw[zaj];unfold zaI
 split
 ·simp
 ·have:=zjq hs;omega
theorem zhH{n:Int}(h:i64b n):(zab (itoa n)).size<=33554432:=by
 have:=zaz h.1 h.2;rw[zaj];omega
theorem ziT{d:Dk}(h2:d.times.length<=1048576)(h3:d.runs.length<=1048576):(zcc d).size<=33554432:=by
 rcases ho:okDk d with _|_
 ·rw[zma ho];exact Nat.zero_le _
 ·rw[zf7 ho];have hs:=zha ho;have g1:=zaz (n:=d.net.sta) (by omega) (by omega);have g2:=zaz (n:=(d.times.length:Int)) (by omega) (by omega);have g3:=zaz (n:=(d.runs.length:Int)) (by omega) (by omega);unfold zhh;simp only[ByteArray.size_append,zaj];show _+11+_+8+_+5<=_;omega
theorem zlv:∀l:List Tl,(zbJ l).length=2*l.length
 | []=>rfl
 |(a,b)::r=>by rw[zbJ,List.length_cons,List.length_cons,zlv r,List.length_cons];omega
theorem zqh(D:Int)(ts:List Tl):(zbJ (za5 D ts).1).length<=32:=by
 have:=zg2 D ts;rw[zlv];omega
theorem zjF(x:En):entW x=zau x:=rfl
theorem zok{d:Dk}(h:okDk d=true)(ws:List ByteArray)(ns:List Int)(hn:ns.length<=1048576):Sml (execF d ws ns).lines:=by
 obtain⟨h1,h2,h3⟩:=zaT h;have hr12:=zbB h2;have ht24:=zd8 (zaV h2);refine zhB (fun a=>Sml a.lines) d ws ns ?_ ?_ ?_ ?_ ?_ ?_ ?_ ?_ ?_ ?_ ?_
 ·unfold netC
  split
  ·exact .nil
  ·exact .one (ziT (by show d.times.length<=_;omega) (by show d.runs.length<=_;omega))
 ·have:=zj7 d.net (zal ns 0) (zal ns 1);exact .one (ze8 (by omega) (zlm _ _ _))
 ·unfold zcG
  split
  ·exact .nil
  ·exact .one (ziT (by show ns.length<=_;omega) (by show([]:List Rn).length<=_;simp))
 ·unfold runC
  split
  ·exact .nil
  ·rename_i hc
   split
   ·exact .nil
   ·obtain⟨e1,e2,e3,e4⟩:=zgM (ts:=d.times) (rs:=d.runs) (way:=ns.drop 1) (a:=zal ns 0) (by simpa using hc);exact .one (zhH ⟨by omega,by omega⟩)
 ·refine .okL (by rw[List.length_map];omega) fun x hx=>?_;obtain⟨r,hr,rfl⟩:=List.mem_map.1 hx;obtain⟨k,hk,he⟩:=List.getElem_of_mem hr;have hq:=zbG h2 (k:=k) (r:=r) (by rw[List.getElem?_eq_getElem hk,he]);have hw:=zaJ hq.1;refine ze8 (by rw[List.length_cons];omega) fun v hv=>?_;rcases List.mem_cons.1 hv with rfl|hv
  ·exact zcM (by omega) (by omega)
  ·have:=hw.2.2 v hv;exact zcM (by omega) (by omega)
 ·refine .one ?_
  split<;>decide
 ·have g1:=zjt (ns.drop 1) (zal ns 0);have g2:=zi7 (ns.drop 1) (zal ns 0);refine⟨by simp[zcN],fun x hx=>?_⟩;simp only[zcN,List.mem_cons,List.not_mem_nil,or_false] at hx;rcases hx with rfl|rfl
  ·exact ze8 (by omega) g2.1
  ·exact zhH g2.2
 ·unfold zcF
  split
  ·exact .nil
  ·have:=zqh (zal ns 0) (zaW (ns.drop 1));exact .one (ze8 (by omega) (zio _ _))
 ·unfold queueC
  split
  ·exact .nil
  ·have:=zjy (zb1 ns);exact .one (ze8 (by omega) (zle _))
 ·unfold zcR;simp only
  split
  ·exact .nil
  ·have hvb:=zj4 (zaQ d.log ⟨zal ns 0,zag ws 2,zal ns 1⟩).1 (zag ws 2);have hsb:=zgr hvb.1 (zbr (zaQ d.log ⟨zal ns 0,zag ws 2,zal ns 1⟩).1 (zag ws 2)).length;exact .one (zhH ⟨by omega,by omega⟩)
 ·have hl:=zek h3;refine .okL (by rw[List.length_map];exact hl) fun x hx=>?_;obtain⟨e,he,rfl⟩:=List.mem_map.1 hx;have:=zdN ((zeM d.log).ok e he);rw[zjF];omega
theorem zfS(sh:ByteArray):∀(ws:List ByteArray) (i:Nat) (acc ns:List Int),zaD sh ws i acc=some ns->(∀x∈acc,i64b x)->(∀x∈ns,i64b x)/\ns.length<=acc.length+ws.length
 | [],i,acc,ns,h,ha=>by
  rw[zaD] at h;injection h with h;subst h;exact⟨ha,by simp⟩
 |w::r,i,acc,ns,h,ha=>by
  rw[zaD] at h
  split at h
  ·split at h
   ·have hb:=zbE w.data.toList
    obtain⟨g1,g2⟩:=zfS sh r (i+1) _ ns h (fun x hx=>by
     rw[List.mem_append,List.mem_singleton] at hx;rcases hx with hx|rfl
     ·exact ha x hx
     ·exact⟨by omega,by omega⟩)
    refine⟨g1,?_⟩;rw[List.length_append,List.length_singleton] at g2;rw[List.length_cons];omega
   ·cases h
  ·obtain⟨g1,g2⟩:=zfS sh r (i+1) _ ns h ha;exact⟨g1,by rw[List.length_cons];omega⟩
theorem zgG(c:Nat):(cnm.getD c ⟨#[]⟩).size<=9:=by
 rw[List.getD_eq_getElem?_getD]
 cases e:cnm[c]? with
 |none=>exact Nat.zero_le _
 |some x=>
  have hx:=List.mem_of_getElem? e;have:∀y∈cnm,y.size<=9:=by decide
  exact this x hx
theorem zhA(c:Nat):(errL c).size<=33554432:=by
 have:=zgG c;unfold errL;rw[ByteArray.size_append];show 6+_<=_;omega
theorem ziy{d:Dk}(h:okDk d=true)(line:ByteArray)(hl:line.size<=1048576):((cmdF d line).code=0\/(cmdF d line).code=7)/\((cmdF d line).code=0->okDk (cmdF d line).dk=true/\(cmdF d line).lines≠[])/\Sml (cmdF d line).lines:=by
 unfold cmdF;simp only;rw[if_neg (by rw[h];decide)]
 split
 ·exact⟨.inr rfl,fun hc=>(by cases hc),.nil⟩
 ·split
  ·exact⟨.inr rfl,fun hc=>(by cases hc),.nil⟩
  ·split
   ·exact⟨.inl rfl,fun _=>⟨h,by simp⟩,.one (zhA _)⟩
   ·rename_i ns hns
    split
    ·exact⟨.inl rfl,fun _=>⟨h,by simp⟩,.one (zhA _)⟩
    ·rename_i hc;have hc0:(execF d (zah 32 line) ns).code=0:=by simpa using hc
     refine⟨.inl hc0,zrX h _ _,zok h _ _ ?_⟩;have hb:=(zfS _ _ _ _ _ hns (fun x hx=>by cases hx)).2;have hs:=zc2 32 line;have hcnt:line.data.toList.count 32<=line.size:=by rw[<-za8 line];exact List.count_le_length
     rw[List.length_drop,List.length_nil] at hb;omega
end Go.Proofs.YtjalgpioklcbfaaGreatDoor
