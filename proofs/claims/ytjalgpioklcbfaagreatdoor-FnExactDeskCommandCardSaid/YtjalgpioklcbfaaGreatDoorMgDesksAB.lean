/- Steps of the proof. -/
import Derived.Test.YtjalgpioklcbfaaGreatDoorMgDesksAA
import Derived.Deep.RegionHeld3
import Derived.Laws.CopyRow
import Derived.Laws.CopyOwn
import Derived.Lib.AppendZerosOnto
import Derived.Lib.Overlaps
import Derived.Lib.JoinLaws
import Derived.Laws.StructEq
set_option linter.unusedVariables false
set_option maxHeartbeats 4000000
namespace Go.Proofs.YtjalgpioklcbfaaGreatDoor
section
open Go.RowKit Go.Proofs.Tryz
def zbL(c:UInt8):Bool:=inR c.toNat 97 122||inR c.toNat 48 57||decide ((c.toNat:Int)=45)
def zp9:List UInt8->Bool
 | []=>false
 |c::_=>inR c.toNat 97 122
def zaZ(s:ByteArray):Bool:=decide (s.size<=12)&&zp9 s.data.toList&&s.data.toList.all zbL
theorem zcK(s:ByteArray)(k:Nat)(h:k<s.size):s.data.toList[k]?=some s[k]:=by
 rw[List.getElem?_eq_getElem (by simpa using h)];rfl
theorem za8(s:ByteArray):s.data.toList.length=s.size:=by rw[Array.length_toList];rfl
theorem zmX(s:ByteArray)(h:0<s.size):zp9 s.data.toList=inR (s[0].toNat:Int) 97 122:=by
 have:=zcK s 0 h
 cases hl:s.data.toList with
 |nil=>rw[hl] at this;simp at this
 |cons c r=>rw[hl] at this;simp at this;rw[<-this];rfl
theorem zhX{s:ByteArray}(h:12<s.size):zaZ s=false:=by simp[zaZ];omega
theorem zht{s:ByteArray}(h:s.size=0):zaZ s=false:=by
 have:s.data.toList=[]:=List.eq_nil_of_length_eq_zero (by rw[za8];exact h);simp[zaZ,this,zp9]
theorem zfR{s:ByteArray}(h0:0<s.size)(h:inR (s[0].toNat:Int) 97 122=false):zaZ s=false:=by simp[zaZ,zmX s h0,h]
theorem zkk{s:ByteArray}{k:Nat}(h0:k<s.size)(h:zbL s[k]=false):zaZ s=false:=by simp[zaZ,zcd (zcK s k h0) h]
theorem zl0{s:ByteArray}{k:Nat}(h1:s.size<=12)(h0:0<s.size)(h2:inR (s[0].toNat:Int) 97 122=true)(hk:s.size=k)(h:za0 zbL s.data.toList k):zaZ s=true:=by
 simp only[zaZ,zmX s h0,h2,h.done (by rw[za8];exact hk),Bool.and_true,decide_eq_true_eq];exact h1
theorem zc8(s:ByteArray)(w:World)(hs:s.size<=9223372036854775807):Calls prog 160 #[.string s] w fun e w'=>e= .returned (.bool (zaZ s))/\w=w':=by
 by_cases h0:s.size=0
 ·have HN:=hid (zht h0);have h1:(s.size:Int)<1:=by omega
  clear h0;go_enter func160,ntmps160;go_wp2;go_ret;exact⟨zae HN.out.symm,rfl⟩
 ·have hp:0<s.size:=by omega
  clear h0;by_cases h12:12<s.size
  ·have HN:=hid (zhX h12);go_enter func160,ntmps160;go_wp2;go_ret;exact⟨zae HN.out.symm,rfl⟩
  ·have i1:(1:Int)<=(s.size:Int):=by omega
   have i2:(s.size:Int)<=12:=by omega
   by_cases h97:(97:Int)<=(s[0].toNat:Int)
   ·by_cases h122:(s[0].toNat:Int)<=122
    ·have HH:=hid (show inR (s[0].toNat:Int) 97 122=true from zam.2 ⟨h97,h122⟩);have HN0:=hid (show zbL s[0]=true by simp[zbL,HH.out]);go_enter func160,ntmps160;go_wp2
     go_loop [3] (fun i=>∃k:Nat,1<=k/\k<=s.size/\i= .int .i64 k/\za0 zbL s.data.toList k) (fun i=>s.size-(RowKit.intOf i).toNat)
     case atStart=>exact⟨1,by omega,by omega,rfl,(za0.zero _ _).step (zcK s 0 hp) HN0.out⟩
     case round=>
      obtain⟨k,hk1,hk,rfl,hall⟩:=hrel;have HA:=hid hall;clear hall h97 h122;by_cases hlt:k<s.size
      ·have HE:=hid (zcK s k hlt);by_cases a1:(97:Int)<=(s[k].toNat:Int)/\(s[k].toNat:Int)<=122
       ·obtain⟨a1,a2⟩:=a1;have HC:=hid (show zbL s[k]=true by simp[zbL,zam.2 ⟨a1,a2⟩]);go_wp2
        go_round
        case rel=>exact⟨k+1,by omega,by omega,by go_num,HA.out.step HE.out HC.out⟩
        case measure=>simp[RowKit.intOf];omega
       ·by_cases b1:(48:Int)<=(s[k].toNat:Int)/\(s[k].toNat:Int)<=57
        ·obtain⟨b1,b2⟩:=b1;have a2:(s[k].toNat:Int)<97:=by omega
         have HC:=hid (show zbL s[k]=true by simp[zbL,zam.2 ⟨b1,b2⟩]);clear a1;go_wp2
         go_round
         case rel=>exact⟨k+1,by omega,by omega,by go_num,HA.out.step HE.out HC.out⟩
         case measure=>simp[RowKit.intOf];omega
        ·by_cases c1:(s[k].toNat:Int)=45
         ·have HC:=hid (show zbL s[k]=true by simp[zbL,c1]);have c2:((s[k].toNat:Int) !=45)=false:=by simp[c1]
          have c3:(s[k].toNat:Int)<48:=by omega
          have c4:(s[k].toNat:Int)<97:=by omega
          clear a1 b1 c1;go_wp2
          go_round
          case rel=>exact⟨k+1,by omega,by omega,by go_num,HA.out.step HE.out HC.out⟩
          case measure=>simp[RowKit.intOf];omega
         ·have HC:=hid (zkk hlt (show zbL s[k]=false by
           have e1:inR (s[k].toNat:Int) 97 122=false:=zgi.2 (by omega);have e2:inR (s[k].toNat:Int) 48 57=false:=zgi.2 (by omega);simp[zbL,e1,e2,c1]))
          have c2:((s[k].toNat:Int) !=45)=true:=by rw[bne_iff_ne];exact c1
          have a3:(s[k].toNat:Int)<97\/122<(s[k].toNat:Int):=by omega
          have b3:(s[k].toNat:Int)<48\/57<(s[k].toNat:Int):=by omega
          clear a1 b1 c1;rcases a3 with a3|a3<;>rcases b3 with b3|b3
          all_goals first
           |omega
           | (go_wp2
              go_ret;exact⟨zae HC.out.symm,rfl⟩)
      ·obtain rfl:s.size=k:=by omega
       have HN:=hid (zl0 (by omega) hp HH.out rfl HA.out);go_wp2;go_ret;exact⟨zae HN.out.symm,rfl⟩
    ·have HN:=hid (zfR hp (zgi.2 (.inr (by omega))));go_enter func160,ntmps160;go_wp2;go_ret;exact⟨zae HN.out.symm,rfl⟩
   ·have HN:=hid (zfR hp (zgi.2 (.inl (by omega))));go_enter func160,ntmps160;go_wp2;go_ret;exact⟨zae HN.out.symm,rfl⟩
theorem zdk(c:Int)(w:World):Calls prog 308 #[.int .u8 c] w fun e w'=>e= .returned (.bool (inR c 97 122))/\w=w':=by
 by_cases h1:(97:Int)<=c<;>by_cases h2:c<=122
 all_goals
  go_enter func308,ntmps308;go_wp2;go_ret;exact⟨zae (by simp[inR,h1,h2]),rfl⟩
theorem zcl(c:Int)(w:World):Calls prog 229 #[.int .u8 c] w fun e w'=>e= .returned (.bool (inR c 48 57))/\w=w':=by
 by_cases h1:(48:Int)<=c<;>by_cases h2:c<=57
 all_goals
  go_enter func229,ntmps229;go_wp2;go_ret;exact⟨zae (by simp[inR,h1,h2]),rfl⟩
theorem zr9{s:ByteArray}(h:0<s.size):¬s.toList=[]:=by
 intro e;have:s.toList.length=s.size:=by rw[ByteArray.toList_eq];exact za8 s
 rw[e] at this;simp at this;omega
theorem zcA(s:ByteArray)(w:World)(hs:s.size<=9223372036854775807):Calls prog 278 #[.string s] w fun e w'=>e= .returned (.bool (zaZ s))/\w=w':=by
 by_cases h0:s.size=0
 ·have HN:=hid (zht h0)
  obtain rfl:s=⟨#[]⟩:=by
   apply ByteArray.ext;have:s.data.toList=[]:=List.eq_nil_of_length_eq_zero (by rw[za8];exact h0);exact Array.toList_inj.1 (by simpa using this)
  clear h0 hs;go_enter func278,ntmps278;go_wp2;go_ret;exact⟨zae HN.out.symm,rfl⟩
 ·have hp:0<s.size:=by omega
  have ne1:=zr9 hp;have ne2:s.toList.isEmpty=false:=by simp[ne1]
  clear h0;by_cases h12:12<s.size
  ·have HN:=hid (zhX h12);have i2:(12:Int)<(s.size:Int):=by omega
   go_enter func278,ntmps278;go_wp2;go_ret;exact⟨zae HN.out.symm,rfl⟩
  ·have i2:(s.size:Int)<=12:=by omega
   by_cases hh:inR (s[0].toNat:Int) 97 122=true
   ·have HH:=hid hh;go_enter func278,ntmps278
    go_wp2_with (go_at_call 308;refine(zdk _ _).mono ?_;rintro e w' ⟨rfl,rfl⟩)
    go_loop [3] (fun i=>∃k:Nat,k<=s.size/\i= .int .i64 k/\za0 zbL s.data.toList k) (fun i=>s.size-(RowKit.intOf i).toNat)
    case atStart=>exact⟨0,by omega,rfl,za0.zero _ _⟩
    case round=>
     obtain⟨k,hk,rfl,hall⟩:=hrel;have HA:=hid hall;clear hall hh;by_cases hlt:k<s.size
     ·have HE:=hid (zcK s k hlt);by_cases a1:inR (s[k].toNat:Int) 97 122=true
      ·have HC:=hid (show zbL s[k]=true by simp[zbL,a1])
       go_wp2_with (first|(go_at_call 308;refine(zdk _ _).mono ?_;rintro e w' ⟨rfl,rfl⟩)|(go_at_call 229;refine(zcl _ _).mono ?_;rintro e w' ⟨rfl,rfl⟩))
       go_round
       case rel=>exact⟨k+1,by omega,by go_num,HA.out.step HE.out HC.out⟩
       case measure=>simp[RowKit.intOf];omega
      ·have a1:inR (s[k].toNat:Int) 97 122=false:=by simpa using a1
       by_cases b1:inR (s[k].toNat:Int) 48 57=true
       ·have HC:=hid (show zbL s[k]=true by simp[zbL,b1])
        go_wp2_with (first|(go_at_call 308;refine(zdk _ _).mono ?_;rintro e w' ⟨rfl,rfl⟩)|(go_at_call 229;refine(zcl _ _).mono ?_;rintro e w' ⟨rfl,rfl⟩))
        go_round
        case rel=>exact⟨k+1,by omega,by go_num,HA.out.step HE.out HC.out⟩
        case measure=>simp[RowKit.intOf];omega
       ·have b1:inR (s[k].toNat:Int) 48 57=false:=by simpa using b1
        by_cases c1:(s[k].toNat:Int)=45
        ·have HC:=hid (show zbL s[k]=true by simp[zbL,c1]);have c2:((s[k].toNat:Int) !=45)=false:=by simp[c1]
         clear c1
         go_wp2_with (first|(go_at_call 308;refine(zdk _ _).mono ?_;rintro e w' ⟨rfl,rfl⟩)|(go_at_call 229;refine(zcl _ _).mono ?_;rintro e w' ⟨rfl,rfl⟩))
         go_round
         case rel=>exact⟨k+1,by omega,by go_num,HA.out.step HE.out HC.out⟩
         case measure=>simp[RowKit.intOf];omega
        ·have HC:=hid (zkk hlt (show zbL s[k]=false by simp[zbL,a1,b1,c1]));have c2:((s[k].toNat:Int) !=45)=true:=by rw[bne_iff_ne];exact c1
         clear c1
         go_wp2_with (first|(go_at_call 308;refine(zdk _ _).mono ?_;rintro e w' ⟨rfl,rfl⟩)|(go_at_call 229;refine(zcl _ _).mono ?_;rintro e w' ⟨rfl,rfl⟩))
         go_ret;exact⟨zae HC.out.symm,rfl⟩
     ·obtain rfl:s.size=k:=by omega
      have HN:=hid (zl0 (by omega) hp HH.out rfl HA.out);go_wp2;go_ret;exact⟨zae HN.out.symm,rfl⟩
   ·have hh:inR (s[0].toNat:Int) 97 122=false:=by simpa using hh
    have HN:=hid (zfR hp hh);go_enter func278,ntmps278
    go_wp2_with (go_at_call 308;refine(zdk _ _).mono ?_;rintro e w' ⟨rfl,rfl⟩)
    go_ret;exact⟨zae HN.out.symm,rfl⟩
end
section
open Go.RowKit
theorem zdE(b off j:Nat):((⟨b,off,none⟩:Addr).add j)=⟨b,off+j,none⟩:=by unfold Addr.add;split<;>simp_all
theorem zbI {P:Program} {ops:Array Oper} {rest:List Oper} {o:Oper} {a:Act} {Q:Exit -> Act -> World -> Prop} (hgd:o.guard = none) (s x:Operand) (t:TypeId)
  (ho:o.op= .call {callee:=.builtin .append,args:=#[s,x],argTypes:=#[t,t]})
  (e:TypeId) (zv:Value) (size bytes:Nat) (ht:P.underlying t=some (.slice e)) (hinfo:(P.info? e).map (fun i=>(i.zero,i.size,i.bytes))=some (some zv,size,bytes)) (hzs:zv.cells.size=size) (hsz:0<size) (hb:bytes<=1000)
  {b0 z:Nat}{w wr:World}{A:Option Addr}{m c:Nat}{xs:List Value} (h:Acc b0 z e size w wr A m c xs) (hzw:z<=w.heap.size) (hs:a.eval s= .slice A m c)
  (b off k d:Nat) (news:List Value) (hx:a.eval x= .slice (some ⟨b,off,none⟩) k d) (hl:news.length=k*size) (hc:∀j u,news[j]?=some u->wr.cell? ⟨b,off+j,none⟩=some u) (h1:∀u∈news,u.oneCell'=true) (hm:m+k<100000000)
  (K:∀A' c' w1,Acc b0 z e size w w1 A' (m+k) c' (xs++news)->wpList P ops Q rest (a.put o.dst (.slice A' (m+k) c')) w1):wpList P ops Q (o::rest) a wr:=by
 obtain⟨i,hi,hz,hsize,hby⟩:=info_parts hinfo;refine wpList_append_own_at _ hgd s x t ho 0 e i zv size bytes ht hi hz hsize hby hzs hsz _ _ _ hs h.own ⟨b,off,none⟩ k d news hx hl (fun j u hu=>by rw[zdE];exact hc j u hu) h1 (by unfold maxLen;omega) ?_ (Nat.zero_le _) ?_
 ·calc (m+k)*bytes<=100000000*1000:=Nat.mul_le_mul (by omega) hb
   _<=140737488355328:=by decide
 ·intro v' w' hown hgrow _ hat;have hzr:z<=wr.heap.size:=Nat.le_trans hzw h.size
  have hrest:∀q,q<z->q≠b0->w'.heap[q]?=w.heap[q]?:=fun q hq hne=>by
   rw[hgrow.block q (by omega) (fun ee=>?_)]
   ·exact h.block q hq hne
   ·cases A with
    |none=>simp[Value.ownBlock] at ee
    |some ad=>
     simp[Value.ownBlock] at ee;rcases h.at_ ad rfl with e1|e1<;>omega
  have hsz':w.heap.size<=w'.heap.size:=Nat.le_trans h.size hgrow.size;rcases hown.2 with ⟨hv,hn⟩|⟨g,cap,cur,hv,hb',hgg,hrest'⟩
  ·subst hv;rw[show(Value.slice none 0 0)= .slice none (m+k) 0 from by rw[hn]];exact K _ _ _ ⟨by rw[hn] at hown⊢;exact hown,(fun ad had=>by cases had),by have:=hgrow.os;rw[this];exact h.os,by have:=hgrow.tape;rw[this];exact h.tape,by have:=hgrow.output;rw[this];exact h.output,hsz',hrest⟩
  ·have hat':g=b0\/z<=g:=by
    subst hv;rcases hat with e1|e1
    ·cases A with
     |none=>simp[Value.ownBlock] at e1
     |some ad=>
      simp[Value.ownBlock] at e1;rcases h.at_ ad rfl with e2|e2<;>omega
    ·simp[Value.ownBlock] at e1;omega
   subst hv;exact K _ _ _ ⟨hown,fun ad had=>by injection had with had;subst had;exact hat',by have:=hgrow.os;rw[this];exact h.os,by have:=hgrow.tape;rw[this];exact h.tape,by have:=hgrow.output;rw[this];exact h.output,hsz',hrest⟩
theorem zps {P:Program} {o:Oper} {a:Act} {Q:Exit -> Act -> World -> Prop} {K:Act -> World -> Prop} (s x:Operand) (t:TypeId)
  (ho:o.op= .call {callee:=.builtin .append,args:=#[s,x],argTypes:=#[t,t]})
  (e:TypeId) (zv:Value) (size bytes:Nat) (ht:P.underlying t=some (.slice e)) (hinfo:(P.info? e).map (fun i=>(i.zero,i.size,i.bytes))=some (some zv,size,bytes)) (hzs:zv.cells.size=size) (hsz:0<size) (hb:bytes<=1000)
  {lo hi:Nat}{wr:World}{A:Option Addr}{m c:Nat}{xs:List Value} (h:Sl wr lo hi e size A m c xs) (hlo:lo<=wr.heap.size) (hs:a.eval s= .slice A m c)
  (news:List Value) (hd:Nat) (hhd:hd=wr.heap.size) (hx:a.eval x= .slice (some ⟨hd,0,none⟩) 1 1) (hl:news.length=size) (h1:∀u∈news,u.oneCell'=true) (hm:m<100000000)
  (HK:∀A' c' w1,Sl w1 lo w1.heap.size e size A' (m+1) c' (xs++news)->Below lo wr w1->wr.heap.size+1<=w1.heap.size->(∀g,g<wr.heap.size->(∀ad,A=some ad->ad.block≠g)->w1.heap[g]?=wr.heap[g]?)->(∀g,g<wr.heap.size->(∀ad,A=some ad->ad.block≠g)->∀ad,A'=some ad->ad.block≠g)->K (a.put o.dst (.slice A' (m+1) c')) w1):o.wp P a (wr.alloc (.cells news.toArray e)) K Q:=by
 subst hhd;obtain⟨i,hi',hz,hsize,hby⟩:=info_parts hinfo
 have hAb:∀ad,A=some ad->lo<=ad.block:=fun ad had=>by
  rcases h.form with ⟨h0,_⟩|⟨g,cur,hg,h2,_⟩
  ·rw[h0] at had;cases had
  ·rw[hg] at had;injection had with had;subst had;exact h2
 have hown:(wr.alloc (.cells news.toArray e)).ownsRow lo e size (.slice A m c) m xs:=h.1.alloc _
 obtain⟨v',w',hr,h2,h3,h4,h5⟩:=run_append_own_at (P:=P) (wr.alloc (.cells news.toArray e)) lo t o.type e i zv size bytes ht hi' hz hsize hby hzs hsz _ m xs hown ⟨wr.heap.size,0,none⟩ 1 1 news (by omega) (zi6 wr news e) h1 (by unfold maxLen;omega) (by
  calc (m+1)*bytes<=100000000*1000:=Nat.mul_le_mul (by omega) hb
   _<=140737488355328:=by decide) (by simp;omega)
 unfold Oper.wp execOp;simp only[ho,resolve,invoke,builtin,Sem.run_bind,Sem.run_pure,Result.andThen_ok,List.map_toArray,List.map_cons,List.map_nil,hs,hx,hr]
 have hfr:∀g,g<wr.heap.size->(∀ad,A=some ad->ad.block≠g)->w'.heap[g]?=wr.heap[g]?:=fun k hk hne=>by
  rw[h3.block k (by simp;omega) (fun ee=>?_),Below.heap_alloc wr _ k (by omega)]
  cases A with
  |none=>simp[Value.ownBlock] at ee
  |some ad=>
   simp[Value.ownBlock] at ee;exact hne ad rfl ee.symm
 have hsz2:wr.heap.size+1<=w'.heap.size:=by have:=h3.size;simpa using this
 have hbel:Below lo wr w':=by
  refine⟨h3.os,h3.tape,h3.output,by omega,fun k hk=>hfr k (by omega) (fun ad had=>by have:=hAb ad had;omega)⟩
 rcases h2.2 with ⟨hv,hn⟩|⟨g,cap,cur,hv,hb',hgg,hrest'⟩
 ·omega
 ·subst hv;refine HK _ _ _ ⟨h2,fun ad had=>by injection had with had;subst had;exact(Array.getElem?_eq_some_iff.1 hgg).1⟩ hbel hsz2 hfr (fun g' hg' hne ad had=>?_);injection had with had;subst had;rcases h5 with h5|h5
  ·cases A with
   |none=>simp[Value.ownBlock] at h5
   |some ad=>
    simp[Value.ownBlock] at h5;have:=hne ad rfl;simp;omega
  ·simp[Value.ownBlock] at h5;simp;omega
theorem zat {P:Program} {ops:Array Oper} {rest:List Oper} {o:Oper} {a:Act} {Q:Exit -> Act -> World -> Prop} (hgd:o.guard = none) (s x:Operand) (t:TypeId)
  (ho:o.op= .call {callee:=.builtin .append,args:=#[s,x],argTypes:=#[t,t]})
  (e:TypeId) (zv:Value) (size bytes:Nat) (ht:P.underlying t=some (.slice e)) (hinfo:(P.info? e).map (fun i=>(i.zero,i.size,i.bytes))=some (some zv,size,bytes)) (hzs:zv.cells.size=size) (hsz:0<size) (hb:bytes<=1000)
  {lo hi:Nat}{wr:World}{A:Option Addr}{m c:Nat}{xs:List Value} (h:Sl wr lo hi e size A m c xs) (hlo:lo<=wr.heap.size) (hs:a.eval s= .slice A m c)
  (news:List Value) (hd:Nat) (hhd:hd=wr.heap.size) (hx:a.eval x= .slice (some ⟨hd,0,none⟩) 1 1) (hl:news.length=size) (h1:∀u∈news,u.oneCell'=true) (hm:m<100000000)
  (HK:∀A' c' w1,Sl w1 lo w1.heap.size e size A' (m+1) c' (xs++news)->Below lo wr w1->wr.heap.size+1<=w1.heap.size->(∀g,g<wr.heap.size->(∀ad,A=some ad->ad.block≠g)->w1.heap[g]?=wr.heap[g]?)->(∀g,g<wr.heap.size->(∀ad,A=some ad->ad.block≠g)->∀ad,A'=some ad->ad.block≠g)->wpList P ops Q rest (a.put o.dst (.slice A' (m+1) c')) w1):wpList P ops Q (o::rest) a (wr.alloc (.cells news.toArray e)):=by
 have hw:Region.wanted o (yielded ops a.tmps)=true:=by simp[Region.wanted,hgd]
 unfold wpList;rw[if_pos hw];refine Or.inl ?_;exact zps s x t ho e zv size bytes ht hinfo hzs hsz hb h hlo hs news hd hhd hx hl h1 hm HK
end
section
open Go.RowKit Go.ChangeShapes Go.WideShapes Go.Deep Go.Proofs.Tryz
structure Tb where
 from_:Int
 to_:Int
 len:Int
def Tb.good(x:Tb):Prop:=I64 x.from_/\I64 x.to_/\I64 x.len
def zbs(x:Tb):List Value:=[.int .i64 x.from_,.int .i64 x.to_,.int .i64 x.len]
def tbs(l:List Tb):List Value:=l.flatMap zbs
theorem zea(l:List Tb):(tbs l).length=l.length*3:=zcZ zbs 3 (fun _=>rfl) l
theorem zli{l:List Tb}{k:Nat}{x:Tb}(h:l[k]?=some x):(tbs l)[k*3]?=some (.int .i64 x.from_)/\(tbs l)[k*3+1]?=some (.int .i64 x.to_)/\(tbs l)[k*3+2]?=some (.int .i64 x.len):=
 ⟨zce zbs 3 (fun _=>rfl) l k x h 0 (by omega),zce zbs 3 (fun _=>rfl) l k x h 1 (by omega),zce zbs 3 (fun _=>rfl) l k x h 2 (by omega)⟩
theorem zbW{w:World}{B n:Nat}{A:Option Addr}{l:List Tb}(h:zad w B 3 A n (tbs l)):l.length=n:=by
 have:=h.1;rw[zea] at this;omega
theorem zdD {w:World} {B n k:Nat} {A:Option Addr} {l:List Tb} (h:zad w B 3 A n (tbs l)) (hk:k < n) :
  ∃(x:Tb) (b off:Nat),l[k]?=some x/\A=some ⟨b,off,none⟩/\b<B/\w.cell? ⟨b,off+k*3,none⟩=some (.int .i64 x.from_)/\w.cell? ⟨b,off+k*3+1,none⟩=some (.int .i64 x.to_)/\w.cell? ⟨b,off+k*3+2,none⟩=some (.int .i64 x.len):=by
 obtain⟨b,off,rfl,hb,hcell⟩:=h.at_ (by omega);have hl:=zbW h;have he:l[k]?=some l[k]:=List.getElem?_eq_getElem (by omega);obtain⟨e0,e1,e2⟩:=zli he;exact⟨_,b,off,he,rfl,hb,hcell _ _ e0,hcell _ _ e1,hcell _ _ e2⟩
section
variable {H:Type}{enc:TypeId×Value->H}{w:World}
theorem ztx {n:Nat} {cs:List Value} {y:DataW H × List MemPlace} {base:Nat} {spare:Nat -> Bool} {held:Bool} (hl:cs.length = 3)
  (h:DataW.trod enc prog w base spare held n 222 cs=some y):∃x:Tb,zbs x=cs/\x.good:=by
 obtain⟨n',hfs⟩:=zg3 underlying222 (by kernel_rfl) hl h;obtain⟨v0,z0,e0,t0⟩:=hfs 0 _ rfl;obtain⟨v1,z1,e1,t1⟩:=hfs 1 _ rfl;obtain⟨v2,z2,e2,t2⟩:=hfs 2 _ rfl;obtain⟨x0,rfl,g0⟩:=zep underlying2 t0;obtain⟨x1,rfl,g1⟩:=zep underlying2 t1;obtain⟨x2,rfl,g2⟩:=zep underlying2 t2;exact⟨⟨x0,x1,x2⟩,(zuj hl e0 e1 e2).symm,zfe g0,zfe g1,zfe g2⟩
end
theorem zoJ (A:Option Addr) (n c:Nat) (q:Int) (w:World) (hq0:0 <= q) (hq:q <= 1048576) (hn:n <= 9223372036854775807) :
  Calls prog 115 #[.slice A n c,.int .i64 q] w fun e w'=>w=w'/\∃r:Int,e= .returned (.int .i64 r)/\(r<0\/(0<=r/\r<=q/\(n:Int)<=q)):=by
 by_cases h:(n:Int)<=q
 ·go_enter func115,ntmps115;go_wp2;go_ret;exact⟨rfl,_,rfl,.inr ⟨by omega,by omega,h⟩⟩
 ·go_enter func115,ntmps115;go_wp2;go_ret;exact⟨rfl,_,rfl,.inl (by omega)⟩
theorem zqq(x:Tb)(w:World):Calls prog 186 #[.agg #[.int .i64 x.from_,.int .i64 x.to_,.int .i64 x.len]] w fun e w'=>e= .returned (.agg #[.int .i64 x.from_,.int .i64 x.to_,.int .i64 x.len])/\Below w.heap.size w w':=by
 go_enter func186,ntmps186;go_wp2;exact bodyPost_ret (v:=.agg #[.int .i64 x.from_,.int .i64 x.to_,.int .i64 x.len]) (by simp[results,results186,go_sem]) rfl ⟨rfl,(((bal _).alloc (by simp) _).alloc (by simp;omega) _)⟩
theorem ztl(n:Nat)(hn:n<=1048576):∀w:World,(Instr.makeSlice 26 (.int .i64 (n:Int)) (.int .i64 (n:Int))).run prog w= .ok (.slice (some ⟨w.heap.size,0,none⟩) n n) (w.alloc (.cells (madeCells #[.int .i64 0,.int .i64 0,.int .i64 0] (n*3)) 101)):=
 zc9 26 101 (.agg #[.int .i64 0,.int .i64 0,.int .i64 0]) 3 24 underlying26 (by kernel_rfl) (by decide) n hn
theorem zoK (A:Option Addr) (n c B:Nat) (l:List Tb) (w:World) (h:zad w B 3 A n (tbs l)) (hB:B <= w.heap.size) (hn:n <= 1048576) :
  Calls prog 119 #[.slice A n c] w fun e w'=>∃g,e= .returned (.slice (some ⟨g,0,none⟩) n n)/\Sl w' w.heap.size w'.heap.size 101 3 (some ⟨g,0,none⟩) n n (tbs l)/\Below w.heap.size w w':=by
 have hmk:=ztl n hn;go_enter func119,ntmps119;go_wp2;have hb0:=Blk.new w 101 (madeCells #[.int .i64 0,.int .i64 0,.int .i64 0] (n*3))
 go_loopw [4] (fun i wr=>∃(k:Nat) (cs:Array Value),k<=n/\i= .int .i64 k/\Blk wr w.heap.size 101 cs/\cs.size=n*3/\Fill cs (tbs l) (k*3)/\Below w.heap.size w wr) (fun i _=>n-(RowKit.intOf i).toNat)
 case atStart=>exact⟨0,_,Nat.zero_le _,rfl,hb0,size_madeCells _ _,Fill.zero _ _,bal _⟩
 case round=>
  obtain⟨k,cs,hk,rfl,hblk,hcs,hfill,hbel⟩:=hrel;clear hmk hb0;have HF:=hid hfill;have HC:=hid hcs;have HBk:=hid hblk;have hgl:=hblk.lt;clear hfill hcs hblk;by_cases hlt:k<n
  ·obtain⟨x,b,off,he,rfl,hb,c0,c1,c2⟩:=zdD (h.on hB hbel) hlt;have HE:=hid (zli he);clear he
   go_wp2_with (go_at_call 186;refine(zqq x _).mono ?_;rintro e w1 ⟨rfl,hb1⟩;have HB1:=hid hb1;have hblk1:=HBk.out.below hb1 hgl;have hs0:=hblk1.cellAt (k*3) (by have:=HC.out;omega);have f0:=hblk1.frozen (k*3);have hs1:=hblk1.cellAt (k*3+1) (by have:=HC.out;omega);have f1:=hblk1.frozen (k*3+1);have hs2:=hblk1.cellAt (k*3+2) (by have:=HC.out;omega);have f2:=hblk1.frozen (k*3+2);clear hb1;have HBk1:=hid hblk1;clear hblk1)
   go_roundw
   case rel=>
    refine⟨k+1,_,by omega,by go_num,(((HBk1.out.set_ _ _).set_ _ _).set_ _ _),by simp[HC.out],?_,((((zac hbel HB1.out lr).setCell lr _).setCell lr _).setCell lr _)⟩;rw[show(k+1)*3=k*3+1+1+1 from by omega];exact(((HF.out.step HE.out.1 (by have:=HC.out;omega)).step HE.out.2.1 (by have:=HC.out;simp;omega)).step HE.out.2.2 (by have:=HC.out;simp;omega))
   case measure=>simp[RowKit.intOf];omega
  ·obtain rfl:k=n:=by omega
   go_wp2;go_ret;refine⟨_,rfl,Sl.of_blk ?_ lr hgl h.1 (by unfold maxLen;omega),hbel⟩;rw[<-HF.out.done HC.out h.1];exact HBk.out
theorem zoj(x:Tb)(w:World):Calls prog 187 #[.agg #[.int .i64 x.from_,.int .i64 x.to_,.int .i64 x.len],.agg #[.int .i64 x.from_,.int .i64 x.to_,.int .i64 x.len]] w fun e w'=>e= .returned (.bool true)/\Below w.heap.size w w':=by
 go_enter func187,ntmps187;go_wp2;go_ret;exact⟨rfl,(bal _).alloc (by simp) _⟩
theorem zmP (A A':Option Addr) (n c c' B:Nat) (l:List Tb) (w:World) (h:zad w B 3 A n (tbs l)) (h':zad w B 3 A' n (tbs l)) (hn:n <= 1048576) (hB:B <= w.heap.size) :
  Calls prog 121 #[.slice A n c,.slice A' n c'] w fun e w'=>e= .returned (.bool true)/\Below w.heap.size w w':=by
 go_enter func121,ntmps121;go_wp2
 go_loopw [5] (fun i wr=>∃k:Nat,k<=n/\i= .int .i64 k/\Below w.heap.size w wr) (fun i _=>n-(RowKit.intOf i).toNat)
 case atStart=>exact⟨0,Nat.zero_le _,rfl,Below.refl _ _⟩
 case round=>
  obtain⟨k,hk,rfl,hbel⟩:=hrel;by_cases hlt:k<n
  ·obtain⟨x,b,off,he,rfl,hb,c0,c1,c2⟩:=zdD (h.on hB hbel) hlt;obtain⟨x',b',off',he',rfl,hb',d0,d1,d2⟩:=zdD (h'.on hB hbel) hlt;obtain rfl:x=x':=by rw[he] at he';injection he'
   have HB:=hid hbel;have hlt':(k:Int)<n:=by omega
   have hk0:(0:Int)<=k:=by omega
   clear he he' hbel h h'
   go_wp2_with fail
   go_region_held3 (fun W=>Below wr.heap.size wr W/\W.cell? ⟨b,off+k*3,none⟩=some (.int .i64 x.from_)/\W.cell? ⟨b,off+k*3+1,none⟩=some (.int .i64 x.to_)/\W.cell? ⟨b,off+k*3+2,none⟩=some (.int .i64 x.len)/\W.cell? ⟨b',off'+k*3,none⟩=some (.int .i64 x.from_)/\W.cell? ⟨b',off'+k*3+1,none⟩=some (.int .i64 x.to_)/\W.cell? ⟨b',off'+k*3+2,none⟩=some (.int .i64 x.len)) (first|exact⟨(Below.refl _ _).drew,c0,c1,c2,d0,d1,d2⟩|(go_split_ands;exact⟨zac (by assumption) hb1 lr,zaa hb1 (by assumption),zaa hb1 (by assumption),zaa hb1 (by assumption),zaa hb1 (by assumption),zaa hb1 (by assumption),zaa hb1 (by assumption)⟩)) (first|(go_at_call 187;refine(zoj x _).mono ?_;rintro e w1 ⟨rfl,hb1⟩))
   rename_i hS;have HS:=hid (zac HB.out hS.1 lr);clear hS hb1 c0 c1 c2 d0 d1 d2;go_wp2
   go_roundw
   case rel=>exact⟨k+1,by omega,by go_num,HS.out⟩
   case measure=>simp[RowKit.intOf];omega
  ·obtain rfl:k=n:=by omega
   go_wp2;go_ret;exact⟨rfl,hbel⟩
end
section
open Go.RowKit Go.Proofs.Tryz
theorem zaP {w:World} {B n k:Nat} {A:Option Addr} {l:List ByteArray} (h:zad w B 1 A n (strs l)) (hk:k < n) :
  ∃(x:ByteArray) (b off:Nat),l[k]?=some x/\A=some ⟨b,off,none⟩/\b<B/\w.cell? ⟨b,off+k,none⟩=some (.string x):=by
 obtain⟨b,off,rfl,hb,hcell⟩:=h.at_ (by omega);have hl:=h.1;rw[za6] at hl;have he:l[k]?=some l[k]:=List.getElem?_eq_getElem (by omega);exact⟨_,b,off,he,rfl,hb,hcell _ _ (zeQ he)⟩
theorem zs5{w:World}{B n:Nat}{A:Option Addr}{l:List ByteArray}(h:zad w B 1 A n (strs l)):l.length=n:=by
 have:=h.1;rw[za6] at this;omega
theorem zeG (A A':Option Addr) (n c c' B:Nat) (l:List ByteArray) (w:World) (h:zad w B 1 A n (strs l)) (h':zad w B 1 A' n (strs l)) (hn:n <= 1048576) (hB:B <= w.heap.size) :
  Calls prog 18 #[.slice A n c,.slice A' n c'] w fun e w'=>e= .returned (.bool true)/\Below w.heap.size w w':=by
 go_enter func18,ntmps18;go_wp2
 go_loopw [5] (fun i wr=>∃k:Nat,k<=n/\i= .int .i64 k/\Below w.heap.size w wr) (fun i _=>n-(RowKit.intOf i).toNat)
 case atStart=>exact⟨0,Nat.zero_le _,rfl,Below.refl _ _⟩
 case round=>
  obtain⟨k,hk,rfl,hbel⟩:=hrel;by_cases hlt:k<n
  ·obtain⟨x,b,off,he,rfl,hb,c0⟩:=zaP (h.on hB hbel) hlt;obtain⟨x',b',off',he',rfl,hb',c1⟩:=zaP (h'.on hB hbel) hlt;obtain rfl:x=x':=by rw[he] at he';injection he'
   have HB:=hid hbel;have hlt':(k:Int)<n:=by omega
   have hk0:(0:Int)<=k:=by omega
   clear he he' hbel h h'
   go_wp2_with fail
   go_quiet (fail)
   go_wp2
   go_roundw
   case rel=>exact⟨k+1,by omega,by go_num,zan HB.out _⟩
   case measure=>simp[RowKit.intOf];omega
  ·obtain rfl:k=n:=by omega
   go_wp2;go_ret;exact⟨rfl,hbel⟩
def zbq(xs:List Int):Nat->Int
 |0=>0
 |k+1=>zbq xs k+xs.getD k 0
theorem zk6{xs:List Int}{k:Nat}{x:Int}(h:xs[k]?=some x):zbq xs (k+1)=zbq xs k+x:=by simp[zbq,List.getD,h]
theorem znV{xs:List Int}{b:Int}(hb:0<=b)(h:∀x∈xs,-b<=x/\x<=b)(k:Nat):-(b*k)<=zbq xs k/\zbq xs k<=b*k:=by
 induction k with
 |zero=>simp[zbq]
 |succ k ih=>
  have h1:-b<=xs.getD k 0/\xs.getD k 0<=b:=by
   rcases hx:xs[k]? with _|z
   ·simp[List.getD,hx];omega
   ·simp only[List.getD,hx,Option.getD_some];exact h z (List.mem_of_getElem? hx)
  rw[zbq,Int.natCast_succ,Int.mul_add,Int.mul_one];generalize b*(k:Int)=t at ih⊢;omega
theorem zr2 (A:Option Addr) (n c B:Nat) (xs:List Int) (w:World) (h:zad w B 1 A n (ints xs)) (hn:n <= 1048576) (hb:∀ x ∈ xs,-1000000000000 <= x /\ x <= 1000000000000) :
  Calls prog 93 #[.slice A n c] w fun e w'=>e= .returned (.int .i64 (zbq xs n))/\w=w':=by
 have HB:=hid hb;clear hb;go_enter func93,ntmps93;go_wp2
 go_loop [3,8] (fun s i=>∃k:Nat,k<=n/\i= .int .i64 k/\s= .int .i64 (zbq xs k)) (fun _ i=>n-(RowKit.intOf i).toNat)
 case atStart=>exact⟨0,Nat.zero_le _,rfl,rfl⟩
 case round=>
  obtain⟨k,hk,rfl,rfl⟩:=hrel;by_cases hlt:k<n
  ·obtain⟨x,b,off,he,rfl,hb,c0⟩:=zax h hlt;have hx:=HB.out x (List.mem_of_getElem? he);have hs:=znV (by omega) HB.out k;have HS:=hid (zk6 he);clear he h;generalize zbq xs k=s at*;go_wp2
   go_round
   case rel=>exact⟨k+1,by omega,by go_num,by rw[HS.out]⟩
   case measure=>simp[RowKit.intOf];omega
  ·obtain rfl:k=n:=by omega
   go_wp2;go_ret;exact⟨rfl,rfl⟩
theorem zpG (A:Option Addr) (n c B:Nat) (xs:List Int) (w:World) (h:zad w B 1 A n (ints xs)) (hn:n <= 1048576) (hb:∀ x ∈ xs,-1000000000000 <= x /\ x <= 1000000000000) :
  Calls prog 174 #[.slice A n c] w fun e w'=>e= .returned (.int .i64 (zbq xs n))/\w=w':=by
 have HB:=hid hb;clear hb;go_enter func174,ntmps174;go_wp2
 go_loop [3,4] (fun s i=>∃k:Nat,k<=n/\i= .int .i64 k/\s= .int .i64 (zbq xs k)) (fun _ i=>n-(RowKit.intOf i).toNat)
 case atStart=>exact⟨0,Nat.zero_le _,rfl,rfl⟩
 case round=>
  obtain⟨k,hk,rfl,rfl⟩:=hrel;by_cases hlt:k<n
  ·obtain⟨x,b,off,he,rfl,hb,c0⟩:=zax h hlt;have hx:=HB.out x (List.mem_of_getElem? he);have hs:=znV (by omega) HB.out k;have HS:=hid (zk6 he);clear he h;generalize zbq xs k=s at*;go_wp2
   go_round
   case rel=>exact⟨k+1,by omega,by go_num,by rw[HS.out]⟩
   case measure=>simp[RowKit.intOf];omega
  ·obtain rfl:k=n:=by omega
   go_wp2;go_ret;exact⟨rfl,rfl⟩
end
section
open Go.RowKit
theorem zig {P:Program} (w:World) (dT sT ty elem:TypeId) (size g o dLen dCap:Nat) (a:Addr) (sLen sCap:Nat) (cur:Array Value) (t:TypeId) (cs:List Value)
  (hu:P.underlying dT=some (.slice elem)) (hs:(P.info? elem).map (·.size)=some size)
  (hg:w.heap[g]?=some (.cells cur t (0,0))) (hn:cs.length=Nat.min sLen dLen*size)
  (hsrc:∀j v,cs[j]?=some v->w.cell? (a.add j)=some v) (hfit:o+cs.length<=cur.size) (h1:∀v∈cs,v.oneCell'=true):
  (Builtin.copy_ #[dT,sT] ty #[.slice (some ⟨g,o,none⟩) dLen dCap,.slice (some a) sLen sCap]).run P w=
   .ok (goInt (Nat.min sLen dLen)) (w.setRow g (cur.toList.take o++cs++cur.toList.drop (o+cs.length)).toArray):=by
 have hl:=run_loadCells_list (P:=P) w a cs hsrc;have hst:=run_storeCells_at P g o t cs 0 cur w hg (by simpa using hfit) h1
 cases hq:P.info? elem with
 |none=>simp[hq] at hs
 |some i=>
  have hi:i.size=size:=by simpa[hq] using hs
  simp[Builtin.copy_,run_underlying hu,Builtin.lenOf,Builtin.firstCells,sizeOf,typeInfo,hq,hi,<-hn,hl,hst]
structure Laid (g:Nat) (t:TypeId) (row:List Value) (w w':World):Prop where
 blk:Blk w' g t row.toArray
 os:w'.os=w.os
 tape:w'.tape=w.tape
 output:w'.output=w.output
 size:w'.heap.size=w.heap.size
 block:∀k,k≠g->w'.heap[k]?=w.heap[k]?
theorem Laid.drew{g:Nat}{t:TypeId}{row:List Value}{w w1:World}(h:Laid g t row w.drew w1):Laid g t row w w1:=⟨h.blk,h.os,h.tape,h.output,h.size,h.block⟩
theorem Laid.only{g lo hi:Nat}{t:TypeId}{row:List Value}{w w':World}(h:Laid g t row w w')(h1:lo<=g)(h2:g<hi):Only lo hi w w':=
 ⟨h.os,h.tape,h.output,by rw[h.size];exact Nat.le_refl _,fun k _ hd=>h.block k (by omega)⟩
theorem ziL{g:Nat}{t:TypeId}{w:World}{cur:Array Value}(hg:w.heap[g]?=some (.cells cur t (0,0)))(row:List Value):Laid g t row w (w.setRow g row.toArray):=
 ⟨setRow_heap w g cur row.toArray t (0,0) hg,rfl,rfl,rfl,by simp[World.setRow],fun k hk=>setRow_other w g k _ hk⟩
theorem znT {P:Program} {ops:Array Oper} {o:Oper} {a:Act} {w:World} {K:Act -> World -> Prop} {Q:Exit -> Act -> World -> Prop} {E:Prop} (hgd:o.guard = none) (d s:Operand) (dT sT:TypeId)
  (ho:o.op= .call {callee:=.builtin .copy,args:=#[d,s],argTypes:=#[dT,sT]}) (elem:TypeId) (size:Nat) (hu:P.underlying dT=some (.slice elem)) (hsz:(P.info? elem).map (·.size)=some size)
  (g off dLen dCap:Nat) (ad:Addr) (sLen sCap:Nat) (hd:a.eval d= .slice (some ⟨g,off,none⟩) dLen dCap) (hs:a.eval s= .slice (some ad) sLen sCap)
  (o5:Nat) (ho5:off=o5) (cur:List Value) (t:TypeId) (hg:Blk w g t cur.toArray) (cs:List Value) (hn:cs.length=Nat.min sLen dLen*size)
  (hsrc:∀j v,cs[j]?=some v->w.cell? (ad.add j)=some v) (hfit:off+cs.length<=cur.length) (h1:∀v∈cs,v.oneCell'=true)
  (h:∀w',Laid g t (splice cur o5 cs) w w'->K (a.put o.dst (goInt (Nat.min sLen dLen))) w'):
  if Region.wanted o (yielded ops a.tmps)=true then Oper.wp P o a w K Q else E:=by
 subst ho5;have hw:Region.wanted o (yielded ops a.tmps)=true:=by simp[Region.wanted,hgd]
 rw[if_pos hw];have hrun:=zig (P:=P) w dT sT o.type elem size g off dLen dCap ad sLen sCap cur.toArray t cs hu hsz hg hn hsrc (by simpa using hfit) h1;unfold Oper.wp;simp[execOp,ho,resolve,invoke,builtin,hd,hs,hrun,Result.andThen];have h9:=h _ (ziL hg (splice cur off cs));simp only[splice] at h9;exact h9
end
section
open Go.RowKit Go.ChangeShapes Go.WideShapes Go.Deep
structure Cl where
 name:ByteArray
 station:Int
 from_:Int
 to_:Int
 quota:Int
def zsS(x:Cl):List Value:=[.string x.name,.int .i64 x.station,.int .i64 x.from_,.int .i64 x.to_,.int .i64 x.quota]
def cls(l:List Cl):List Value:=l.flatMap zsS
section
variable {H:Type}{enc:TypeId×Value->H}{w:World}
end
end
section
open Go.RowKit Go.ChangeShapes Go.WideShapes Go.Deep
structure En where
 day:Int
 what:ByteArray
 val:Int
def En.good(x:En):Prop:=I64 x.day/\x.what.size<=9223372036854775807/\I64 x.val
def En.small(x:En):Prop:=x.what.size<=1048576
def zc7(x:En):List Value:=[.int .i64 x.day,.string x.what,.int .i64 x.val]
def ens(l:List En):List Value:=l.flatMap zc7
theorem zcQ(l:List En):(ens l).length=l.length*3:=zcZ zc7 3 (fun _=>rfl) l
theorem zsU{l:List En}{k:Nat}{x:En}(h:l[k]?=some x):(ens l)[k*3]?=some (.int .i64 x.day)/\(ens l)[k*3+1]?=some (.string x.what)/\(ens l)[k*3+2]?=some (.int .i64 x.val):=
 ⟨zce zc7 3 (fun _=>rfl) l k x h 0 (by omega),zce zc7 3 (fun _=>rfl) l k x h 1 (by omega),zce zc7 3 (fun _=>rfl) l k x h 2 (by omega)⟩
theorem zoP{w:World}{B n:Nat}{A:Option Addr}{l:List En}(h:zad w B 3 A n (ens l)):l.length=n:=by
 have:=h.1;rw[zcQ] at this;omega
theorem zgN {w:World} {B n k:Nat} {A:Option Addr} {l:List En} (h:zad w B 3 A n (ens l)) (hk:k < n) :
  ∃(x:En) (b off:Nat),l[k]?=some x/\A=some ⟨b,off,none⟩/\b<B/\w.cell? ⟨b,off+k*3,none⟩=some (.int .i64 x.day)/\w.cell? ⟨b,off+k*3+1,none⟩=some (.string x.what)/\w.cell? ⟨b,off+k*3+2,none⟩=some (.int .i64 x.val):=by
 obtain⟨b,off,rfl,hb,hcell⟩:=h.at_ (by omega);have hl:=zoP h;have he:l[k]?=some l[k]:=List.getElem?_eq_getElem (by omega);obtain⟨e0,e1,e2⟩:=zsU he;exact⟨_,b,off,he,rfl,hb,hcell _ _ e0,hcell _ _ e1,hcell _ _ e2⟩
section
variable {H:Type}{enc:TypeId×Value->H}{w:World}
end
end
section
open Go.RowKit
theorem zsB {P:Program} {o:Oper} {a:Act} {Q:Exit -> Act -> World -> Prop} {K:Act -> World -> Prop} (s x:Operand) (t:TypeId)
  (ho:o.op= .call {callee:=.builtin .append,args:=#[s,x],argTypes:=#[t,t]})
  (e:TypeId) (zv:Value) (size bytes:Nat) (ht:P.underlying t=some (.slice e)) (hinfo:(P.info? e).map (fun i=>(i.zero,i.size,i.bytes))=some (some zv,size,bytes)) (hzs:zv.cells.size=size) (hsz:0<size) (hb:bytes<=1000)
  {lo hi:Nat}{wr:World}{A:Option Addr}{m c:Nat}{xs:List Value} (h:Sl wr lo hi e size A m c xs) (hlo:lo<=wr.heap.size) (hs:a.eval s= .slice A m c)
  (news:List Value) (hd:Nat) (hhd:hd=wr.heap.size) (hx:a.eval x= .slice (some ⟨hd,0,none⟩) 1 1) (hl:news.length=size) (h1:∀u∈news,u.oneCell'=true) (hm:m<100000000)
  (HK:∀A' c' w1,Sl w1 lo w1.heap.size e size A' (m+1) c' (xs++news)->Below lo wr w1->K (a.put o.dst (.slice A' (m+1) c')) w1):o.wp P a (wr.alloc (.cells news.toArray e)) K Q:=by
 subst hhd;obtain⟨i,hi',hz,hsize,hby⟩:=info_parts hinfo
 have hAb:∀ad,A=some ad->lo<=ad.block:=fun ad had=>by
  rcases h.form with ⟨h0,_⟩|⟨g,cur,hg,h2,_⟩
  ·rw[h0] at had;cases had
  ·rw[hg] at had;injection had with had;subst had;exact h2
 have hown:(wr.alloc (.cells news.toArray e)).ownsRow lo e size (.slice A m c) m xs:=h.1.alloc _
 obtain⟨v',w',hr,h2,h3,h4,h5⟩:=run_append_own_at (P:=P) (wr.alloc (.cells news.toArray e)) lo t o.type e i zv size bytes ht hi' hz hsize hby hzs hsz _ m xs hown ⟨wr.heap.size,0,none⟩ 1 1 news (by omega) (zi6 wr news e) h1 (by unfold maxLen;omega) (by
  calc (m+1)*bytes<=100000000*1000:=Nat.mul_le_mul (by omega) hb
   _<=140737488355328:=by decide) (by simp;omega)
 unfold Oper.wp execOp;simp only[ho,resolve,invoke,builtin,Sem.run_bind,Sem.run_pure,Result.andThen_ok,List.map_toArray,List.map_cons,List.map_nil,hs,hx,hr]
 have hbel:Below lo wr w':=by
  refine⟨h3.os,h3.tape,h3.output,?_,fun k hk=>?_⟩
  ·have:=h3.size;simp at this;omega
  ·rw[h3.block k (by simp;omega) (fun ee=>?_),Below.heap_alloc wr _ k (by omega)]
   cases A with
   |none=>simp[Value.ownBlock] at ee
   |some ad=>
    simp[Value.ownBlock] at ee;have:=hAb ad rfl;omega
 rcases h2.2 with ⟨hv,hn⟩|⟨g,cap,cur,hv,hb',hgg,hrest'⟩
 ·omega
 ·subst hv;exact HK _ _ _ ⟨h2,fun ad had=>by injection had with had;subst had;exact(Array.getElem?_eq_some_iff.1 hgg).1⟩ hbel
theorem ziu {P:Program} {ops:Array Oper} {rest:List Oper} {o:Oper} {a:Act} {Q:Exit -> Act -> World -> Prop} (hgd:o.guard = none) (s x:Operand) (t:TypeId)
  (ho:o.op= .call {callee:=.builtin .append,args:=#[s,x],argTypes:=#[t,t]})
  (e:TypeId) (zv:Value) (size bytes:Nat) (ht:P.underlying t=some (.slice e)) (hinfo:(P.info? e).map (fun i=>(i.zero,i.size,i.bytes))=some (some zv,size,bytes)) (hzs:zv.cells.size=size) (hsz:0<size) (hb:bytes<=1000)
  {lo hi:Nat}{wr:World}{A:Option Addr}{m c:Nat}{xs:List Value} (h:Sl wr lo hi e size A m c xs) (hlo:lo<=wr.heap.size) (hs:a.eval s= .slice A m c)
  (news:List Value) (hd:Nat) (hhd:hd=wr.heap.size) (hx:a.eval x= .slice (some ⟨hd,0,none⟩) 1 1) (hl:news.length=size) (h1:∀u∈news,u.oneCell'=true) (hm:m<100000000)
  (HK:∀A' c' w1,Sl w1 lo w1.heap.size e size A' (m+1) c' (xs++news)->Below lo wr w1->wpList P ops Q rest (a.put o.dst (.slice A' (m+1) c')) w1):wpList P ops Q (o::rest) a (wr.alloc (.cells news.toArray e)):=
 wpList_plain hgd fun K hK=>zsB s x t ho e zv size bytes ht hinfo hzs hsz hb h hlo hs news hd hhd hx hl h1 hm fun A' c' w1 k1 k2=>hK _ _ (HK A' c' w1 k1 k2)
theorem Sl.low{w:World}{lo hi:Nat}{t:TypeId}{size:Nat}{A:Option Addr}{n c:Nat}{xs:List Value}(h:Sl w lo hi t size A n c xs):Sl w lo w.heap.size t size A n c xs:=by
 refine⟨h.1,fun b hb=>?_⟩;have:=h.1.lt b.block (by subst hb;rfl);exact this.2
theorem Sl.drewN{w:World}{lo hi:Nat}{t:TypeId}{size:Nat}{A:Option Addr}{n c:Nat}{xs:List Value}(h:Sl w lo hi t size A n c xs)(k:Nat):Sl (w.drewN k) lo hi t size A n c xs:=h.keep fun b _ _ _=>rfl
theorem Sl.drew{w:World}{lo hi:Nat}{t:TypeId}{size:Nat}{A:Option Addr}{n c:Nat}{xs:List Value}(h:Sl w lo hi t size A n c xs):Sl w.drew lo hi t size A n c xs:=h.keep fun b _ _ _=>rfl
theorem Sl.setLow{w:World}{lo hi:Nat}{t:TypeId}{size:Nat}{A:Option Addr}{n c:Nat}{xs:List Value}(h:Sl w lo hi t size A n c xs){p:Addr}(hp:p.block<lo)(u:Value):Sl (w.setCell p u) lo hi t size A n c xs:=
 h.keep fun b hb _ _=>Below.heap_setCell w p u b (by omega)
end
section
open Go.RowKit Go.Proofs.Tryz
section
variable {α:Type}{p:α->α->Bool}{l l':List α}{k n:Nat}{x y:α}
def rowS(p:α->α->Bool)(l l':List α)(i:Nat):Bool:=match l[i]?,l'[i]? with
 |some x,some y=>p x y
 |_,_=>false
theorem zlb(h:l[k]?=some x)(h':l'[k]?=some y):rowS p l l' k=p x y:=by simp[rowS,h,h']
def zeA(p:α->α->Bool)(l l':List α):Bool:=decide (l.length=l'.length)&&(List.range l.length).all (rowS p l l')
theorem zrq(h:l[k]?=some x)(h':l'[k]?=some y)(hp:p x y=false):zeA p l l'=false:=by
 have hk:(List.range l.length)[k]?=some k:=by simp[(List.getElem?_eq_some_iff.1 h).1]
 simp only[zeA,zcd hk ((zlb h h').trans hp),Bool.and_false]
theorem zrr(h:¬l.length=l'.length):zeA p l l'=false:=by simp[zeA,h]
def AllS(p:α->α->Bool)(l l':List α)(k:Nat):Prop:=za0 (rowS p l l') (List.range l.length) k
theorem AllS.zero(p:α->α->Bool)(l l':List α):AllS p l l' 0:=za0.zero _ _
theorem AllS.step(h:AllS p l l' k)(h1:l[k]?=some x)(h2:l'[k]?=some y)(hp:p x y=true):AllS p l l' (k+1):=by
 have hk:(List.range l.length)[k]?=some k:=by simp[(List.getElem?_eq_some_iff.1 h1).1]
 exact za0.step h hk ((zlb h1 h2).trans hp)
theorem AllS.done(h:AllS p l l' k)(hl:l.length=k)(hl':l'.length=k):zeA p l l'=true:=by
 have h1:(List.range l.length).all (rowS p l l')=true:=za0.done h (by simpa using hl);simp only[zeA,h1,Bool.and_true,decide_eq_true_eq];omega
theorem zku(hp:∀x,p x x=true)(l:List α):zeA p l l=true:=by
 simp only[zeA,Bool.and_eq_true,List.all_eq_true];refine⟨by simp,fun i hi=>?_⟩;have hi':i<l.length:=by simpa using hi
 rw[zlb (List.getElem?_eq_getElem hi') (List.getElem?_eq_getElem hi')];exact hp _
end
def zf5(x y:Int):Bool:=x==y
theorem zkt(x:Int):zf5 x x=true:=by simp[zf5]
theorem zip (A:Option Addr) (n c:Nat) (q:Int) (w:World) (hq0:0 <= q) (hq:q <= 1048576) (hn:n <= 9223372036854775807) :
  Calls prog 46 #[.slice A n c,.int .i64 q] w fun e w'=>w=w'/\∃r:Int,e= .returned (.int .i64 r)/\(r<0\/(0<=r/\r<=q/\(n:Int)<=q)):=by
 by_cases h:(n:Int)<=q
 ·go_enter func46,ntmps46;go_wp2;go_ret;exact⟨rfl,_,rfl,.inr ⟨by omega,by omega,h⟩⟩
 ·go_enter func46,ntmps46;go_wp2;go_ret;exact⟨rfl,_,rfl,.inl (by omega)⟩
theorem zfN(n:Nat)(hn:n<=1048576):∀w:World,(Instr.makeSlice 29 (.int .i64 (n:Int)) (.int .i64 (n:Int))).run prog w= .ok (.slice (some ⟨w.heap.size,0,none⟩) n n) (w.alloc (.cells (madeCells #[.int .i64 0] n) 2)):=by
 have:=zc9 29 2 (.int .i64 0) 1 8 underlying29 (by kernel_rfl) (by decide) n hn;rwa[Nat.mul_one] at this
theorem zgb (A:Option Addr) (n c B:Nat) (l:List Int) (w:World) (h:zad w B 1 A n (ints l)) (hB:B <= w.heap.size) (hn:n <= 1048576) :
  Calls prog 50 #[.slice A n c] w fun e w'=>∃g,e= .returned (.slice (some ⟨g,0,none⟩) n n)/\Sl w' w.heap.size w'.heap.size 2 1 (some ⟨g,0,none⟩) n n (ints l)/\Below w.heap.size w w':=by
 have hmk:=zfN n hn;have hlen:=h.1;go_enter func50,ntmps50;go_wp2;have hb0:=Blk.new w 2 (madeCells #[.int .i64 0] n)
 go_loopw [4] (fun i wr=>∃(k:Nat) (cs:Array Value),k<=n/\i= .int .i64 k/\Blk wr w.heap.size 2 cs/\cs.size=n/\Fill cs (ints l) k/\Below w.heap.size w wr) (fun i _=>n-(RowKit.intOf i).toNat)
 case atStart=>exact⟨0,_,Nat.zero_le _,rfl,hb0,size_madeCells _ _,Fill.zero _ _,bal _⟩
 case round=>
  obtain⟨k,cs,hk,rfl,hblk,hcs,hfill,hbel⟩:=hrel;clear hmk hb0;have HF:=hid hfill;have HC:=hid hcs;have HBk:=hid hblk;have hgl:=hblk.lt;clear hfill hcs hblk;by_cases hlt:k<n
  ·obtain⟨x,b,off,he,rfl,hb,c0⟩:=zax (h.on hB hbel) hlt;have HE:=hid (zeK he);have HBe:=hid hbel;clear he hbel h;have hs0:=HBk.out.cellAt k (by have:=HC.out;omega);have f0:=HBk.out.frozen k;go_wp2
   go_roundw
   case rel=>
    exact⟨k+1,_,by omega,by go_num,HBk.out.set_ _ _,by simp[HC.out],HF.out.step HE.out (by have:=HC.out;omega),HBe.out.setCell lr _⟩
   case measure=>simp[RowKit.intOf];omega
  ·obtain rfl:k=n:=by omega
   go_wp2;go_ret;refine⟨_,rfl,Sl.of_blk ?_ lr hgl hlen (by unfold maxLen;omega),hbel⟩;rw[<-HF.out.done (by have:=HC.out;omega) (by omega)];exact HBk.out
theorem zhr (A:Option Addr) (n c:Nat) (l:List Int) (A':Option Addr) (n' c':Nat) (l':List Int) (B:Nat) (w:World) (h:zad w B 1 A n (ints l)) (h':zad w B 1 A' n' (ints l')) (hn:n <= 1048576) (hn':n' <= 1048576) :
  Calls prog 53 #[.slice A n c,.slice A' n' c'] w fun e w'=>e= .returned (.bool (zeA zf5 l l'))/\∃q,w'=w.drewN q:=by
 have hl:=hid (zai h);have hl':=hid (zai h');by_cases hnn:n=n'
 ·subst hnn;go_enter func53,ntmps53;go_wp2
  go_loopw [5] (fun i wr=>∃k q:Nat,k<=n/\i= .int .i64 k/\AllS zf5 l l' k/\wr=w.drewN q) (fun i _=>n-(RowKit.intOf i).toNat)
  case atStart=>exact⟨0,0,Nat.zero_le _,rfl,AllS.zero _ _ _,rfl⟩
  case round=>
   obtain⟨k,q,hk,rfl,hall,rfl⟩:=hrel;have HA:=hid hall;clear hall;by_cases hlt:k<n
   ·obtain⟨x,b,off,he,rfl,hb,c0⟩:=zax h hlt;obtain⟨y,b',off',he',rfl,hb',d0⟩:=zax h' hlt;have hi0:(0:Int)<=k:=by omega
    have hi1:(k:Int)<n:=by omega
    have HE:=hid he;have HE':=hid he';clear he he' h h';rcases hb0:(x==y) with _|_
    ·have HO:=hid (show zeA zf5 l l'=false from zrq HE.out HE'.out (by simp[zf5,hb0]))
     go_wp2_with fail
     go_quiet (fail)
     go_wp2;go_ret;exact⟨zae HO.out.symm,_,World.drewN_drewN _ _ _⟩
    ·skip
     have HT:=hid (show zf5 x y=true by simp[zf5,hb0])
     go_wp2_with fail
     go_quiet (fail)
     go_wp2
     go_roundw
     case rel=>exact⟨k+1,_,by omega,by go_num,HA.out.step HE.out HE'.out HT.out,rfl⟩
     case measure=>simp[RowKit.intOf];omega
   ·obtain rfl:k=n:=by omega
    have HO:=hid (HA.out.done hl.out hl'.out);go_wp2;go_ret;exact⟨zae HO.out.symm,q,rfl⟩
 ·have HO:=hid (show zeA zf5 l l'=false from zrr (by rw[hl.out,hl'.out];exact hnn));have hne:((n:Int) !=(n':Int))=true:=by rw[bne_iff_ne];omega
  clear hnn;go_enter func53,ntmps53;go_wp2;go_ret;exact⟨zae HO.out.symm,0,rfl⟩
end
end Go.Proofs.YtjalgpioklcbfaaGreatDoor
