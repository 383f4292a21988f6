/- Steps of the proof. -/
import Derived.Test.YtjalgpioklcbfaaGreatDoorMgDesksAB
import Derived.Laws.IdiomStrings
import Derived.IntWalk
import Derived.Lib.AppendStr
import Derived.Laws.Cover1
import Derived.Deep.Upon
set_option linter.unusedVariables false
set_option maxHeartbeats 4000000
set_option maxRecDepth 100000
set_option linter.unusedSimpArgs false
namespace Go.Proofs.YtjalgpioklcbfaaGreatDoor
section
open Go.RowKit
theorem zln {P:Program} {o:Oper} {a:Act} {Q:Exit -> Act -> World -> Prop} {K:Act -> World -> Prop} (s x:Operand) (t:TypeId)
  (ho:o.op= .call {callee:=.builtin .append,args:=#[s,x],argTypes:=#[t,t]})
  (e:TypeId) (zv:Value) (size bytes:Nat) (ht:P.underlying t=some (.slice e)) (hinfo:(P.info? e).map (fun i=>(i.zero,i.size,i.bytes))=some (some zv,size,bytes)) (hzs:zv.cells.size=size) (hsz:0<size) (hb:bytes<=1000)
  {lo hi:Nat}{W:World}{A:Option Addr}{m c:Nat}{xs:List Value} (h:Sl W lo hi e size A m c xs) (hlo:lo<=W.heap.size) (hs:a.eval s= .slice A m c)
  (b off k d:Nat) (news:List Value) (hx:a.eval x= .slice (some ⟨b,off,none⟩) k d) (hl:news.length=k*size) (hc:∀j u,news[j]?=some u->W.cell? ⟨b,off+j,none⟩=some u) (h1:∀u∈news,u.oneCell'=true) (hk:0<k) (hm:m+k<100000000)
  (HK:∀A' c' w1,Sl w1 lo w1.heap.size e size A' (m+k) c' (xs++news)->Below lo W w1->(∀g,g<W.heap.size->(∀ad,A=some ad->ad.block≠g)->w1.heap[g]?=W.heap[g]?)->(∀g,g<W.heap.size->(∀ad,A=some ad->ad.block≠g)->∀ad,A'=some ad->ad.block≠g)->K (a.put o.dst (.slice A' (m+k) c')) w1):o.wp P a W K Q:=by
 obtain⟨i,hi',hz,hsize,hby⟩:=info_parts hinfo
 have hAb:∀ad,A=some ad->lo<=ad.block:=fun ad had=>by
  rcases h.form with ⟨h0,_⟩|⟨g,cur,hg,h2,_⟩
  ·rw[h0] at had;cases had
  ·rw[hg] at had;injection had with had;subst had;exact h2
 obtain⟨v',w',hr,h2,h3,h4,h5⟩:=run_append_own_at (P:=P) W lo t o.type e i zv size bytes ht hi' hz hsize hby hzs hsz _ m xs h.1 ⟨b,off,none⟩ k d news hl (fun j u hu=>by rw[zdE];exact hc j u hu) h1 (by unfold maxLen;omega) (by
  calc (m+k)*bytes<=100000000*1000:=Nat.mul_le_mul (by omega) hb
   _<=140737488355328:=by decide) hlo
 unfold Oper.wp execOp;simp only[ho,resolve,invoke,builtin,Sem.run_bind,Sem.run_pure,Result.andThen_ok,List.map_toArray,List.map_cons,List.map_nil,hs,hx,hr]
 have hfr:∀g,g<W.heap.size->(∀ad,A=some ad->ad.block≠g)->w'.heap[g]?=W.heap[g]?:=fun k hk hne=>by
  rw[h3.block k hk (fun ee=>?_)]
  cases A with
  |none=>simp[Value.ownBlock] at ee
  |some ad=>
   simp[Value.ownBlock] at ee;exact hne ad rfl ee.symm
 have hbel:Below lo W w':=⟨h3.os,h3.tape,h3.output,h3.size,fun k hk=>hfr k (by omega) (fun ad had=>by have:=hAb ad had;omega)⟩
 rcases h2.2 with ⟨hv,hn⟩|⟨g,cap,cur,hv,hb',hgg,hrest'⟩
 ·omega
 ·subst hv;refine HK _ _ _ ⟨h2,fun ad had=>by injection had with had;subst had;exact(Array.getElem?_eq_some_iff.1 hgg).1⟩ hbel hfr (fun g' hg' hne ad had=>?_);injection had with had;subst had;rcases h5 with h5|h5
  ·cases A with
   |none=>simp[Value.ownBlock] at h5
   |some ad=>
    simp[Value.ownBlock] at h5;have:=hne ad rfl;simp;omega
  ·simp[Value.ownBlock] at h5;simp;omega
theorem zg6 {P:Program} {ops:Array Oper} {rest:List Oper} {o:Oper} {a:Act} {Q:Exit -> Act -> World -> Prop} (hgd:o.guard = none) (s x:Operand) (t:TypeId)
  (ho:o.op= .call {callee:=.builtin .append,args:=#[s,x],argTypes:=#[t,t]})
  (e:TypeId) (zv:Value) (size bytes:Nat) (ht:P.underlying t=some (.slice e)) (hinfo:(P.info? e).map (fun i=>(i.zero,i.size,i.bytes))=some (some zv,size,bytes)) (hzs:zv.cells.size=size) (hsz:0<size) (hb:bytes<=1000)
  {lo hi:Nat}{W:World}{A:Option Addr}{m c:Nat}{xs:List Value} (h:Sl W lo hi e size A m c xs) (hlo:lo<=W.heap.size) (hs:a.eval s= .slice A m c)
  (b off k d:Nat) (news:List Value) (hx:a.eval x= .slice (some ⟨b,off,none⟩) k d) (hl:news.length=k*size) (hc:∀j u,news[j]?=some u->W.cell? ⟨b,off+j,none⟩=some u) (h1:∀u∈news,u.oneCell'=true) (hk:0<k) (hm:m+k<100000000)
  (HK:∀A' c' w1,Sl w1 lo w1.heap.size e size A' (m+k) c' (xs++news)->Below lo W w1->(∀g,g<W.heap.size->(∀ad,A=some ad->ad.block≠g)->w1.heap[g]?=W.heap[g]?)->(∀g,g<W.heap.size->(∀ad,A=some ad->ad.block≠g)->∀ad,A'=some ad->ad.block≠g)->wpList P ops Q rest (a.put o.dst (.slice A' (m+k) c')) w1):wpList P ops Q (o::rest) a W:=by
 have hw:Region.wanted o (yielded ops a.tmps)=true:=by simp[Region.wanted,hgd]
 unfold wpList;rw[if_pos hw];refine Or.inl ?_;exact zln s x t ho e zv size bytes ht hinfo hzs hsz hb h hlo hs b off k d news hx hl hc h1 hk hm HK
theorem zlS {P:Program} {ops:Array Oper} {o:Oper} {a:Act} {Q:Exit -> Act -> World -> Prop} {K:Act -> World -> Prop} {E:Prop} (hgd:o.guard = none) (s x:Operand) (t:TypeId)
  (ho:o.op= .call {callee:=.builtin .append,args:=#[s,x],argTypes:=#[t,t]})
  (e:TypeId) (zv:Value) (size bytes:Nat) (ht:P.underlying t=some (.slice e)) (hinfo:(P.info? e).map (fun i=>(i.zero,i.size,i.bytes))=some (some zv,size,bytes)) (hzs:zv.cells.size=size) (hsz:0<size) (hb:bytes<=1000)
  {lo hi:Nat}{W:World}{A:Option Addr}{m c:Nat}{xs:List Value} (h:Sl W lo hi e size A m c xs) (hlo:lo<=W.heap.size) (hs:a.eval s= .slice A m c)
  (b off k d:Nat) (news:List Value) (hx:a.eval x= .slice (some ⟨b,off,none⟩) k d) (hl:news.length=k*size) (hc:∀j u,news[j]?=some u->W.cell? ⟨b,off+j,none⟩=some u) (h1:∀u∈news,u.oneCell'=true) (hk:0<k) (hm:m+k<100000000)
  (HK:∀A' c' w1,Sl w1 lo w1.heap.size e size A' (m+k) c' (xs++news)->Below lo W w1->(∀g,g<W.heap.size->(∀ad,A=some ad->ad.block≠g)->w1.heap[g]?=W.heap[g]?)->(∀g,g<W.heap.size->(∀ad,A=some ad->ad.block≠g)->∀ad,A'=some ad->ad.block≠g)->K (a.put o.dst (.slice A' (m+k) c')) w1):
  if Region.wanted o (yielded ops a.tmps)=true then Oper.wp P o a W K Q else E:=by
 have hw:Region.wanted o (yielded ops a.tmps)=true:=by simp[Region.wanted,hgd]
 rw[if_pos hw];exact zln s x t ho e zv size bytes ht hinfo hzs hsz hb h hlo hs b off k d news hx hl hc h1 hk hm HK
end
section
open Go.RowKit Go.Lib Go.Proofs.Tryz
theorem zi1:(prog.info? 5).map (fun i=>(i.zero,i.size,i.bytes))=some (some (.int .u8 0),1,1):=by kernel_rfl
def zaU(l:List UInt8):List Value:=l.map fun c=>.int .u8 (c.toNat:Int)
theorem zdR(l:List UInt8):(zaU l).length=l.length:=by simp[zaU]
theorem zgF(l:List UInt8):∀u∈zaU l,u.oneCell'=true:=by
 intro u hu;simp only[zaU,List.mem_map] at hu;obtain⟨c,_,rfl⟩:=hu
 rfl
theorem zee(a b:List UInt8):zab a++zab b=zab (a++b):=by
 apply ByteArray.ext;simp[zab,ByteArray.data_append]
theorem zjg{d:Nat}(h:d<10):((UInt8.ofNat (48+d)).toNat:Int)=48+(d:Int):=by
 have:(UInt8.ofNat (48+d)).toNat=48+d:=by rw[UInt8.toNat_ofNat'];omega
 rw[this];omega
theorem zp0 (n:Int) (w:World) (h0:0 < n) (h1:n <= 9223372036854775807) :
  Calls prog 173 #[.int .i64 n] w fun e w'=>e= .returned (.string (zab (itoa n)))/\Below w.heap.size w w':=by
 obtain⟨p,rfl⟩:∃p:Nat,n=(p:Int):=⟨n.toNat,by omega⟩
 have hit:=hid (zng h0);have hneg:decide ((p:Int)<0)=false:=decide_eq_false (by omega);go_enter func173,ntmps173;go_wp2
 go_loopw [3,4,5] (fun s k _ wr=>∃(q:Nat) (ds:List UInt8) (g c:Nat),s= .slice (some ⟨g,0,none⟩) ds.length c/\k= .int .i64 (q:Int)/\q<=p/\dgts p=dgts q++ds/\Sl wr w.heap.size wr.heap.size 5 1 (some ⟨g,0,none⟩) ds.length c (zaU ds)/\Below w.heap.size w wr) (fun _ k _ _=>(RowKit.intOf k).toNat)
 case atStart=>exact⟨p,[],_,_,rfl,rfl,Nat.le_refl _,by simp,(Sl.made w 5 1).wide lr (by simp),bal _⟩
 case round=>
  obtain⟨q,ds,g,c,rfl,rfl,hq,hd,hs,hbel⟩:=hrel
  have hlen:ds.length<=19:=by
   have h9:=zgL (u:=p) (by omega);rw[hd,List.length_append] at h9;omega
  have HD:=hid hd;have HB:=hid hbel;have zr:=hbel.size;by_cases hq0:q=0
  ·subst hq0
   have hds:ds.length≠0:=by
    intro h9;rw[List.length_eq_zero_iff.1 h9,zge] at hd;have:=zff (u:=p) (by omega);rw[hd] at this;simp at this
   have hds2:((ds.length:Int)==0)=false:=by rw[beq_eq_false_iff_ne];omega
   have hdd:dgts p=ds:=by rw[hd,zge];rfl
   have hcv:=run_convert_bytes_back (P:=prog) wr 22 9 5 ⟨g,0,none⟩ c ds underlying22 underlying5 underlying9 (fun j hj=>by
    rw[zdE,Nat.zero_add,hs.cellAt j (by rw[Nat.mul_one];exact hj)];simp[zaU,hj])
   have HR:=hid (show itoa (p:Int)=ds by rw[hit.out];simpa using hdd);clear hd hdd hs hbel HD;go_wp2;go_ret;exact⟨by rw[HR.out];rfl,HB.out⟩
  ·have hq1:((q:Int)==0)=false:=by simp;omega
   have hq2:(0:Int)<q:=by omega
   have hq3:(q:Int)<=9223372036854775807:=by omega
   have hlow:decide ((q:Int)%10<0)=false:=decide_eq_false (by omega);have hst:=hid (zff hq0);have hdc:=hid (zjg (d:=q%10) (by omega))
   have hc8:IntKind.u8.wrap (48+(q:Int)%10)=48+(q:Int)%10:=by
    unfold IntKind.wrap;simp[IntKind.bits,IntKind.signed];omega
   have hsn:=hid (Sl.on hs ((Below.refl wr.heap.size wr).alloc lr (.cells #[.int .u8 (48+(q:Int)%10)] 5)));have acc0:=hid (Acc.start (b0:=wr.heap.size) (Sl.of_blk (lo:=wr.heap.size) (hi:=wr.heap.size+1) (size:=1) (n:=1) (Blk.new wr 5 #[.int .u8 (48+(q:Int)%10)]) lr (Nat.lt_succ_self _) rfl (by unfold maxLen;omega)) (fun a ha=>by injection ha with ha;subst ha;rfl) (wr.heap.size+1));clear hd hs hbel
   go_wp2_with (at_builtin;refine zbI rfl _ _ 22 rfl 5 _ 1 1 underlying22 zi1 rfl (by decide) (by decide) acc0.out (by simp) rfl g 0 ds.length c (zaU ds) rfl (by rw[zdR];omega) (fun j u hu=>by rw[Nat.zero_add,hsn.out.cellAt j (by have:=(List.getElem?_eq_some_iff.1 hu).1;rw[zdR] at this;omega)];exact hu) (zgF ds) (by omega) ?_;intro A2 d2 w9 hacc2;rw[Nat.add_comm 1 ds.length] at hacc2;rw[Nat.add_comm 1 ds.length];have HA2:=hid hacc2;clear hacc2)
   have s2:=HA2.out.sl (lo:=w.heap.size) (by omega) (by omega);obtain⟨g2,rfl,_,_,_⟩:=s2.lt (by omega);have HF:=hid ((HB.out.alloc zr (.cells #[.int .u8 (48+(q:Int)%10)] 5)).trans (HA2.out.below (by omega) (by omega)));have HS2:=hid s2;clear s2;go_wp2
   go_roundw
   case rel=>
    have he:[Value.int .u8 (48+(q:Int)%10)]++zaU ds=zaU (UInt8.ofNat (48+q%10)::ds):=by
     show _=Value.int .u8 _::zaU ds;rw[hdc.out]
     rfl
    have h9:=HS2.out;rw[he] at h9;exact⟨q/10,_::ds,g2,d2,rfl,by go_num,by omega,by rw[HD.out,hst.out,List.append_assoc];rfl,h9,HF.out⟩
   case measure=>simp[RowKit.intOf];omega
theorem zpz (n:Int) (w:World) (h0:n < 0) (h1:-9223372036854775808 <= n) :
  Calls prog 173 #[.int .i64 n] w fun e w'=>e= .returned (.string (zab (itoa n)))/\Below w.heap.size w w':=by
 obtain⟨p,rfl⟩:∃p:Nat,n=-(p:Int):=⟨n.natAbs,by omega⟩
 have hit:=hid (show itoa (-(p:Int))=45::dgts p by rw[znf h0,Int.natAbs_neg];rfl);go_enter func173,ntmps173;go_wp2
 go_loopw [3,4,5] (fun s k _ wr=>∃(q:Nat) (ds:List UInt8) (g c:Nat),s= .slice (some ⟨g,0,none⟩) ds.length c/\k= .int .i64 (-(q:Int))/\q<=p/\dgts p=dgts q++ds/\Sl wr w.heap.size wr.heap.size 5 1 (some ⟨g,0,none⟩) ds.length c (zaU ds)/\Below w.heap.size w wr) (fun _ k _ _=>(-(RowKit.intOf k)).toNat)
 case atStart=>exact⟨p,[],_,_,rfl,rfl,Nat.le_refl _,by simp,(Sl.made w 5 1).wide lr (by simp),bal _⟩
 case round=>
  obtain⟨q,ds,g,c,rfl,rfl,hq,hd,hs,hbel⟩:=hrel
  have hlen:ds.length<=19:=by
   have h9:=zgL (u:=p) (by omega);rw[hd,List.length_append] at h9;omega
  have HD:=hid hd;have HB:=hid hbel;have zr:=hbel.size;by_cases hq0:q=0
  ·subst hq0
   have hds:ds.length≠0:=by
    intro h9;rw[List.length_eq_zero_iff.1 h9,zge] at hd;have:=zff (u:=p) (by omega);rw[hd] at this;simp at this
   have hds2:((ds.length:Int)==0)=false:=by rw[beq_eq_false_iff_ne];omega
   have hdd:dgts p=ds:=by rw[hd,zge];rfl
   have hcv:=run_convert_bytes_back (P:=prog) wr 22 9 5 ⟨g,0,none⟩ c ds underlying22 underlying5 underlying9 (fun j hj=>by
    rw[zdE,Nat.zero_add,hs.cellAt j (by rw[Nat.mul_one];exact hj)];simp[zaU,hj])
   have HR:=hid (show itoa (-(p:Int))=[45]++ds by rw[hit.out,hdd];rfl);clear hd hdd hs hbel HD;go_wp2;go_ret;exact⟨by rw[HR.out,<-zee];rfl,HB.out⟩
  ·have hq1:(-(q:Int)==0)=false:=by rw[beq_eq_false_iff_ne];omega
   have hq4:¬(-(q:Int)=0):=by omega
   have hq2:(0:Int)<q:=by omega
   have hq3:(q:Int)<=9223372036854775808:=by omega
   by_cases hz:(q:Int)%10=0
   ·have hz0:=hz;have hrm:(-(q:Int)).tmod 10=0:=by rw[Int.neg_tmod,Int.tmod_eq_emod_of_nonneg (by omega),hz];rfl
    have hqu:(-(q:Int)).tdiv 10=-((q:Int)/10):=by rw[Int.neg_tdiv,Int.tdiv_eq_ediv_of_nonneg (by omega)]
    have hst:=hid (zff hq0);have hdc:=hid (zjg (d:=q%10) (by omega));have hsn:=hid (Sl.on hs ((Below.refl wr.heap.size wr).alloc lr (.cells #[.int .u8 48] 5)));have acc0:=hid (Acc.start (b0:=wr.heap.size) (Sl.of_blk (lo:=wr.heap.size) (hi:=wr.heap.size+1) (size:=1) (n:=1) (Blk.new wr 5 #[.int .u8 48]) lr (Nat.lt_succ_self _) rfl (by unfold maxLen;omega)) (fun a ha=>by injection ha with ha;subst ha;rfl) (wr.heap.size+1));have HZ:=hid hz;clear hd hs hbel hz hz0
    go_wp2_with (at_builtin;refine zbI rfl _ _ 22 rfl 5 _ 1 1 underlying22 zi1 rfl (by decide) (by decide) acc0.out (by simp) rfl g 0 ds.length c (zaU ds) rfl (by rw[zdR];omega) (fun j u hu=>by rw[Nat.zero_add,hsn.out.cellAt j (by have:=(List.getElem?_eq_some_iff.1 hu).1;rw[zdR] at this;omega)];exact hu) (zgF ds) (by omega) ?_;intro A2 d2 w9 hacc2;rw[Nat.add_comm 1 ds.length] at hacc2;rw[Nat.add_comm 1 ds.length];have HA2:=hid hacc2;clear hacc2)
    have s2:=HA2.out.sl (lo:=w.heap.size) (by omega) (by omega);obtain⟨g2,rfl,_,_,_⟩:=s2.lt (by omega);have HF:=hid ((HB.out.alloc zr (.cells #[.int .u8 48] 5)).trans (HA2.out.below (by omega) (by omega)));have HS2:=hid s2;clear s2;go_wp2
    go_roundw
    case rel=>
     have he:[Value.int .u8 48]++zaU ds=zaU (UInt8.ofNat (48+q%10)::ds):=by
      show _=Value.int .u8 _::zaU ds;rw[hdc.out,show((q%10:Nat):Int)=0 by have:=HZ.out;omega]
      rfl
     have h9:=HS2.out;rw[he] at h9;exact⟨q/10,_::ds,g2,d2,rfl,by rw[Int.natCast_ediv];rfl,by omega,by rw[HD.out,hst.out,List.append_assoc];rfl,h9,HF.out⟩
    case measure=>simp[RowKit.intOf];omega
   ·have hz1:0<(q:Int)%10:=by omega
    have hrm:(-(q:Int)).tmod 10=-((q:Int)%10):=by rw[Int.neg_tmod,Int.tmod_eq_emod_of_nonneg (by omega)]
    have hqu:(-(q:Int)).tdiv 10=-((q:Int)/10):=by rw[Int.neg_tdiv,Int.tdiv_eq_ediv_of_nonneg (by omega)]
    have hst:=hid (zff hq0);have hdc:=hid (zjg (d:=q%10) (by omega))
    have hc8:IntKind.u8.wrap (48+(q:Int)%10)=48+(q:Int)%10:=by
     unfold IntKind.wrap;simp[IntKind.bits,IntKind.signed];omega
    have hsn:=hid (Sl.on hs ((Below.refl wr.heap.size wr).alloc lr (.cells #[.int .u8 (48+(q:Int)%10)] 5)));have acc0:=hid (Acc.start (b0:=wr.heap.size) (Sl.of_blk (lo:=wr.heap.size) (hi:=wr.heap.size+1) (size:=1) (n:=1) (Blk.new wr 5 #[.int .u8 (48+(q:Int)%10)]) lr (Nat.lt_succ_self _) rfl (by unfold maxLen;omega)) (fun a ha=>by injection ha with ha;subst ha;rfl) (wr.heap.size+1));clear hd hs hbel
    go_wp2_with (at_builtin;refine zbI rfl _ _ 22 rfl 5 _ 1 1 underlying22 zi1 rfl (by decide) (by decide) acc0.out (by simp) rfl g 0 ds.length c (zaU ds) rfl (by rw[zdR];omega) (fun j u hu=>by rw[Nat.zero_add,hsn.out.cellAt j (by have:=(List.getElem?_eq_some_iff.1 hu).1;rw[zdR] at this;omega)];exact hu) (zgF ds) (by omega) ?_;intro A2 d2 w9 hacc2;rw[Nat.add_comm 1 ds.length] at hacc2;rw[Nat.add_comm 1 ds.length];have HA2:=hid hacc2;clear hacc2)
    have s2:=HA2.out.sl (lo:=w.heap.size) (by omega) (by omega);obtain⟨g2,rfl,_,_,_⟩:=s2.lt (by omega);have HF:=hid ((HB.out.alloc zr (.cells #[.int .u8 (48+(q:Int)%10)] 5)).trans (HA2.out.below (by omega) (by omega)));have HS2:=hid s2;clear s2;go_wp2
    go_roundw
    case rel=>
     have he:[Value.int .u8 (48+(q:Int)%10)]++zaU ds=zaU (UInt8.ofNat (48+q%10)::ds):=by
      show _=Value.int .u8 _::zaU ds;rw[hdc.out]
      rfl
     have h9:=HS2.out;rw[he] at h9;exact⟨q/10,_::ds,g2,d2,rfl,by rw[Int.natCast_ediv];rfl,by omega,by rw[HD.out,hst.out,List.append_assoc];rfl,h9,HF.out⟩
    case measure=>simp[RowKit.intOf];omega
theorem zbj (n:Int) (w:World) (h0:-9223372036854775808 <= n) (h1:n <= 9223372036854775807) :
  Calls prog 173 #[.int .i64 n] w fun e w'=>e= .returned (.string (zab (itoa n)))/\Below w.heap.size w w':=by
 rcases Int.lt_trichotomy n 0 with h|h|h
 ·exact zpz n w h h0
 ·subst h;rw[zl4];go_enter func173,ntmps173;go_wp2
  go_loopw [3,4] (fun s k wr=>s= .slice (some ⟨w.heap.size,0,none⟩) 0 0/\k= .int .i64 0/\Below w.heap.size w wr) (fun _ k _=>(RowKit.intOf k).toNat)
  case atStart=>exact⟨rfl,rfl,bal _⟩
  case round=>
   obtain⟨rfl,rfl,hbel⟩:=hrel;go_wp2;go_ret;exact⟨rfl,hbel⟩
 ·exact zp0 n w h h1
end
section
open Go.RowKit Go.ChangeShapes Go.WideShapes Go.Deep Go.Proofs.Tryz
structure Rn where
 way:List Int
 st:Int
structure RnH where
 A:Option Addr
 m:Nat
 c:Nat
 st:Int
def zd7(h:RnH):List Value:=[.slice h.A h.m h.c,.int .i64 h.st]
def rns(l:List RnH):List Value:=l.flatMap zd7
theorem zc1(l:List RnH):(rns l).length=l.length*2:=zcZ zd7 2 (fun _=>rfl) l
theorem zeP{l:List RnH}{k:Nat}{x:RnH}(h:l[k]?=some x):(rns l)[k*2]?=some (.slice x.A x.m x.c)/\(rns l)[k*2+1]?=some (.int .i64 x.st):=
 ⟨zce zd7 2 (fun _=>rfl) l k x h 0 (by omega),zce zd7 2 (fun _=>rfl) l k x h 1 (by omega)⟩
def zgE(w:World)(B:Nat)(h:RnH)(r:Rn):Prop:=h.st=r.st/\h.m<=9223372036854775807/\zad w B 1 h.A h.m (ints r.way)
def zaC(w:World)(B:Nat)(A:Option Addr)(n:Nat)(rs:List Rn):Prop:=
 ∃hs:List RnH,zad w B 2 A n (rns hs)/\rs.length=n/\∀(k:Nat) (h:RnH) (r:Rn),hs[k]?=some h->rs[k]?=some r->zgE w B h r
section
variable {w w':World}{B B' n k:Nat}{A:Option Addr}{rs:List Rn}{h:RnH}{r:Rn}
theorem zgE.on(hr:zgE w B h r)(hB:B<=w.heap.size)(hb:Below w.heap.size w w'):zgE w' B h r:=⟨hr.1,hr.2.1,hr.2.2.on hB hb⟩
theorem zgE.more(hr:zgE w B h r)(hB:B<=B'):zgE w B' h r:=⟨hr.1,hr.2.1,hr.2.2.more hB⟩
theorem zaC.len(hr:zaC w B A n rs):rs.length=n:=by obtain⟨hs,_,h2,_⟩:=hr;exact h2
theorem zaC.on(hr:zaC w B A n rs)(hB:B<=w.heap.size)(hb:Below w.heap.size w w'):zaC w' B A n rs:=by
 obtain⟨hs,h1,h2,h3⟩:=hr;exact⟨hs,h1.on hB hb,h2,fun k h r e1 e2=>(h3 k h r e1 e2).on hB hb⟩
theorem zaC.more(hr:zaC w B A n rs)(hB:B<=B'):zaC w B' A n rs:=by
 obtain⟨hs,h1,h2,h3⟩:=hr;exact⟨hs,h1.more hB,h2,fun k h r e1 e2=>(h3 k h r e1 e2).more hB⟩
theorem zaC.drewN(hr:zaC w B A n rs)(q:Nat):zaC (w.drewN q) B A n rs:=by
 obtain⟨hs,h1,h2,h3⟩:=hr;exact⟨hs,h1.keep fun _ _=>rfl,h2,fun k h r e1 e2=>⟨(h3 k h r e1 e2).1,(h3 k h r e1 e2).2.1,(h3 k h r e1 e2).2.2.keep fun _ _=>rfl⟩⟩
theorem zcn(hr:zaC w B A n rs)(hk:k<n):∃(r:Rn) (b off:Nat) (A':Option Addr) (m c:Nat),rs[k]?=some r/\A=some ⟨b,off,none⟩/\b<B/\w.cell? ⟨b,off+k*2,none⟩=some (.slice A' m c)/\w.cell? ⟨b,off+k*2+1,none⟩=some (.int .i64 r.st)/\zad w B 1 A' m (ints r.way)/\m<=9223372036854775807:=by
 obtain⟨hs,h1,h2,h3⟩:=hr;obtain⟨b,off,rfl,hb,hcell⟩:=h1.at_ (by omega);have hl:=h1.1;rw[zc1] at hl;have he:hs[k]?=some (hs[k]'(by omega)):=List.getElem?_eq_getElem (by omega);have he':rs[k]?=some (rs[k]'(by omega)):=List.getElem?_eq_getElem (by omega);obtain⟨e0,e1⟩:=zeP he;obtain⟨r1,r3,r2⟩:=h3 _ _ _ he he';exact⟨_,b,off,_,_,_,he',rfl,hb,hcell _ _ e0,by rw[<-r1];exact hcell _ _ e1,r2,r3⟩
end
theorem zqN(l:List Int):l.flatMap (fun x=>[Value.int .i64 x])=ints l:=by
 induction l with
 |nil=>rfl
 |cons a l ih=>simp[ints] at ih⊢;exact ih
section
variable {H:Type}{enc:TypeId×Value->H}{w:World}
theorem zlM {n:Nat} {cs:List Value} {y:DataW H × List MemPlace} {base:Nat} {spare:Nat -> Bool} {held:Bool} (h:DataW.trod enc prog w base spare held n 29 cs = some y) :
  ∃(A:Option Addr) (len cap:Nat) (l:List Int),cs=[.slice A len cap]/\len<=9223372036854775807/\zad w w.heap.size 1 A len (ints l)/\∀x∈l,I64 x:=by
 obtain⟨A',len',cap',l,hcs,hn,hr,hg⟩:=zia (fun x:Int=>[Value.int .i64 x]) 1 I64 (fun _=>rfl) underlying29 (by kernel_rfl) (by omega) (fun n cs' y hl ht=>by
  obtain⟨v,rfl⟩:=List.length_eq_one_iff.1 hl;obtain⟨x0,rfl,hw⟩:=zep underlying2 ht;exact⟨x0,rfl,zfe hw⟩) h
 rw[zqN] at hr;exact⟨_,_,_,_,hcs,hn,hr,hg⟩
def Rn.good(x:RnH×List Int)(w:World):Prop:=I64 x.1.st/\x.1.m<=9223372036854775807/\zad w w.heap.size 1 x.1.A x.1.m (ints x.2)
theorem ztw {n:Nat} {cs:List Value} {y:DataW H × List MemPlace} {base:Nat} {spare:Nat -> Bool} {held:Bool} (hl:cs.length = 2)
  (h:DataW.trod enc prog w base spare held n 162 cs=some y):∃x:RnH×List Int,zd7 x.1=cs/\Rn.good x w:=by
 obtain⟨n',hfs⟩:=zg3 underlying162 (by kernel_rfl) hl h;obtain⟨v0,z0,e0,t0⟩:=hfs 0 _ rfl;obtain⟨v1,z1,e1,t1⟩:=hfs 1 _ rfl;obtain⟨A,m,c,l,ee,hm,hr,_⟩:=zlM t0;obtain⟨x1,rfl,g1⟩:=zep underlying2 t1;injection ee with ee _;subst ee;exact⟨(⟨A,m,c,x1⟩,l),(zsG hl e0 e1).symm,zfe g1,hm,hr⟩
theorem zrm {fuel:Nat} {cs:List Value} {y:DataW H × List MemPlace} {base:Nat} {spare:Nat -> Bool} {held:Bool} (h:DataW.trod enc prog w base spare held fuel 44 cs = some y) :
  ∃(A:Option Addr) (len cap:Nat) (rs:List Rn),cs=[.slice A len cap]/\len<=9223372036854775807/\zaC w w.heap.size A len rs/\∀r∈rs,I64 r.st:=by
 obtain⟨A',len',cap',l,hcs,hn,hr,hgd⟩:=zia (fun x:RnH×List Int=>zd7 x.1) 2 (fun x=>Rn.good x w) (fun _=>rfl) underlying44 (by kernel_rfl) (by omega) (fun n cs' y hl ht=>by
  exact ztw hl ht) h
 have e:l.flatMap (fun x:RnH×List Int=>zd7 x.1)=rns (l.map (·.1)):=by rw[rns,List.flatMap_map]
 rw[e] at hr;have hlen:=hr.1;rw[zc1,List.length_map] at hlen;refine⟨_,_,_,l.map (fun x=>⟨x.2,x.1.st⟩),hcs,hn,⟨_,hr,by rw[List.length_map];omega,fun k h r e1 e2=>?_⟩,fun r hr=>?_⟩
 ·rw[List.getElem?_map] at e1 e2;rcases hx:l[k]? with _|x
  ·rw[hx] at e1;cases e1
  ·rw[hx] at e1 e2;injection e1 with e1;injection e2 with e2;subst e1 e2;have hg:=hgd x (List.mem_of_getElem? hx);exact⟨rfl,hg.2.1,hg.2.2⟩
 ·obtain⟨x,hx,rfl⟩:=List.mem_map.1 hr;exact(hgd x hx).1
end
def zbM(rs:List Rn):Prop:=∀(k:Nat) (r:Rn),rs[k]?=some r->r.way.length<=1048576
theorem zr7 (A:Option Addr) (m c:Nat) (st q:Int) (w:World) (hq0:0 <= q) (hq:q <= 1048576) (hm:m <= 9223372036854775807) :
  Calls prog 116 #[.agg #[.slice A m c,.int .i64 st],.int .i64 q] w fun e w'=>∃r:Int,e= .returned (.int .i64 r)/\Below w.heap.size w w'/\(r<0\/(0<=r/\r<=q/\(m:Int)<=q)):=by
 go_enter func116,ntmps116
 go_wp2_with fail
 refine(zip A m c q _ hq0 hq hm).mono ?_;rintro e w1 ⟨rfl,r,rfl,hr⟩;rcases hr with hr|⟨h0,h1,h2⟩
 ·go_wp2;go_ret;exact⟨_,rfl,bal _,.inl (by omega)⟩
 ·go_wp2;go_ret;exact⟨_,rfl,bal _,.inr ⟨h0,h1,h2⟩⟩
theorem zql (A:Option Addr) (n c:Nat) (rs:List Rn) (q:Int) (B:Nat) (w:World) (h:zaC w B A n rs) (hq0:0 <= q) (hq:q <= 1048576) (hn:n <= 9223372036854775807) (hB:B <= w.heap.size) :
  Calls prog 47 #[.slice A n c,.int .i64 q] w fun e w'=>∃r:Int,e= .returned (.int .i64 r)/\Below w.heap.size w w'/\(r<0\/(0<=r/\r<=q/\(n:Int)<=q/\zbM rs)):=by
 have HL:=hid h.len;by_cases hnq:(n:Int)<=q
 ·go_enter func47,ntmps47;go_wp2
  go_loopw [1,5] (fun s i wr=>∃(k:Nat) (r:Int),k<=n/\i= .int .i64 k/\s= .int .i64 r/\0<=r/\r<=q/\(∀(j:Nat) (x:Rn),j<k->rs[j]?=some x->x.way.length<=1048576)/\Below w.heap.size w wr) (fun _ i _=>n-(RowKit.intOf i).toNat)
  case atStart=>exact⟨0,_,Nat.zero_le _,rfl,rfl,by omega,by omega,fun j x hj _=>by omega,Below.refl _ _⟩
  case round=>
   obtain⟨k,r,hk,rfl,rfl,hr0,hr1,hall,hbel⟩:=hrel;have HA:=hid hall;have HB:=hid hbel;clear hall;by_cases hlt:k<n
   ·obtain⟨x,b,off,A',m,c',he,rfl,hb,c0,c1,hrd,hm⟩:=zcn (h.on hB hbel) hlt;have HE:=hid he;have HM:=hid (zai hrd);clear he hbel h hrd
    go_wp2_with fail
    refine(zr7 A' m c' x.st r _ (by omega) (by omega) hm).mono ?_;rintro e w1 ⟨r1,rfl,b1,hr⟩;have HB1:=hid (zac HB.out b1 lr);clear b1 c0 c1;rcases hr with hr|⟨hr2,hr3,hsm⟩
    ·go_wp2;go_ret;exact⟨_,rfl,HB1.out,.inl (by omega)⟩
    ·have HS:=hid hsm;clear hsm;go_wp2
     go_roundw
     case rel=>
      refine⟨k+1,_,by omega,by go_num,rfl,by omega,by omega,fun j y hj hy=>?_,HB1.out⟩;by_cases e:j=k
      ·subst e;have:=HE.out;rw[this] at hy;injection hy with hy;subst hy;have:=HS.out;have:=HM.out;omega
      ·exact HA.out j y (by omega) hy
     case measure=>simp[RowKit.intOf];omega
   ·obtain rfl:k=n:=by omega
    go_wp2;go_ret;refine⟨_,rfl,HB.out,.inr ⟨hr0,hr1,hnq,fun j x hx=>?_⟩⟩;exact HA.out j x (by have:=(List.getElem?_eq_some_iff.1 hx).1;have:=HL.out;omega) hx
 ·go_enter func47,ntmps47;go_wp2;go_ret;exact⟨_,rfl,Below.refl _ _,.inl (by omega)⟩
end
section
open Go.RowKit Go.Lib
theorem zk4(s:ByteArray):strCells s=zaU s.data.toList:=by simp[strCells,zaU]
theorem zjB(a b:List UInt8):zaU a++zaU b=zaU (a++b):=by simp[zaU]
theorem zm6 {P:Program} {ops:Array Oper} {rest:List Oper} {o:Oper} {a:Act} {Q:Exit -> Act -> World -> Prop} (hgd:o.guard = none) (sl x:Operand) (t u:TypeId)
  (ho:o.op= .call {callee:=.builtin .append,args:=#[sl,x],argTypes:=#[t,u]})
  (e:TypeId) (ht:P.underlying t=some (.slice e)) (hu:P.underlying u=some .string) (hinfo:(P.info? e).map (fun i=>(i.zero,i.size,i.bytes))=some (some (.int .u8 0),1,1))
  {z:Nat}{w wr:World}{A:Option Addr}{m c:Nat}{xs:List UInt8} (h:Acc z z e 1 w wr A m c (zaU xs)) (hzw:z<=w.heap.size) (hs:a.eval sl= .slice A m c)
  (s:ByteArray) (hx:a.eval x= .string s) (hm:m+s.size<100000000000000)
  (K:∀A' c' w1,Acc z z e 1 w w1 A' (m+s.size) c' (zaU (xs++s.data.toList))->wpList P ops Q rest (a.put o.dst (.slice A' (m+s.size) c')) w1):wpList P ops Q (o::rest) a wr:=by
 obtain⟨i,hi,hz,hsize,hby⟩:=info_parts hinfo;have hzr:z<=wr.heap.size:=Nat.le_trans hzw h.size;refine wpList_append_own_string (P:=P) wr hgd sl x t u ho z e i ht hu hi hz hsize hby _ m (zaU xs) hs (h.sl (lo:=z) lr lr).1 s hx (by unfold maxLen;omega) (by omega) hzr ?_;intro v' w' hown hgrow _;rw[zk4,zjB] at hown
 have hrest:∀q,q<z->q≠z->w'.heap[q]?=w.heap[q]?:=fun q hq hne=>by
  rw[hgrow.block q (by omega) (fun ee=>?_)]
  ·exact h.block q hq hne
  ·cases A with
   |none=>simp[Value.ownBlock] at ee
   |some ad=>
    simp[Value.ownBlock] at ee;rcases h.at_ ad rfl with e1|e1<;>omega
 have hsz':w.heap.size<=w'.heap.size:=Nat.le_trans h.size hgrow.size;have hrow:=zlL hown;rcases hown.2 with ⟨hv,hn⟩|⟨g,cap,cur,hv,hb',hgg,hrest'⟩
 ·subst hv;rw[show(Value.slice none 0 0)= .slice none (m+s.size) 0 from by rw[hn]];exact K _ _ _ ⟨by rw[hn] at hrow⊢;exact hrow,(fun ad had=>by cases had),by have:=hgrow.os;rw[this];exact h.os,by have:=hgrow.tape;rw[this];exact h.tape,by have:=hgrow.output;rw[this];exact h.output,hsz',hrest⟩
 ·subst hv;exact K _ _ _ ⟨hrow,fun ad had=>by injection had with had;subst had;exact .inr hb',by have:=hgrow.os;rw[this];exact h.os,by have:=hgrow.tape;rw[this];exact h.tape,by have:=hgrow.output;rw[this];exact h.output,hsz',hrest⟩
end
section
open Go.RowKit
end
section
open Go.RowKit Go.Proofs.Tryz
theorem zfF(w:World)(o:Obj):(w.alloc o).heap.size=w.heap.size+1:=by simp
theorem zdf(w:World)(a b c:Array Value)(ta tb tc:TypeId):∃W,W=((w.alloc (.cells a ta)).alloc (.cells b tb)).alloc (.cells c tc)/\W.heap.size=w.heap.size+1+1+1/\Blk W w.heap.size ta a/\Blk W (w.heap.size+1) tb b/\Blk W (w.heap.size+1+1) tc c/\Below w.heap.size w W:=by
 refine⟨_,rfl,by simp,((Blk.new _ _ _).alloc _).alloc _,?_,?_,((bal _).alloc (by simp) _).alloc (by simp;omega) _⟩
 ·have:=(Blk.new (w.alloc (.cells a ta)) tb b).alloc (.cells c tc);rwa[zfF] at this
 ·have:=Blk.new ((w.alloc (.cells a ta)).alloc (.cells b tb)) tc c;rwa[zfF,zfF] at this
theorem zmc (A:Option Addr) (m c B:Nat) (st:Int) (l:List Int) (w:World) (h:zad w B 1 A m (ints l)) (hB:B <= w.heap.size) (hm:m <= 1048576) :
  Calls prog 120 #[.agg #[.slice A m c,.int .i64 st]] w fun e w'=>∃g,e= .returned (.agg #[.slice (some ⟨g,0,none⟩) m m,.int .i64 st])/\Sl w' w.heap.size w'.heap.size 2 1 (some ⟨g,0,none⟩) m m (ints l)/\Below w.heap.size w w':=by
 obtain⟨W,hW,hs,k0,k1,k2,hb⟩:=zdf w #[.slice A m c,.int .i64 st] #[.slice none 0 0,.int .i64 0] #[.slice none 0 0,.int .i64 0] 162 123 123;have HW:=hid hW;have HS:=hid hs;have HK0:=hid k0;have HK1:=hid k1;have HK2:=hid k2;have HB:=hid hb;clear hW hs k0 k1 k2 hb;go_enter func120,ntmps120
 go_wp2_with fail
 rw[<-HW.out];refine(zgb A m c B l W (h.on hB HB.out) (by have:=HS.out;omega) hm).mono ?_;rintro e w1 ⟨g,rfl,s1,b1⟩;have a0:=(HK0.out.on b1).cellAt 1 (by simp);have a1:=(HK2.out.on b1).cellAt 0 (by simp);have f1:=(HK2.out.on b1).frozen 0;have a2:=(HK2.out.on b1).cellAt 1 (by simp);have f2:=(HK2.out.on b1).frozen 1;have a3:=(HK1.out.on b1).cellAt 0 (by simp);have f3:=(HK1.out.on b1).frozen 0;have a4:=(HK1.out.on b1).cellAt 1 (by simp);have f4:=(HK1.out.on b1).frozen 1;have S1:=hid s1;have HB1:=hid b1;clear s1 b1;go_wp2
 obtain⟨WF,hWF⟩:∃WF,WF=(((w1.setCell ⟨w.heap.size+1+1,0,none⟩ (.slice (some ⟨g,0,none⟩) m m)).setCell ⟨w.heap.size+1+1,1,none⟩ (.int .i64 st)).setCell ⟨w.heap.size+1,0,none⟩ (.slice (some ⟨g,0,none⟩) m m)).setCell ⟨w.heap.size+1,1,none⟩ (.int .i64 st):=⟨_,rfl⟩
 have KF:Blk WF (w.heap.size+1) 123 #[.slice (some ⟨g,0,none⟩) m m,.int .i64 st]:=by
  rw[hWF];exact(((((HK1.out.on HB1.out).far (p:=⟨w.heap.size+1+1,0,none⟩) (by simp) _).far (p:=⟨w.heap.size+1+1,1,none⟩) (by simp) _).set_ 0 _).set_ 1 _)
 have hO:Only w.heap.size W.heap.size w1 WF:=by
  rw[hWF];have:=HS.out;exact((((Only.refl _ _ _).setCell (by simp;omega) (by simp;omega) _).setCell (by simp;omega) (by simp;omega) _).setCell (by simp) (by simp;omega) _).setCell (by simp) (by simp;omega) _
 rw[<-hWF];have r0:=KF.cellAt 0 (by simp);have r1:=KF.cellAt 1 (by simp);simp only[ly] at r0 r1;clear hWF a0 a1 a2 a3 a4 f1 f2 f3 f4;refine bodyPost_ret (v:=.agg #[.slice (some ⟨g,0,none⟩) m m,.int .i64 st]) (by simp[results,results120,go_sem,r0,r1]) rfl ?_;exact⟨g,rfl,(S1.out.apart hO (.inr lr)).wide (by have:=HS.out;omega) hO.size,zbN (zac HB.out HB1.out lr) hO lr lr⟩
theorem zoW(n:Nat)(hn:n<=1048576):∀w:World,(Instr.makeSlice 30 (.int .i64 (n:Int)) (.int .i64 (n:Int))).run prog w= .ok (.slice (some ⟨w.heap.size,0,none⟩) n n) (w.alloc (.cells (madeCells #[.slice none 0 0,.int .i64 0] (n*2)) 123)):=
 zc9 30 123 (.agg #[.slice none 0 0,.int .i64 0]) 2 32 underlying30 (by kernel_rfl) (by decide) n hn
def zcx(w:World)(lo:Nat)(rs:List Rn)(cs:Array Value)(k:Nat):Prop:=
 ∃hs:List RnH,hs.length=k/\Fill cs (rns hs) (k*2)/\∀(j:Nat) (h:RnH) (r:Rn),hs[j]?=some h->rs[j]?=some r->h.st=r.st/\h.m<=9223372036854775807/\Sl w lo w.heap.size 2 1 h.A h.m h.c (ints r.way)
theorem zcx.zero(w:World)(lo:Nat)(rs:List Rn)(cs:Array Value):zcx w lo rs cs 0:=⟨[],rfl,Fill.zero _ _,fun j h r h1 _=>by simp at h1⟩
theorem zcx.on{w w':World}{lo:Nat}{rs:List Rn}{cs:Array Value}{k:Nat}(h:zcx w lo rs cs k)(hb:Below w.heap.size w w'):zcx w' lo rs cs k:=by
 obtain⟨hs,h1,h2,h3⟩:=h;exact⟨hs,h1,h2,fun j h r e1 e2=>⟨(h3 j h r e1 e2).1,(h3 j h r e1 e2).2.1,((h3 j h r e1 e2).2.2.on hb).wide lr hb.size⟩⟩
theorem zcx.set_{w:World}{lo:Nat}{rs:List Rn}{cs:Array Value}{k:Nat}(h:zcx w lo rs cs k){p:Addr}(hp:p.block<lo)(u:Value):zcx (w.setCell p u) lo rs cs k:=by
 obtain⟨hs,h1,h2,h3⟩:=h;have hO:Only p.block (p.block+1) w (w.setCell p u):=(Only.refl _ _ _).setCell lr (Nat.lt_succ_self _) _;exact⟨hs,h1,h2,fun j h r e1 e2=>⟨(h3 j h r e1 e2).1,(h3 j h r e1 e2).2.1,((h3 j h r e1 e2).2.2.apart hO (.inr (by omega))).wide lr hO.size⟩⟩
theorem zcx.step {w:World} {lo:Nat} {rs:List Rn} {cs:Array Value} {k m c:Nat} {A:Option Addr} {r:Rn} (h:zcx w lo rs cs k) (hr:rs[k]? = some r) (hm:m <= 9223372036854775807) (hd:Sl w lo w.heap.size 2 1 A m c (ints r.way)) (hcs:k * 2 + 1 < cs.size) :
  zcx w lo rs ((cs.setIfInBounds (k*2) (.slice A m c)).setIfInBounds (k*2+1) (.int .i64 r.st)) (k+1):=by
 obtain⟨hs,h1,h2,h3⟩:=h;have hk:(hs++ [⟨A,m,c,r.st⟩])[k]?=some (⟨A,m,c,r.st⟩:RnH):=by rw[<-h1];simp
 have hF:Fill cs (rns (hs++ [⟨A,m,c,r.st⟩])) (k*2):=fun j hj=>by
  rw[h2 j hj,rns,rns,List.flatMap_append,List.getElem?_append_left (by have:=zc1 hs;unfold rns at this;omega)]
 obtain⟨e0,e1⟩:=zeP hk;refine⟨hs++ [⟨A,m,c,r.st⟩],by simp[h1],?_,fun j h r' g1 g2=>?_⟩
 ·rw[show(k+1)*2=k*2+1+1 from by omega];exact(hF.step e0 (by omega)).step e1 (by simp;omega)
 ·by_cases e:j<hs.length
  ·rw[List.getElem?_append_left e] at g1;exact h3 j h r' g1 g2
  ·have hj:=(List.getElem?_eq_some_iff.1 g1).1;simp at hj;obtain rfl:j=k:=by omega
   rw[hk] at g1;injection g1 with g1;subst g1;rw[hr] at g2;injection g2 with g2;subst g2;exact⟨rfl,hm,hd⟩
def zdP(w:World)(lo hi:Nat)(A:Option Addr)(n c:Nat)(rs:List Rn):Prop:=
 ∃hs:List RnH,Sl w lo hi 123 2 A n c (rns hs)/\rs.length=n/\∀(k:Nat) (h:RnH) (r:Rn),hs[k]?=some h->rs[k]?=some r->h.st=r.st/\h.m<=9223372036854775807/\Sl w lo hi 2 1 h.A h.m h.c (ints r.way)
section
variable {w w':World}{lo hi lo' hi' B n c:Nat}{A:Option Addr}{rs:List Rn}
theorem zdP.on(h:zdP w lo hi A n c rs)(hb:Below w.heap.size w w'):zdP w' lo hi A n c rs:=by
 obtain⟨hs,h1,h2,h3⟩:=h;exact⟨hs,h1.on hb,h2,fun k h r e1 e2=>⟨(h3 k h r e1 e2).1,(h3 k h r e1 e2).2.1,(h3 k h r e1 e2).2.2.on hb⟩⟩
theorem zdP.apart(h:zdP w lo hi A n c rs)(ho:Only lo' hi' w w')(hd:hi<=lo'\/hi'<=lo):zdP w' lo hi A n c rs:=by
 obtain⟨hs,h1,h2,h3⟩:=h;exact⟨hs,h1.apart ho hd,h2,fun k h r e1 e2=>⟨(h3 k h r e1 e2).1,(h3 k h r e1 e2).2.1,(h3 k h r e1 e2).2.2.apart ho hd⟩⟩
theorem zdP.wide(h:zdP w lo hi A n c rs)(h1:lo'<=lo)(h2:hi<=hi'):zdP w lo' hi' A n c rs:=by
 obtain⟨hs,g1,g2,g3⟩:=h;exact⟨hs,g1.wide h1 h2,g2,fun k h r e1 e2=>⟨(g3 k h r e1 e2).1,(g3 k h r e1 e2).2.1,(g3 k h r e1 e2).2.2.wide h1 h2⟩⟩
theorem zdP.reads(h:zdP w lo hi A n c rs)(hB:hi<=B):zaC w B A n rs:=by
 obtain⟨hs,g1,g2,g3⟩:=h;exact⟨hs,g1.reads hB,g2,fun k h r e1 e2=>⟨(g3 k h r e1 e2).1,(g3 k h r e1 e2).2.1,(g3 k h r e1 e2).2.2.reads hB⟩⟩
end
theorem zcx.done{w:World}{lo lo':Nat}{rs:List Rn}{cs:Array Value}{k g:Nat}(h:zcx w lo rs cs k)(hb:Blk w g 123 cs)(hc:cs.size=k*2)(hr:rs.length=k)(h1:lo'<=g)(h2:lo'<=lo)(hk:k<=maxLen):zdP w lo' w.heap.size (some ⟨g,0,none⟩) k k rs:=by
 obtain⟨hs,g1,g2,g3⟩:=h;have hg:=hb.lt;refine⟨hs,?_,hr,fun j h r e1 e2=>⟨(g3 j h r e1 e2).1,(g3 j h r e1 e2).2.1,(g3 j h r e1 e2).2.2.wide h2 lr⟩⟩;rw[g2.done hc (by rw[zc1];omega)] at hb;exact Sl.of_blk hb h1 hg (by rw[zc1];omega) hk
theorem zqo (A:Option Addr) (n c B:Nat) (rs:List Rn) (w:World) (h:zaC w B A n rs) (hB:B <= w.heap.size) (hn:n <= 1048576) (hsm:zbM rs) :
  Calls prog 51 #[.slice A n c] w fun e w'=>∃g,e= .returned (.slice (some ⟨g,0,none⟩) n n)/\zdP w' w.heap.size w'.heap.size (some ⟨g,0,none⟩) n n rs/\Below w.heap.size w w':=by
 have hmk:=zoW n hn;have HSM:=hid hsm;clear hsm;go_enter func51,ntmps51;go_wp2;have hb0:=Blk.new w 123 (madeCells #[.slice none 0 0,.int .i64 0] (n*2))
 go_loopw [4] (fun i wr=>∃(k:Nat) (cs:Array Value),k<=n/\i= .int .i64 k/\Blk wr w.heap.size 123 cs/\cs.size=n*2/\zcx wr (w.heap.size+1) rs cs k/\Below w.heap.size w wr) (fun i _=>n-(RowKit.intOf i).toNat)
 case atStart=>exact⟨0,_,Nat.zero_le _,rfl,hb0,size_madeCells _ _,zcx.zero _ _ _ _,bal _⟩
 case round=>
  obtain⟨k,cs,hk,rfl,hblk,hcs,hfill,hbel⟩:=hrel;clear hmk hb0;have HF:=hid hfill;have HC:=hid hcs;have HBk:=hid hblk;have hgl:=hblk.lt;clear hfill hcs hblk;by_cases hlt:k<n
  ·obtain⟨x,b,off,A',m,c',he,rfl,hb,c0,c1,hrd,hm⟩:=zcn (h.on hB hbel) hlt;have HE:=hid he;have hm2:m<=1048576:=by have:=HSM.out k x he;have:=zai hrd;omega
   have HR:=hid (hrd.more (B':=wr.heap.size) (Nat.le_trans hB hbel.size));have HB:=hid hbel;clear he hbel hrd
   go_wp2_with fail
   refine(zmc A' m c' _ x.st x.way _ HR.out lr hm2).mono ?_;rintro e w1 ⟨g',rfl,hr1,hb1⟩;have hblk1:=HBk.out.below hb1 hgl;have hs0:=hblk1.cellAt (k*2) (by have:=HC.out;omega);have f0:=hblk1.frozen (k*2);have hs1:=hblk1.cellAt (k*2+1) (by have:=HC.out;omega);have f1:=hblk1.frozen (k*2+1);have HB1:=hid hb1;have HR1:=hid hr1;have HBk1:=hid hblk1;clear hb1 hr1 hblk1;go_wp2
   go_roundw
   case rel=>
    refine⟨k+1,_,by omega,by go_num,(HBk1.out.set_ _ _).set_ _ _,by simp[HC.out],?_,((zac HB.out HB1.out lr).setCell lr _).setCell lr _⟩;refine((zcx.step (HF.out.on HB1.out) HE.out (by omega) (HR1.out.wide (by have:=HBk.out.lt;omega) lr) (by have:=HC.out;omega)).set_ ?_ _).set_ ?_ _<;>exact Nat.lt_succ_self _
   case measure=>simp[RowKit.intOf];omega
  ·obtain rfl:k=n:=by omega
   go_wp2;go_ret;exact⟨_,rfl,HF.out.done HBk.out HC.out h.len lr (Nat.le_succ _) (by unfold maxLen;omega),hbel⟩
end
section
open Go.RowKit Go.Proofs.Tryz
def okEn(x:En):Bool:=inR x.day 0 100000&&zaZ x.what&&inR x.val (-1000000) 1000000
theorem zes (x:En) (b:Nat) (w:World) (hs:x.what.size <= 9223372036854775807) (c0:w.cell? ⟨b,0,none⟩ = some (.int .i64 x.day)) (c1:w.cell? ⟨b,1,none⟩ = some (.string x.what)) (c2:w.cell? ⟨b,2,none⟩ = some (.int .i64 x.val)) :
  Calls prog 230 #[.pointer (some ⟨b,0,none⟩)] w fun e w'=>e= .returned (.bool (okEn x))/\w=w':=by
 by_cases h1:inR x.day 0 100000=true
 ·by_cases h2:zaZ x.what=true
  ·by_cases h3:inR x.val (-1000000) 1000000=true
   ·have HO:=hid (show okEn x=true by simp[okEn,h1,h2,h3]);go_enter func230,ntmps230
    go_wp2_with (first|(go_at_call 277;refine(zfx _ _).mono ?_;rintro e w' ⟨rfl,rfl⟩)|(go_at_call 278;refine(zcA _ _ hs).mono ?_;rintro e w' ⟨rfl,rfl⟩)|(go_at_call 164;refine(za2 _ _ _ _).mono ?_;rintro e w' ⟨rfl,rfl⟩))
    go_ret;exact⟨zae HO.out.symm,rfl⟩
   ·have h3:inR x.val (-1000000) 1000000=false:=by simpa using h3
    have HO:=hid (show okEn x=false by simp[okEn,h3]);go_enter func230,ntmps230
    go_wp2_with (first|(go_at_call 277;refine(zfx _ _).mono ?_;rintro e w' ⟨rfl,rfl⟩)|(go_at_call 278;refine(zcA _ _ hs).mono ?_;rintro e w' ⟨rfl,rfl⟩)|(go_at_call 164;refine(za2 _ _ _ _).mono ?_;rintro e w' ⟨rfl,rfl⟩))
    go_ret;exact⟨zae HO.out.symm,rfl⟩
  ·have h2:zaZ x.what=false:=by simpa using h2
   have HO:=hid (show okEn x=false by simp[okEn,h2]);go_enter func230,ntmps230
   go_wp2_with (first|(go_at_call 277;refine(zfx _ _).mono ?_;rintro e w' ⟨rfl,rfl⟩)|(go_at_call 278;refine(zcA _ _ hs).mono ?_;rintro e w' ⟨rfl,rfl⟩)|(go_at_call 164;refine(za2 _ _ _ _).mono ?_;rintro e w' ⟨rfl,rfl⟩))
   go_ret;exact⟨zae HO.out.symm,rfl⟩
 ·have h1:inR x.day 0 100000=false:=by simpa using h1
  have HO:=hid (show okEn x=false by simp[okEn,h1]);go_enter func230,ntmps230
  go_wp2_with (first|(go_at_call 277;refine(zfx _ _).mono ?_;rintro e w' ⟨rfl,rfl⟩)|(go_at_call 278;refine(zcA _ _ hs).mono ?_;rintro e w' ⟨rfl,rfl⟩)|(go_at_call 164;refine(za2 _ _ _ _).mono ?_;rintro e w' ⟨rfl,rfl⟩))
  go_ret;exact⟨zae HO.out.symm,rfl⟩
theorem zcj (x:En) (w:World) (hx:x.good) (hsm:x.small) :
  Calls prog 223 #[.agg #[.int .i64 x.day,.string x.what,.int .i64 x.val]] w fun e w'=>e= .returned (.bool (okEn x))/\Below w.heap.size w w':=by
 have hs:x.what.size<=9223372036854775807:=by unfold En.small at hsm;omega
 clear hsm hx;by_cases h1:inR x.day 0 100000=true
 ·by_cases h2:zaZ x.what=true
  ·by_cases h3:inR x.val (-1000000) 1000000=true
   ·have HO:=hid (show okEn x=true by simp[okEn,h1,h2,h3]);go_enter func223,ntmps223
    go_wp2_with (first|(go_at_call 160;refine(zc8 _ _ hs).mono ?_;rintro e w' ⟨rfl,rfl⟩)|(go_at_call 79;refine(zaG _ _ _ _).mono ?_;rintro e w' ⟨rfl,rfl⟩))
    go_ret;exact⟨zae HO.out.symm,bal _⟩
   ·have h3:inR x.val (-1000000) 1000000=false:=by simpa using h3
    have HO:=hid (show okEn x=false by simp[okEn,h3]);go_enter func223,ntmps223
    go_wp2_with (first|(go_at_call 160;refine(zc8 _ _ hs).mono ?_;rintro e w' ⟨rfl,rfl⟩)|(go_at_call 79;refine(zaG _ _ _ _).mono ?_;rintro e w' ⟨rfl,rfl⟩))
    go_ret;exact⟨zae HO.out.symm,bal _⟩
  ·have h2:zaZ x.what=false:=by simpa using h2
   have HO:=hid (show okEn x=false by simp[okEn,h2]);go_enter func223,ntmps223
   go_wp2_with (first|(go_at_call 160;refine(zc8 _ _ hs).mono ?_;rintro e w' ⟨rfl,rfl⟩)|(go_at_call 79;refine(zaG _ _ _ _).mono ?_;rintro e w' ⟨rfl,rfl⟩))
   go_ret;exact⟨zae HO.out.symm,bal _⟩
 ·have h1:inR x.day 0 100000=false:=by simpa using h1
  have HO:=hid (show okEn x=false by simp[okEn,h1]);go_enter func223,ntmps223
  go_wp2_with (first|(go_at_call 160;refine(zc8 _ _ hs).mono ?_;rintro e w' ⟨rfl,rfl⟩)|(go_at_call 79;refine(zaG _ _ _ _).mono ?_;rintro e w' ⟨rfl,rfl⟩))
  go_ret;exact⟨zae HO.out.symm,bal _⟩
end
section
open Go.RowKit
theorem znQ{P:Program}{size:Nat}{tx e:TypeId}(hk:P.underlying tx=some (.slice e))(w:World)(X:Option Addr)(d:Nat):Src P size tx (.slice X 0 d) 0 [] w:=by
 cases X with
 |none=>exact Src.ofNil w hk d
 |some ad=>exact Src.ofSlice w hk ad 0 d [] (by simp) (fun j u h=>by simp at h) (fun u h=>by cases h)
theorem ziY {P:Program} {ops:Array Oper} {rest:List Oper} {o:Oper} {a:Act} {Q:Exit -> Act -> World -> Prop} (hgd:o.guard = none) (s x:Operand) (t:TypeId)
  (ho:o.op= .call {callee:=.builtin .append,args:=#[s,x],argTypes:=#[t,t]})
  (e:TypeId) (zv:Value) (size bytes:Nat) (ht:P.underlying t=some (.slice e)) (hinfo:(P.info? e).map (fun i=>(i.zero,i.size,i.bytes))=some (some zv,size,bytes))
  {W:World}{A X:Option Addr}{m c d:Nat} (hs:a.eval s= .slice A m c) (hx:a.eval x= .slice X 0 d) (hle:m<=c)
  (HK:wpList P ops Q rest (a.put o.dst (.slice A m c)) W):wpList P ops Q (o::rest) a W:=by
 obtain⟨i,hi',hz,hsize,hby⟩:=info_parts hinfo;have hr:=run_append_nothing (P:=P) W t t o.type e i ht hi' A m c hle (.slice X 0 d) (znQ ht W X d);have hw:Region.wanted o (yielded ops a.tmps)=true:=by simp[Region.wanted,hgd]
 unfold wpList;rw[if_pos hw];refine Or.inl ?_;unfold Oper.wp execOp;simp only[ho,resolve,invoke,builtin,Sem.run_bind,Sem.run_pure,Result.andThen_ok,List.map_toArray,List.map_cons,List.map_nil,hs,hx,hr];exact HK
theorem zdg {P:Program} {ops:Array Oper} {rest:List Oper} {o:Oper} {a:Act} {Q:Exit -> Act -> World -> Prop} (hgd:o.guard = none) (s x:Operand) (t:TypeId)
  (ho:o.op= .call {callee:=.builtin .append,args:=#[s,x],argTypes:=#[t,t]})
  (e:TypeId) (zv:Value) (size bytes:Nat) (ht:P.underlying t=some (.slice e)) (hinfo:(P.info? e).map (fun i=>(i.zero,i.size,i.bytes))=some (some zv,size,bytes)) (hzs:zv.cells.size=size) (hsz:0<size) (hb:bytes<=1000)
  {lo hi:Nat}{W:World}{A:Option Addr}{m c:Nat}{xs:List Value} (h:Sl W lo hi e size A m c xs) (hlo:lo<=W.heap.size) (hs:a.eval s= .slice A m c)
  (X:Option Addr) (k d:Nat) (news:List Value) (hx:a.eval x= .slice X k d) (hl:news.length=k*size) (hc:0<k->∃b off,X=some ⟨b,off,none⟩/\∀j u,news[j]?=some u->W.cell? ⟨b,off+j,none⟩=some u) (h1:∀u∈news,u.oneCell'=true) (hm:m+k<100000000)
  (HK:∀A' c' w1,Sl w1 lo w1.heap.size e size A' (m+k) c' (xs++news)->Below lo W w1->(∀g,g<W.heap.size->(∀ad,A=some ad->ad.block≠g)->w1.heap[g]?=W.heap[g]?)->(∀g,g<W.heap.size->(∀ad,A=some ad->ad.block≠g)->∀ad,A'=some ad->ad.block≠g)->wpList P ops Q rest (a.put o.dst (.slice A' (m+k) c')) w1):wpList P ops Q (o::rest) a W:=by
 rcases Nat.eq_zero_or_pos k with hk|hk
 ·subst hk;obtain rfl:news=[]:=List.eq_nil_of_length_eq_zero (by omega);refine ziY hgd s x t ho e zv size bytes ht hinfo hs hx ?_ (HK A c W (by rw[List.append_nil];exact h.low) (Below.refl _ _) (fun _ _ _=>rfl) fun g _ hne=>hne);rcases h.form with ⟨_,h1,h2⟩|⟨g,cur,_,_,_,_,hc,_⟩<;>omega
 ·obtain⟨b,off,rfl,hcc⟩:=hc hk;exact zg6 hgd s x t ho e zv size bytes ht hinfo hzs hsz hb h hlo hs b off k d news hx hl hcc h1 hk hm HK
theorem ztC {P:Program} {o:Oper} {a:Act} {Q:Exit -> Act -> World -> Prop} {K:Act -> World -> Prop} (s x:Operand) (t:TypeId)
  (ho:o.op= .call {callee:=.builtin .append,args:=#[s,x],argTypes:=#[t,t]})
  (e:TypeId) (zv:Value) (size bytes:Nat) (ht:P.underlying t=some (.slice e)) (hinfo:(P.info? e).map (fun i=>(i.zero,i.size,i.bytes))=some (some zv,size,bytes))
  {W:World}{A X:Option Addr}{m c d:Nat} (hs:a.eval s= .slice A m c) (hx:a.eval x= .slice X 0 d) (hle:m<=c)
  (HK:K (a.put o.dst (.slice A m c)) W):o.wp P a W K Q:=by
 obtain⟨i,hi',hz,hsize,hby⟩:=info_parts hinfo;have hr:=run_append_nothing (P:=P) W t t o.type e i ht hi' A m c hle (.slice X 0 d) (znQ ht W X d);unfold Oper.wp execOp;simp only[ho,resolve,invoke,builtin,Sem.run_bind,Sem.run_pure,Result.andThen_ok,List.map_toArray,List.map_cons,List.map_nil,hs,hx,hr];exact HK
theorem zin {P:Program} {ops:Array Oper} {o:Oper} {a:Act} {Q:Exit -> Act -> World -> Prop} {K:Act -> World -> Prop} {E:Prop} (hgd:o.guard = none) (s x:Operand) (t:TypeId)
  (ho:o.op= .call {callee:=.builtin .append,args:=#[s,x],argTypes:=#[t,t]})
  (e:TypeId) (zv:Value) (size bytes:Nat) (ht:P.underlying t=some (.slice e)) (hinfo:(P.info? e).map (fun i=>(i.zero,i.size,i.bytes))=some (some zv,size,bytes)) (hzs:zv.cells.size=size) (hsz:0<size) (hb:bytes<=1000)
  {lo hi:Nat}{W:World}{A:Option Addr}{m c:Nat}{xs:List Value} (h:Sl W lo hi e size A m c xs) (hlo:lo<=W.heap.size) (hs:a.eval s= .slice A m c)
  (X:Option Addr) (k d:Nat) (news:List Value) (hx:a.eval x= .slice X k d) (hl:news.length=k*size) (hc:0<k->∃b off,X=some ⟨b,off,none⟩/\∀j u,news[j]?=some u->W.cell? ⟨b,off+j,none⟩=some u) (h1:∀u∈news,u.oneCell'=true) (hm:m+k<100000000)
  (HK:∀A' c' w1,Sl w1 lo w1.heap.size e size A' (m+k) c' (xs++news)->Below lo W w1->(∀g,g<W.heap.size->(∀ad,A=some ad->ad.block≠g)->w1.heap[g]?=W.heap[g]?)->(∀g,g<W.heap.size->(∀ad,A=some ad->ad.block≠g)->∀ad,A'=some ad->ad.block≠g)->K (a.put o.dst (.slice A' (m+k) c')) w1):
  if Region.wanted o (yielded ops a.tmps)=true then Oper.wp P o a W K Q else E:=by
 have hw:Region.wanted o (yielded ops a.tmps)=true:=by simp[Region.wanted,hgd]
 rw[if_pos hw];rcases Nat.eq_zero_or_pos k with hk|hk
 ·subst hk;obtain rfl:news=[]:=List.eq_nil_of_length_eq_zero (by omega);refine ztC s x t ho e zv size bytes ht hinfo hs hx ?_ (HK A c W (by rw[List.append_nil];exact h.low) (Below.refl _ _) (fun _ _ _=>rfl) fun g _ hne=>hne);rcases h.form with ⟨_,h1,h2⟩|⟨g,cur,_,_,_,_,hc,_⟩<;>omega
 ·obtain⟨b,off,rfl,hcc⟩:=hc hk;exact zln s x t ho e zv size bytes ht hinfo hzs hsz hb h hlo hs b off k d news hx hl hcc h1 hk hm HK
theorem zad.cellsAt{w:World}{B size n:Nat}{A:Option Addr}{xs:List Value}(h:zad w B size A n xs)(hn:0<n):∃b off,A=some ⟨b,off,none⟩/\∀j u,xs[j]?=some u->w.cell? ⟨b,off+j,none⟩=some u:=by
 obtain⟨b,off,e,_,hc⟩:=h.at_ hn;exact⟨b,off,e,hc⟩
end
end Go.Proofs.YtjalgpioklcbfaaGreatDoor
