/- Steps of the proof. -/
import Derived.Test.YtjalgpioklcbfaaGreatDoorMgDesksAK
set_option maxHeartbeats 4000000
set_option linter.unusedVariables false
set_option linter.unusedSimpArgs false
set_option maxRecDepth 100000
namespace Go.Proofs.YtjalgpioklcbfaaGreatDoor
section
open Go.RowKit Go.Lib Go.Proofs.Tryz
def zdw(x:Nt)(l:List Int):Int:=if okNt x=false then 1 else if (l.all fun a=>inR a 0 (x.sta-1))=false then 2 else 0
theorem zo8 (A:Option Addr) (n c B:Nat) (x:Nt) (Q:Option Addr) (m d B2:Nat) (l:List Int) (w:World) (h:zad w B 3 A n (tbs x.tubes)) (hB:B <= w.heap.size) (hn:n <= 1048576) (hq:zad w B2 1 Q m (ints l)) (hB2:B2 <= w.heap.size) (hm:m <= 1048576) :
  Calls prog 143 #[.agg #[.int .i64 x.sta,.slice A n c],.slice Q m d] w fun e w'=>e= .returned (.int .i64 (zdw x l))/\Below w.heap.size w w':=by
 obtain⟨W,hW,y0,hb⟩:∃W,W=w.alloc (.cells #[.int .i64 x.sta,.slice A n c] 28)/\Blk W w.heap.size 28 #[.int .i64 x.sta,.slice A n c]/\Below w.heap.size w W:=⟨_,rfl,Blk.new _ _ _,bal _⟩
 have HW:=hid hW;have HB:=hid hb;have HY:=hid y0;have HR:=hid (h.on hB hb);have HQ:=hid (hq.on hB2 hb);have c0:=y0.cellAt 0 (by simp);have c1:=y0.cellAt 1 (by simp);simp only[ly] at c0 c1;clear hW hb y0 h hq;go_enter func143,ntmps143
 go_upto_region 1 with fail
 rw[<-HW.out]
 go_wp2_with fail
 refine(zdy A n c B x W HR.out (Nat.le_trans hB HB.out.size) hn).mono ?_;rintro e w1 ⟨rfl,b1⟩;have HB1:=hid (zac HB.out b1 lr);have HQ1:=hid (HQ.out.on (Nat.le_trans hB2 HB.out.size) b1);have HY1:=hid (HY.out.on b1);clear b1 c0 c1;rcases ho:okNt x with _|_
 ·have HO:=hid (show zdw x l=1 by unfold zdw;rw[ho];rfl);go_wp2;go_ret;exact⟨by rw[HO.out];rfl,HB1.out⟩
 ·obtain⟨k1,k2,_,_⟩:=zbx ho;have c0:=HY1.out.cellAt 0 (by simp);simp only[ly] at c0
  have hwr:IntKind.i64.wrap (x.sta-1)=x.sta-1:=by
   unfold IntKind.wrap;simp[IntKind.bits,IntKind.signed];omega
  have HO:=hid (show zdw x l=if (l.all fun a=>inR a 0 (x.sta-1))=false then 2 else 0 by unfold zdw;rw[ho];rfl);clear ho
  go_wp2_with fail
  refine(zeY Q m d B2 l 0 (x.sta-1) w1 HQ1.out (Nat.le_trans hB2 HB1.out.size) hm).mono ?_;rintro e w2 ⟨rfl,b2⟩;have HB2:=hid (zac HB1.out b2 lr);clear b2 c0;rcases ha:(l.all fun a=>inR a 0 (x.sta-1)) with _|_
  ·have HP:=hid (show zdw x l=2 by rw[HO.out,ha];rfl);go_wp2;go_ret;exact⟨by rw[HP.out];rfl,HB2.out⟩
  ·have HP:=hid (show zdw x l=0 by rw[HO.out,ha];rfl);go_wp2;go_ret;exact⟨by rw[HP.out];rfl,HB2.out⟩
def isF(l:List Tb)(p:Int)(i:Nat):Bool:=match l[i]? with
 |some t=>t.from_==p
 |none=>false
def zca(l:List Tb)(p:Int)(k:Nat):List Nat:=(List.range k).filter (isF l p)
def natI(l:List Nat):List Int:=l.map fun(i:Nat)=>(i:Int)
theorem zp5(l:List Tb)(p:Int)(k:Nat):(zca l p k).length<=k:=by
 have:=List.length_filter_le (isF l p) (List.range k);rwa[List.length_range] at this
theorem zp6{l:List Tb}{p:Int}{k:Nat}{t:Tb}(h:l[k]?=some t)(h2:t.from_=p):zca l p (k+1)=zca l p k++ [k]:=by
 simp[zca,List.range_succ,List.filter_append,isF,h,h2]
theorem zqG{l:List Tb}{p:Int}{k:Nat}{t:Tb}(h:l[k]?=some t)(h2:¬t.from_=p):zca l p (k+1)=zca l p k:=by
 simp[zca,List.range_succ,List.filter_append,isF,h,h2]
theorem zqZ(l:List Nat)(k:Nat):ints (natI l)++ [.int .i64 (k:Int)]=ints (natI (l++ [k])):=by simp[natI,ints]
theorem zsp{l:List Nat}{i k:Nat}(h:l[i]?=some k):(ints (natI l))[i]?=some (.int .i64 (k:Int)):=by simp[natI,ints,h]
theorem zjK{l:List Tb}{p:Int}{n i:Nat}:i∈zca l p n↔i<n/\isF l p i=true:=by simp[zca]
theorem zqH(l:List Tb)(p:Int)(n:Nat):(zca l p n).Pairwise (· < ·):=(List.pairwise_lt_range).filter _
theorem zm4 (A:Option Addr) (n c B:Nat) (x:Nt) (p:Int) (w:World) (h:zad w B 3 A n (tbs x.tubes)) (hB:B <= w.heap.size) (hn:n <= 24) :
  Calls prog 145 #[.agg #[.int .i64 x.sta,.slice A n c],.int .i64 p] w fun e w'=>∃A' m d,e= .returned (.slice A' m d)/\Sl w' w.heap.size w'.heap.size 2 1 A' m d (ints (natI (zca x.tubes p n)))/\Below w.heap.size w w':=by
 obtain⟨W,hW,y0,hb⟩:∃W,W=w.alloc (.cells #[.int .i64 x.sta,.slice A n c] 28)/\Blk W w.heap.size 28 #[.int .i64 x.sta,.slice A n c]/\Below w.heap.size w W:=⟨_,rfl,Blk.new _ _ _,bal _⟩
 have HW:=hid hW;have HB:=hid hb;have HY:=hid y0;have HR:=hid h;have c1:=y0.cellAt 1 (by simp);have yl:=y0.lt;simp only[ly] at c1;have acc0:=Acc.made W 2 1;clear hW hb y0 h;go_enter func145,ntmps145
 go_upto_region 1 with fail
 rw[<-HW.out]
 go_wp2_with fail
 go_loopw [5,12] (fun o i wr=>∃(k:Nat) (A':Option Addr) (m d:Nat),k<=n/\i= .int .i64 k/\o= .slice A' m d/\m<=k/\Acc W.heap.size W.heap.size 2 1 W wr A' m d (ints (natI (zca x.tubes p k)))) (fun _ i _=>n-(RowKit.intOf i).toNat)
 case atStart=>exact⟨0,_,_,_,Nat.zero_le _,rfl,rfl,Nat.le_refl _,acc0⟩
 case round=>
  obtain⟨k,A',m,d,hk,rfl,rfl,hmk,hacc⟩:=hrel;have HA:=hid hacc;have HBr:=hid (zac HB.out (hacc.below (B:=W.heap.size) lr lr) lr);clear acc0 hacc c1;by_cases hlt:k<n
  ·obtain⟨t,b,off,he,rfl,hb,q0,q1,q2⟩:=zdD (HR.out.on hB HBr.out) hlt;have HE:=hid he;have hk0:(0:Int)<=k:=by omega
   have hkn:(k:Int)<n:=by omega
   have hm5:m<=24:=by omega
   clear he;obtain⟨fr,hfr⟩:∃q,t.from_=q:=⟨_,rfl⟩
   have HFR:=hid hfr;rw[hfr] at q0;clear hfr
   go_upto_region 5 with fail
   obtain⟨u,hu⟩:∃y,wr.alloc (.cells #[.int .i64 fr,.int .i64 t.to_,.int .i64 t.len] 101)=y:=⟨_,rfl⟩
   have yu:Blk u wr.heap.size 101 #[.int .i64 fr,.int .i64 t.to_,.int .i64 t.len]:=by rw[<-hu];exact Blk.new _ _ _
   have bu:Below wr.heap.size wr u:=by rw[<-hu];exact bal _
   rw[hu];have p0:=yu.cellAt 0 (by simp);simp only[ly] at p0;have HAu:=hid (HA.out.on bu lr);clear hu bu yu q0 q1 q2;by_cases hf:fr=p
   ·have hq:(fr==p)=true:=by rw[hf];simp
    have HO:=hid (zp6 HE.out (HFR.out.trans hf));clear hf
    go_wp2_with (at_builtin;refine zeC rfl _ _ 29 rfl 2 _ 1 8 underlying29 zaX rfl (by decide) (by decide) HAu.out lr rfl [.int .i64 (k:Int)] rfl rfl (fun u hu=>by simp at hu;subst hu;rfl) (by omega) ?_;intro A3 d3 w9 hacc2;have HA9:=hid hacc2;clear hacc2)
    go_roundw
    case rel=>exact⟨k+1,_,_,_,by omega,by go_num,rfl,by omega,by rw[HO.out,<-zqZ];exact HA9.out⟩
    case measure=>simp[RowKit.intOf];omega
   ·have hq:(fr==p)=false:=by simpa using hf
    have HO:=hid (zqG HE.out (p:=p) (by rw[HFR.out];exact hf));clear hf;go_wp2
    go_roundw
    case rel=>exact⟨k+1,_,_,_,by omega,by go_num,rfl,by omega,by rw[HO.out];exact HAu.out⟩
    case measure=>simp[RowKit.intOf];omega
  ·obtain rfl:k=n:=by omega
   have HS:=hid (HA.out.sl (lo:=w.heap.size) HB.out.size HB.out.size);go_wp2;go_ret;exact⟨A',m,d,rfl,HS.out.low,HBr.out⟩
def spT(x:Sp):Tb:=⟨x.tube,x.enter,x.leave⟩
def sps(l:List Sp):List Value:=tbs (l.map spT)
def zbv(x:Sp):List Value:=[.int .i64 x.tube,.int .i64 x.enter,.int .i64 x.leave]
theorem znP(l:List Sp)(x:Sp):sps l++zbv x=sps (l++ [x]):=by simp[sps,tbs,List.flatMap_append,zbv,zbs,spT]
theorem zt2(l m:List Sp):sps l++sps m=sps (l++m):=by simp[sps,tbs,List.flatMap_append]
theorem zch(l:List Sp):(sps l).length=l.length*3:=by rw[sps,zea,List.length_map]
theorem zt4(l:List Sp):∀u∈sps l,u.oneCell'=true:=by
 intro u hu;simp only[sps,tbs,List.mem_flatMap,List.mem_map] at hu;obtain⟨t,_,hu⟩:=hu;exact zcO t u hu
theorem znK(x:Sp):∀u∈zbv x,u.oneCell'=true:=by
 intro u hu;simp[zbv] at hu;rcases hu with rfl|rfl|rfl<;>rfl
theorem zt3{w:World}{B n:Nat}{A:Option Addr}{l:List Sp}(h:zad w B 3 A n (sps l)):l.length=n:=by
 have:=zbW h;rwa[List.length_map] at this
theorem zm8 {w:World} {B n k:Nat} {A:Option Addr} {l:List Sp} (h:zad w B 3 A n (sps l)) (hk:k < n) :
  ∃(x:Sp) (b off:Nat),l[k]?=some x/\A=some ⟨b,off,none⟩/\b<B/\w.cell? ⟨b,off+k*3,none⟩=some (.int .i64 x.tube)/\w.cell? ⟨b,off+k*3+1,none⟩=some (.int .i64 x.enter)/\w.cell? ⟨b,off+k*3+2,none⟩=some (.int .i64 x.leave):=by
 obtain⟨t,b,off,he,h1,h2,c0,c1,c2⟩:=zdD h hk;rw[List.getElem?_map] at he
 cases hx:l[k]? with
 |none=>rw[hx] at he;cases he
 |some x=>
  rw[hx] at he;injection he with he;subst he;exact⟨x,b,off,rfl,h1,h2,c0,c1,c2⟩
theorem zeD{α:Type}{l:List α}{k:Nat}{x:α}(h:l[k]?=some x):l.drop k=x::l.drop (k+1):=by
 have h1:=(List.getElem?_eq_some_iff.1 h).1;rw[List.drop_eq_getElem_cons h1]
 congr 1
 exact(List.getElem?_eq_some_iff.1 h).2
theorem zjl:(prog.info? 196).map (fun i=>(i.zero,i.size,i.bytes))=some (some (.agg #[.int .i64 0,.int .i64 0,.int .i64 0]),3,24):=by kernel_rfl
theorem zb7(ts:List Int):∀(way:List Int) (a:Int),(zay ts way a).length=way.length
 | [],_=>rfl
 |t::r,a=>by rw[zay,List.length_cons,zb7 ts r,List.length_cons]
theorem zgz (Q:Option Addr) (m d:Nat) (ts:List Int) (A:Option Addr) (n c B:Nat) (way:List Int) (st:Int) (w:World) (ht:zad w B 1 Q m (ints ts)) (h:zad w B 1 A n (ints way)) (hB:B <= w.heap.size) (hot:zaK ts = true) (hw:zaN ts way = true) (h0:0 <= st) (h1:st <= 1000000) :
  Calls prog 206 #[.slice Q m d,.agg #[.slice A n c,.int .i64 st]] w fun e w'=>∃A' q d',e= .returned (.slice A' q d')/\Sl w' w.heap.size w'.heap.size 196 3 A' q d' (sps (zay ts way st))/\Below w.heap.size w w':=by
 obtain⟨hw12,hw1,hwt⟩:=zaJ hw;have hln:=zai h;have htl:=zai ht;have hn12:n<=12:=by omega
 have HWT:=hid hwt;have HOT:=hid hot;have HLN:=hid hln;have HTL:=hid htl;obtain⟨W0,hW,y0,hb⟩:∃W,W=w.alloc (.cells #[.slice A n c,.int .i64 st] 123)/\Blk W w.heap.size 123 #[.slice A n c,.int .i64 st]/\Below w.heap.size w W:=⟨_,rfl,Blk.new _ _ _,bal _⟩
 have HW:=hid hW;have HB:=hid hb;have HY:=hid y0;have HR:=hid h;have HRT:=hid ht;have c1:=y0.cellAt 1 (by simp);simp only[ly] at c1;have HS0:=hid (((Acc.made W0 196 3).sl (lo:=W0.heap.size) lr lr).drew);clear hW hb y0 h ht hot hw hw12 hw1 hwt hln htl;go_enter func206,ntmps206
 go_upto_region 1 with fail
 rw[<-HW.out];refine ez (fun V=>Below W0.heap.size W0 V/\V.cell? ⟨w.heap.size,1,none⟩=some (.int .i64 st)) ?_ fun hHeld=>?_
 ·exact⟨(Below.refl _ _).drew,c1⟩
 refine dq 1 rfl (h:=dq 2 rfl (h:=?_));refine rd 0 rfl fun K hK=>?_;go_simp;refine ke hK ?_ ?_
 ·exact⟨zac hHeld.1 (bal _) lr,zaa (bal _) hHeld.2⟩
 clear hK K hHeld;intro hHeld;refine dq 3 rfl (h:=dq 4 rfl (h:=?_));refine dn ?_;have HBs:=hid hHeld.1;have c0:=(HY.out.on hHeld.1).cellAt 0 (by simp);simp only[List.getElem_toArray,List.getElem_cons_zero] at c0;clear hHeld c1
 go_wp2_with fail
 go_loopw [5,6,15] (fun o a i wr=>∃(k:Nat) (at_:Int) (done:List Sp) (A':Option Addr) (q d':Nat),k<=n/\i= .int .i64 (k:Int)/\o= .slice A' q d'/\a= .int .i64 at_/\(0<=at_/\at_<=1000000+1000*(k:Int))/\done.length=k/\done++zay ts (way.drop k) at_=zay ts way st/\Sl wr W0.heap.size wr.heap.size 196 3 A' q d' (sps done)/\Below W0.heap.size W0 wr) (fun _ _ i _=>n-(RowKit.intOf i).toNat)
 case atStart=>exact⟨0,st,[],_,_,_,Nat.zero_le _,rfl,rfl,rfl,by omega,rfl,rfl,HS0.out.low,HBs.out⟩
 case round=>
  obtain⟨k,at_,done,A',q,d',hk,rfl,rfl,rfl,hat,hdl,hdone,hsl,hbel⟩:=hrel;have HS:=hid hsl;have HD:=hid hdone;have HDL:=hid hdl;have HW0:=hid hbel;have HBr:=hid (zac HB.out hbel lr);obtain rfl:k=q:=by have:=hsl.len;rw[zch] at this;omega
  clear hsl hdone hdl hbel c0;have hk0:(0:Int)<=k:=by omega
  by_cases hlt:k<n
  ·obtain⟨t,b,off,he,rfl,hb,q0⟩:=zax (HR.out.on hB HBr.out) hlt;have hdr:=zeD he;have htb:=HWT.out t (List.mem_of_getElem? he);obtain⟨tn,htn⟩:=Int.eq_ofNat_of_zero_le htb.1;subst htn;obtain⟨tv,b2,off2,he2,rfl,hb2,q1⟩:=zax (HRT.out.on hB HBr.out) (k:=tn) (by have:=HTL.out;omega);obtain rfl:at0 ts (tn:Int)=tv:=by rw[zen (by have:=HTL.out;omega)] at he2;injection he2
   have hbd:=zjA HOT.out (tn:Int) htb.1 htb.2;have hst:=HD.out;rw[hdr,zay] at hst;obtain⟨tv,htv⟩:∃z,at0 ts (tn:Int)=z:=⟨_,rfl⟩
   rw[htv] at hst hbd q1;have HST:=hid hst;have hkn:(k:Int)<n:=by omega
   have htn0:(0:Int)<=tn:=htb.1;have htm:(tn:Int)<m:=by have:=HTL.out;have:=htb.2;omega
   have hz:W0.heap.size<=wr.heap.size:=HW0.out.size
   have hwr:IntKind.i64.wrap (at_+tv)=at_+tv:=by
    unfold IntKind.wrap;simp[IntKind.bits,IntKind.signed];omega
   have hb2w:b2<W0.heap.size:=by have:=HB.out.size;omega
   have hq12:k<=12:=by omega
   clear he he2 hdr htb htv hst
   go_wp2_with (at_builtin;refine zat rfl _ _ 194 rfl 196 _ 3 24 underlying194 zjl rfl (by decide) (by decide) HS.out hz rfl (zbv ⟨(tn:Int),at_,at_+tv⟩) wr.heap.size rfl rfl rfl (znK _) (by omega) ?_;intro A2 d2 w9 hs9 b9 _ f9 k9;have HS9:=hid hs9;have HB9:=hid b9;have q9:=(b9.cell (p:=⟨b2,off2+tn,none⟩) hb2w).trans q1;clear hs9 b9 f9 k9 q1)
   go_roundw
   case rel=>
    refine⟨k+1,at_+tv,done++ [⟨(tn:Int),at_,at_+tv⟩],A2,k+1,d2,by omega,by go_num,rfl,rfl,by omega,?_,?_,?_,?_⟩
    ·rw[List.length_append,List.length_singleton,HDL.out]
    ·rw[List.append_assoc];exact HST.out
    ·rw[<-znP];exact HS9.out
    ·exact HW0.out.trans HB9.out
   case measure=>simp[RowKit.intOf];omega
  ·obtain rfl:n=k:=by omega
   have HE:=hid (show done=zay ts way st by have:=HD.out;rw[<-HLN.out,List.drop_length,zay,List.append_nil] at this;exact this);go_wp2;go_ret;exact⟨A',n,d',rfl,by rw[<-HE.out];exact HS.out.wide HB.out.size lr,HBr.out⟩
theorem zsn (s o:Sp) (w:World) :
  Calls prog 207 #[.agg #[.int .i64 s.tube,.int .i64 s.enter,.int .i64 s.leave],.agg #[.int .i64 o.tube,.int .i64 o.enter,.int .i64 o.leave]] w fun e w'=>e= .returned (.bool (zbn s o))/\Below w.heap.size w w':=by
 obtain⟨W,hW,hz,k0,k1,hb⟩:=zcW w #[.int .i64 s.tube,.int .i64 s.enter,.int .i64 s.leave] #[.int .i64 o.tube,.int .i64 o.enter,.int .i64 o.leave] 196 196;have HW:=hid hW;have HB:=hid hb;have a0:=k0.cellAt 0 (by simp);have a1:=k0.cellAt 1 (by simp);have a2:=k0.cellAt 2 (by simp);have d0:=k1.cellAt 0 (by simp);have d1:=k1.cellAt 1 (by simp);have d2:=k1.cellAt 2 (by simp);simp only[ly] at a0 a1 a2 d0 d1 d2;clear hW hz k0 k1 hb;rcases e1:(s.tube==o.tube) with _|_
 ·have HO:=hid (show zbn s o=false by simp[zbn,e1]);go_enter func207,ntmps207
  go_upto_region 1 with fail
  rw[<-HW.out];go_wp2;go_ret;exact⟨zae HO.out.symm,HB.out⟩
 rcases e2:decide (s.enter<o.leave) with _|_
 ·have HO:=hid (show zbn s o=false by simp[zbn,e1,e2]);go_enter func207,ntmps207
  go_upto_region 1 with fail
  rw[<-HW.out];go_wp2;go_ret;exact⟨zae HO.out.symm,HB.out⟩
 have HO:=hid (show zbn s o=decide (o.enter<s.leave) by simp[zbn,e1,e2]);go_enter func207,ntmps207
 go_upto_region 1 with fail
 rw[<-HW.out];go_wp2;go_ret;exact⟨zae HO.out.symm,HB.out⟩
end
end Go.Proofs.YtjalgpioklcbfaaGreatDoor
