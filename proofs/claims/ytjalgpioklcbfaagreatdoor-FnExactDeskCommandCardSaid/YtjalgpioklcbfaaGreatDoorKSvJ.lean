/- The order in which a queue is served, as the program finds it. -/
import Derived.Test.YtjalgpioklcbfaaGreatDoorMgDesksAK
set_option maxHeartbeats 4000000
set_option maxRecDepth 100000
set_option linter.unusedVariables false
set_option linter.unusedSimpArgs false
namespace Go.Proofs.YtjalgpioklcbfaaGreatDoor
open Go.RowKit Go.Lib Go.Proofs.Tryz
def lenV:Value->Nat
 | .slice _ n _=>n
 |_=>0
def zqm(w:World)(g:Nat):Nat:=match w.cell? ⟨g,0,none⟩ with
 |some (.int _ t)=>t.toNat
 |_=>0
theorem zeR{w:World}{g:Nat}{t:Int}(h:Blk w g 2 #[.int .i64 t]):zqm w g=t.toNat:=by
 have:=h.cellAt 0 (by simp);unfold zqm;rw[this];rfl
theorem zpW(x y:It):decide (orF (Lib.compareInt x.cls y.cls) (Lib.compareInt x.arr y.arr)<0)=zdF x y:=by
 unfold orF Lib.compareInt zdF;rcases Int.lt_trichotomy x.cls y.cls with h|h|h
 ·simp[h]
 ·rw[h];rcases Int.lt_trichotomy x.arr y.arr with k|k|k
  ·simp[k]
  ·simp[k]
  ·have h1:¬x.arr<y.arr:=by omega
   simp[h1,k]
 ·have h1:¬x.cls<y.cls:=by omega
  have h2:¬x.cls=y.cls:=by omega
  simp[h1,h2,h]
theorem zgV{l:List It}{k:Nat}{x:It}(h:l[k]?=some x):itAt l (k:Int)=x:=by
 unfold itAt;rw[Int.toNat_natCast,List.getD_eq_getElem?_getD,h];rfl
theorem zqb (A:Option Addr) (n c B:Nat) (l:List It) (w:World) (h:zad w B 3 A n (its l)) (hB:B <= w.heap.size) (hok:okQ l = true) :
  Calls prog 158 #[.slice A n c,.int .i64 0] w fun e w'=>∃A' m d v,e= .returned (.tuple #[.slice A' m d,v])/\Sl w' w.heap.size w'.heap.size 2 1 A' m d (ints (svR l))/\Below w.heap.size w w':=by
 have hln:=zfB h;obtain⟨q1,q2,q3⟩:=zeN hok;have hn12:n<=12:=by omega
 have HOK:=hid hok;have HLN:=hid hln;have HQ:=hid (And.intro q2 q3);have hmk:=zfN n (by omega);obtain⟨W,hW,y0,hb⟩:∃W,W=w.alloc (.cells #[.int .i64 0] 2)/\Blk W w.heap.size 2 #[.int .i64 0]/\Below w.heap.size w W:=⟨_,rfl,Blk.new _ _ _,bal _⟩
 have HW:=hid hW;have HB:=hid hb;have HY:=hid y0;have HR:=hid h;clear hW hb y0 h hok hln q1 q2 q3;go_enter func158,ntmps158
 go_upto_region 1 with fail
 rw[<-HW.out]
 go_cut [6,7,8] (fun o s t wx=>∃g6 gs g8:Nat,o= .slice (some ⟨g6,0,none⟩) 0 0/\s= .slice (some ⟨gs,0,none⟩) n n/\t= .pointer (some ⟨g8,0,none⟩)/\Blk wx g6 2 #[]/\Blk wx gs 2 (ints (zer n)).toArray/\Blk wx g8 2 #[.int .i64 0]/\W.heap.size<=g6/\W.heap.size<=gs/\W.heap.size<=g8/\g6≠gs/\g6≠g8/\gs≠g8/\Below W.heap.size W wx)
 case first=>as_aux_lemma=>
  refine ez (fun _=>True) ?_ fun hHeld=>?_
  ·trivial
  refine dq 1 rfl (h:=dq 2 rfl (h:=?_));refine wpAnyH_ready (rs:=[0,3,4]) (by kernel_rfl) (by simp) ?_;refine AllReadyH.cons rfl (fun K hK=>?_) ?_
  ·skip
   go_simp;refine ke hK trivial fun _=>?_;clear hK K;refine wpAnyH_ready (rs:=[3,4]) (by kernel_rfl) (by simp) ?_;refine AllReadyH.cons rfl (fun K hK=>?_) ?_
   ·skip
    go_simp;refine ke hK trivial fun _=>?_;clear hK K;refine rd 4 rfl fun K hK=>?_;go_simp;refine ke hK trivial fun _=>?_;clear hK K;refine dq 5 rfl (h:=dq 6 rfl (h:=?_));refine rd 7 rfl fun K hK=>?_;obtain⟨Z,hZ,hz,k0,k1,k2,hb⟩:=zdf W #[] (madeCells #[.int .i64 0] n) #[.int .i64 0] 2 2 2;rw[<-hZ];clear hZ;have q8:=k2.drew.cellAt 0 (by simp);have qf:=k2.drew.frozen 0;go_simp;refine hK.out _ _ ?_ (fun hNew=>?_)
    ·trivial
    clear hK K hHeld;clear hNew
    try simp only[Act.put,ly]
    refine dn ?_
    try (go_wp2_with fail)
    go_meet
    have y8:=k2.drew.set_ 0 (.int .i64 0);have ys:=k1.drew.far (p:=⟨W.heap.size+1+1,0,none⟩) (by show W.heap.size+1≠W.heap.size+1+1;omega) (.int .i64 0);have y6:=k0.drew.far (p:=⟨W.heap.size+1+1,0,none⟩) (by show W.heap.size≠W.heap.size+1+1;omega) (.int .i64 0);rw[zel] at ys;exact⟨W.heap.size,W.heap.size+1,W.heap.size+1+1,rfl,rfl,rfl,y6,ys,y8,by omega,by omega,by omega,by omega,by omega,by omega,hb.drew.setCell (show W.heap.size<=W.heap.size+1+1 by omega) _⟩
   refine AllReadyH.cons rfl (fun K hK=>?_) ?_
   ·skip
    go_simp;refine ke hK trivial fun _=>?_;clear hK K;refine dq 5 rfl (h:=?_);refine rd 3 rfl fun K hK=>?_;go_simp;refine ke hK trivial fun _=>?_;clear hK K;refine dq 6 rfl (h:=?_);refine rd 7 rfl fun K hK=>?_;obtain⟨Z,hZ,hz,k0,k1,k2,hb⟩:=zdf W #[] #[.int .i64 0] (madeCells #[.int .i64 0] n) 2 2 2;rw[<-hZ];clear hZ;have q8:=k1.drew.cellAt 0 (by simp);have qf:=k1.drew.frozen 0;go_simp;refine hK.out _ _ ?_ (fun hNew=>?_)
    ·trivial
    clear hK K hHeld;clear hNew
    try simp only[Act.put,ly]
    refine dn ?_
    try (go_wp2_with fail)
    go_meet
    have y8:=k1.drew.set_ 0 (.int .i64 0);have ys:=k2.drew.far (p:=⟨W.heap.size+1,0,none⟩) (by show W.heap.size+1+1≠W.heap.size+1;omega) (.int .i64 0);have y6:=k0.drew.far (p:=⟨W.heap.size+1,0,none⟩) (by show W.heap.size≠W.heap.size+1;omega) (.int .i64 0);rw[zel] at ys;exact⟨W.heap.size,W.heap.size+1+1,W.heap.size+1,rfl,rfl,rfl,y6,ys,y8,by omega,by omega,by omega,by omega,by omega,by omega,hb.drew.setCell (show W.heap.size<=W.heap.size+1 by omega) _⟩
   exact AllReadyH.nil
  refine AllReadyH.cons rfl (fun K hK=>?_) ?_
  ·skip
   go_simp;refine ke hK trivial fun _=>?_;clear hK K;refine wpAnyH_ready (rs:=[0,4]) (by kernel_rfl) (by simp) ?_;refine AllReadyH.cons rfl (fun K hK=>?_) ?_
   ·skip
    go_simp;refine ke hK trivial fun _=>?_;clear hK K;refine rd 4 rfl fun K hK=>?_;go_simp;refine ke hK trivial fun _=>?_;clear hK K;refine dq 5 rfl (h:=dq 6 rfl (h:=?_));refine rd 7 rfl fun K hK=>?_;obtain⟨Z,hZ,hz,k0,k1,k2,hb⟩:=zdf W (madeCells #[.int .i64 0] n) #[] #[.int .i64 0] 2 2 2;rw[<-hZ];clear hZ;have q8:=k2.drew.cellAt 0 (by simp);have qf:=k2.drew.frozen 0;go_simp;refine hK.out _ _ ?_ (fun hNew=>?_)
    ·trivial
    clear hK K hHeld;clear hNew
    try simp only[Act.put,ly]
    refine dn ?_
    try (go_wp2_with fail)
    go_meet
    have y8:=k2.drew.set_ 0 (.int .i64 0);have ys:=k0.drew.far (p:=⟨W.heap.size+1+1,0,none⟩) (by show W.heap.size≠W.heap.size+1+1;omega) (.int .i64 0);have y6:=k1.drew.far (p:=⟨W.heap.size+1+1,0,none⟩) (by show W.heap.size+1≠W.heap.size+1+1;omega) (.int .i64 0);rw[zel] at ys;exact⟨W.heap.size+1,W.heap.size,W.heap.size+1+1,rfl,rfl,rfl,y6,ys,y8,by omega,by omega,by omega,by omega,by omega,by omega,hb.drew.setCell (show W.heap.size<=W.heap.size+1+1 by omega) _⟩
   refine AllReadyH.cons rfl (fun K hK=>?_) ?_
   ·skip
    go_simp;refine ke hK trivial fun _=>?_;clear hK K;refine rd 0 rfl fun K hK=>?_;go_simp;refine ke hK trivial fun _=>?_;clear hK K;refine dq 5 rfl (h:=dq 6 rfl (h:=?_));refine rd 7 rfl fun K hK=>?_;obtain⟨Z,hZ,hz,k0,k1,k2,hb⟩:=zdf W (madeCells #[.int .i64 0] n) #[.int .i64 0] #[] 2 2 2;rw[<-hZ];clear hZ;have q8:=k1.drew.cellAt 0 (by simp);have qf:=k1.drew.frozen 0;go_simp;refine hK.out _ _ ?_ (fun hNew=>?_)
    ·trivial
    clear hK K hHeld;clear hNew
    try simp only[Act.put,ly]
    refine dn ?_
    try (go_wp2_with fail)
    go_meet
    have y8:=k1.drew.set_ 0 (.int .i64 0);have ys:=k0.drew.far (p:=⟨W.heap.size+1,0,none⟩) (by show W.heap.size≠W.heap.size+1;omega) (.int .i64 0);have y6:=k2.drew.far (p:=⟨W.heap.size+1,0,none⟩) (by show W.heap.size+1+1≠W.heap.size+1;omega) (.int .i64 0);rw[zel] at ys;exact⟨W.heap.size+1+1,W.heap.size,W.heap.size+1,rfl,rfl,rfl,y6,ys,y8,by omega,by omega,by omega,by omega,by omega,by omega,hb.drew.setCell (show W.heap.size<=W.heap.size+1 by omega) _⟩
   exact AllReadyH.nil
  refine AllReadyH.cons rfl (fun K hK=>?_) ?_
  ·skip
   go_simp;refine ke hK trivial fun _=>?_;clear hK K;refine wpAnyH_ready (rs:=[0,3]) (by kernel_rfl) (by simp) ?_;refine AllReadyH.cons rfl (fun K hK=>?_) ?_
   ·skip
    go_simp;refine ke hK trivial fun _=>?_;clear hK K;refine dq 5 rfl (h:=?_);refine rd 3 rfl fun K hK=>?_;go_simp;refine ke hK trivial fun _=>?_;clear hK K;refine dq 6 rfl (h:=?_);refine rd 7 rfl fun K hK=>?_;obtain⟨Z,hZ,hz,k0,k1,k2,hb⟩:=zdf W #[.int .i64 0] #[] (madeCells #[.int .i64 0] n) 2 2 2;rw[<-hZ];clear hZ;have q8:=k0.drew.cellAt 0 (by simp);have qf:=k0.drew.frozen 0;go_simp;refine hK.out _ _ ?_ (fun hNew=>?_)
    ·trivial
    clear hK K hHeld;clear hNew
    try simp only[Act.put,ly]
    refine dn ?_
    try (go_wp2_with fail)
    go_meet
    have y8:=k0.drew.set_ 0 (.int .i64 0);have ys:=k2.drew.far (p:=⟨W.heap.size,0,none⟩) (by show W.heap.size+1+1≠W.heap.size;omega) (.int .i64 0);have y6:=k1.drew.far (p:=⟨W.heap.size,0,none⟩) (by show W.heap.size+1≠W.heap.size;omega) (.int .i64 0);rw[zel] at ys;exact⟨W.heap.size+1,W.heap.size+1+1,W.heap.size,rfl,rfl,rfl,y6,ys,y8,by omega,by omega,by omega,by omega,by omega,by omega,hb.drew.setCell (show W.heap.size<=W.heap.size by omega) _⟩
   refine AllReadyH.cons rfl (fun K hK=>?_) ?_
   ·skip
    go_simp;refine ke hK trivial fun _=>?_;clear hK K;refine rd 0 rfl fun K hK=>?_;go_simp;refine ke hK trivial fun _=>?_;clear hK K;refine dq 5 rfl (h:=dq 6 rfl (h:=?_));refine rd 7 rfl fun K hK=>?_;obtain⟨Z,hZ,hz,k0,k1,k2,hb⟩:=zdf W #[.int .i64 0] (madeCells #[.int .i64 0] n) #[] 2 2 2;rw[<-hZ];clear hZ;have q8:=k0.drew.cellAt 0 (by simp);have qf:=k0.drew.frozen 0;go_simp;refine hK.out _ _ ?_ (fun hNew=>?_)
    ·trivial
    clear hK K hHeld;clear hNew
    try simp only[Act.put,ly]
    refine dn ?_
    try (go_wp2_with fail)
    go_meet
    have y8:=k0.drew.set_ 0 (.int .i64 0);have ys:=k1.drew.far (p:=⟨W.heap.size,0,none⟩) (by show W.heap.size+1≠W.heap.size;omega) (.int .i64 0);have y6:=k2.drew.far (p:=⟨W.heap.size,0,none⟩) (by show W.heap.size+1+1≠W.heap.size;omega) (.int .i64 0);rw[zel] at ys;exact⟨W.heap.size+1+1,W.heap.size+1,W.heap.size,rfl,rfl,rfl,y6,ys,y8,by omega,by omega,by omega,by omega,by omega,by omega,hb.drew.setCell (show W.heap.size<=W.heap.size by omega) _⟩
   exact AllReadyH.nil
  exact AllReadyH.nil
 case rest=>as_aux_lemma=>
  obtain⟨g6,gs,g8,rfl,rfl,rfl,y6,ys,y8,l6,ls,l8,n1,n2,n3,bx⟩:=hcut;have hgW:w.heap.size<W.heap.size:=HY.out.lt;have HX:=hid bx;have hsl0:Sl wc W.heap.size wc.heap.size 2 1 (some ⟨g6,0,none⟩) 0 0 (ints []):=Sl.of_blk (xs:=[]) y6 l6 y6.lt rfl (Nat.zero_le _);have HS0:=hid hsl0;have HYs0:=hid ys;have HY80:=hid y8;have HGN:=hid (And.intro n1 (And.intro n2 n3));have HGL:=hid (And.intro ls l8);have hm0:(zer n).length=n:=zqv n;clear hmk bx hsl0 y6 ys y8 n1 n2 n3 l6 ls l8
  go_wp2_with fail
  go_loopw [6] (fun o wr=>∃(ord:List Int) (t:Int) (A':Option Addr) (m d:Nat) (ss:List Int),o= .slice A' m d/\Sl wr W.heap.size wr.heap.size 2 1 A' m d (ints ord)/\Blk wr g8 2 #[.int .i64 t]/\Blk wr gs 2 (ints ss).toArray/\ss.length=n/\(∀ad,A'=some ad->ad.block≠gs/\ad.block≠g8)/\Qs l ord t/\Sv l ord t (svR l)/\Below W.heap.size W wr) (fun o wr=>(n-lenV o)*30000+(30000-zqm wr g8))
  case atStart=>exact⟨[],0,_,_,_,_,rfl,HS0.out,HY80.out,HYs0.out,hm0,fun ad had=>by injection had with had;subst had;exact⟨HGN.out.1,HGN.out.2.1⟩,zjr l,zk7 HOK.out,HX.out⟩
  case round=>
   obtain⟨ord,t,A',m,d,ss,rfl,hsl,hy8,hys,hss,hne,hqs,hsv,hbel⟩:=hrel;have HS:=hid hsl;have HY8:=hid hy8;have HY8r:=hid hy8;have HYs:=hid hys;have HSS:=hid hss;have HNE:=hid hne;have HQS:=hid hqs;have HSV:=hid hsv;have HWr:=hid hbel;have HBr:=hid (zac HB.out hbel lr);have hmo:ord.length=m:=by have:=hsl.len;rw[za4] at this;omega
   have HMO:=hid hmo;have htl:=hqs.low;have hth:=hqs.high;have ht2:t<=22000:=by have:=hqs.left;have:=HLN.out;omega
   have hmn:m<=n:=by have:=hqs.left;have:=HLN.out;omega
   clear hsl hy8 hys hss hne hqs hsv hbel;by_cases hlt:m<n
   ·have hltn:(m:Int)<n:=by omega
    have HLT:=hid (show ord.length<l.length by rw[HLN.out];omega)
    go_wp2_with fail
    go_loopw [10,11,26] (fun bs nx ix wq=>∃(k:Nat) (b nxt:Int),k<=n/\ix= .int .i64 (k:Int)/\bs= .int .i64 b/\nx= .int .i64 nxt/\za1 l ord t (l.drop k) k b=za1 l ord t l 0 (-1)/\zb2 ord t (l.drop k) k nxt=zb2 ord t l 0 (-1)/\(b=-1\/∃q:Nat,b=q/\q<k)/\(-1<=nxt/\nxt<=10000)/\Below wr.heap.size wr wq) (fun _ _ ix _=>n-(RowKit.intOf ix).toNat)
    case atStart=>exact⟨0,-1,-1,Nat.zero_le _,rfl,rfl,rfl,rfl,rfl,.inl rfl,by omega,Below.refl _ _⟩
    case round=>
     rename World=>wq
     obtain⟨k,bb,nxt,hk,rfl,rfl,rfl,hpk,hnx,hbb,hnb,hbel⟩:=hrel;have HPK:=hid hpk;have HNX:=hid hnx;have HBB:=hid hbb;have HWq:=hid hbel;have HBq:=hid (zac HBr.out hbel lr);have HSq:=hid (HS.out.on hbel);have HY8q:=hid (HY8.out.on hbel);have HYa:=hid ((HY.out.on HWr.out).on HWq.out);clear hpk hnx hbb hbel;have hk0:(0:Int)<=k:=by omega
     by_cases hkt:k<n
     ·obtain⟨x,b,off,he,rfl,hbB,q0,q1,q2⟩:=zfw (HR.out.on hB HBq.out) hkt
      have hdr:l.drop k=x::l.drop (k+1):=by
       have h1:=(List.getElem?_eq_some_iff.1 he).1;rw[List.drop_eq_getElem_cons h1]
       congr 1
       exact(List.getElem?_eq_some_iff.1 he).2
      have hpk:=HPK.out;have hnx:=HNX.out;rw[hdr,za1] at hpk;rw[hdr,zb2] at hnx;have HPK2:=hid hpk;have HNX2:=hid hnx;have hxb:=HQ.out.1 x (List.mem_of_getElem? he);have hxb1:=hxb.1;have hxb2:=hxb.2;have hkn:(k:Int)<n:=by omega
      clear he hdr hpk hnx hxb
      go_upto_region 8 with fail
      obtain⟨u,hu⟩:∃y,wq.alloc (.cells #[.int .i64 x.arr,.int .i64 x.tick,.int .i64 x.cls] 140)=y:=⟨_,rfl⟩
      have yu:Blk u wq.heap.size 140 #[.int .i64 x.arr,.int .i64 x.tick,.int .i64 x.cls]:=by rw[<-hu];exact Blk.new _ _ _
      have bu:Below wq.heap.size wq u:=by rw[<-hu];exact bal _
      rw[hu];have p0:=yu.cellAt 0 (by simp);have p1:=yu.cellAt 1 (by simp);have p2:=yu.cellAt 2 (by simp);simp only[ly] at p0 p1 p2;have ca:=(HYa.out.on bu).cellAt 0 (by simp);have ct:=(HY8q.out.on bu).cellAt 0 (by simp);simp only[List.getElem_toArray,List.getElem_cons_zero] at ca ct;have HSu:=hid (HSq.out.on bu);have HWu:=hid (zac HWq.out bu lr);have HBu:=hid (zac HBq.out bu lr);clear hu yu bu q0 q1 q2
      go_wp2_with fail
      refine(zmk A' m d u.heap.size ord (k:Int) u (HSu.out.low.reads lr) (by omega)).mono ?_;rintro e wz ⟨rfl,hww⟩;rw[hww];clear hww;rcases hh:hasI ord (k:Int) with _|_
      ·rw[hh,if_neg (by decide)] at HPK2 HNX2;by_cases hta:t<x.arr
       ·have hd:decide (t<x.arr)=true:=decide_eq_true hta;have HP2:=hid (show za1 l ord t (l.drop (k+1)) (k+1) bb=za1 l ord t l 0 (-1) by have:=HPK2.out;rwa[if_pos hta] at this);by_cases hn0:nxt<0
        ·have hd2:decide (nxt<0)=true:=decide_eq_true hn0;have HN2:=hid (show zb2 ord t (l.drop (k+1)) (k+1) x.arr=zb2 ord t l 0 (-1) by have:=HNX2.out;rwa[if_pos hta,if_pos (.inl hn0)] at this);go_wp2
         go_roundw
         case rel=>exact⟨k+1,bb,x.arr,by omega,by go_num,rfl,rfl,HP2.out,HN2.out,(by rcases HBB.out with h|⟨q,h,hq⟩;exact .inl h;exact .inr ⟨q,h,by omega⟩),by omega,HWu.out⟩
         case measure=>simp[RowKit.intOf];omega
        ·have hd2:decide (nxt<0)=false:=decide_eq_false hn0;by_cases hn1:x.arr<nxt
         ·have hd3:decide (x.arr<nxt)=true:=decide_eq_true hn1;have HN2:=hid (show zb2 ord t (l.drop (k+1)) (k+1) x.arr=zb2 ord t l 0 (-1) by have:=HNX2.out;rwa[if_pos hta,if_pos (.inr hn1)] at this);go_wp2
          go_roundw
          case rel=>exact⟨k+1,bb,x.arr,by omega,by go_num,rfl,rfl,HP2.out,HN2.out,(by rcases HBB.out with h|⟨q,h,hq⟩;exact .inl h;exact .inr ⟨q,h,by omega⟩),by omega,HWu.out⟩
          case measure=>simp[RowKit.intOf];omega
         ·have hd3:decide (x.arr<nxt)=false:=decide_eq_false hn1;have HN2:=hid (show zb2 ord t (l.drop (k+1)) (k+1) nxt=zb2 ord t l 0 (-1) by have:=HNX2.out;rwa[if_pos hta,if_neg (by omega)] at this);go_wp2
          go_roundw
          case rel=>exact⟨k+1,bb,nxt,by omega,by go_num,rfl,rfl,HP2.out,HN2.out,(by rcases HBB.out with h|⟨q,h,hq⟩;exact .inl h;exact .inr ⟨q,h,by omega⟩),by omega,HWu.out⟩
          case measure=>simp[RowKit.intOf];omega
       ·have hd:decide (t<x.arr)=false:=decide_eq_false hta;have HN2:=hid (show zb2 ord t (l.drop (k+1)) (k+1) nxt=zb2 ord t l 0 (-1) by have:=HNX2.out;rwa[if_neg hta] at this);by_cases hb0:bb<0
        ·have hd2:decide (bb<0)=true:=decide_eq_true hb0;have HP2:=hid (show za1 l ord t (l.drop (k+1)) (k+1) (k:Int)=za1 l ord t l 0 (-1) by have:=HPK2.out;rwa[if_neg hta,if_pos (.inl hb0)] at this)
         go_wp2_with fail
         refine ez (fun V=>True) ?_ fun hHeld=>?_
         ·trivial
         refine dq 0 rfl (h:=dq 1 rfl (h:=dq 2 rfl (h:=dr 3 rfl (h:=dr 4 rfl (h:=dr 5 rfl (h:=dr 6 rfl (h:=dr 7 rfl (h:=?_))))))));refine dr 8 rfl (h:=dr 9 rfl (h:=dr 10 rfl (h:=dr 11 rfl (h:=dr 12 rfl (h:=dr 13 rfl (h:=dr 14 rfl (h:=dr 15 rfl (h:=?_))))))));refine dr 16 rfl (h:=dr 17 rfl (h:=dr 18 rfl (h:=dr 19 rfl (h:=dr 20 rfl (h:=dr 21 rfl (h:=dr 22 rfl (h:=dr 23 rfl (h:=?_))))))));refine dq 24 rfl (h:=dq 25 rfl (h:=?_));refine dn ?_;go_wp2
         go_roundw
         case rel=>exact⟨k+1,(k:Int),nxt,by omega,by go_num,rfl,rfl,HP2.out,HN2.out,.inr ⟨k,rfl,Nat.lt_succ_self _⟩,by omega,HWu.out.drew⟩
         case measure=>simp[RowKit.intOf];omega
        ·have hd2:decide (bb<0)=false:=decide_eq_false hb0
         obtain⟨q,rfl,hqk⟩:∃q:Nat,bb=q/\q<k:=by
          rcases HBB.out with h|h
          ·exfalso;omega
          ·exact h
         obtain⟨y,b2,off2,hy,e2,hb2,r0,r1,r2⟩:=zfw (k:=q) (HR.out.on hB HBu.out) (by omega);injection e2 with e2;injection e2 with e2 e3;subst e2 e3;have HPK3:=hid (show za1 l ord t (l.drop (k+1)) (k+1) (if (q:Int)<0\/zdF x y=true then (k:Int) else (q:Int))=za1 l ord t l 0 (-1) by have:=HPK2.out;rwa[if_neg hta,zgV hy] at this);have hq0:(0:Int)<=q:=by omega
         have hqn:(q:Int)<n:=by omega
         have HOB:=hid (zpW x y);clear hy;rcases hbt:zdF x y with _|_
         ·have HP2:=hid (show za1 l ord t (l.drop (k+1)) (k+1) (q:Int)=za1 l ord t l 0 (-1) by have:=HPK3.out;rwa[hbt,if_neg (by simp)] at this);have hob:decide (orF (Lib.compareInt x.cls y.cls) (Lib.compareInt x.arr y.arr)<0)=false:=by rw[HOB.out,hbt]
          go_wp2_with fail
          refine ez (fun V=>Below u.heap.size u V) ?_ fun hHeld=>?_
          ·exact(Below.refl _ _).drew
          refine dq 0 rfl (h:=dq 1 rfl (h:=dq 2 rfl (h:=dq 3 rfl (h:=dq 4 rfl (hy:=by intro w hSw;(try dsimp only at hSw);(have e0:=zaa hSw p0);(have e1:=zaa hSw p1);(have e2:=zaa hSw p2);go_simp;try with_reducible rfl) (h:=dq 6 rfl (h:=dq 7 rfl (h:=dq 8 rfl (h:=?_))))))));refine dq 9 rfl (h:=dq 10 rfl (hy:=by intro w hSw;(try dsimp only at hSw);(have i0:=zaa hSw r0);(have i1:=zaa hSw r1);(have i2:=zaa hSw r2);go_simp;try with_reducible rfl) (h:=dq 13 rfl (h:=dq 14 rfl (hy:=by intro w hSw;(try dsimp only at hSw);(have e0:=zaa hSw p0);go_simp;try with_reducible rfl) (h:=dq 15 rfl (h:=dq 16 rfl (h:=dq 17 rfl (h:=dq 18 rfl (h:=?_))))))))
          refine dq 19 rfl (hy:=by intro w hSw;(try dsimp only at hSw);(have i0:=zaa hSw r0);go_simp;try with_reducible rfl) (h:=?_);refine rd 5 rfl fun K hK=>?_;go_simp;refine(zeZ x w.heap.size g8 _ (zaa hHeld ca)).mono ?_;rintro e v5 ⟨rfl,b5⟩
          go_wp2_with fail
          refine ke hK ?_ ?_
          ·exact zac hHeld b5 lr
          clear hK K hHeld;intro hHeld;refine rd 11 rfl fun K hK=>?_;go_simp;refine(zeZ y w.heap.size g8 _ (zaa hHeld ca)).mono ?_;rintro e v6 ⟨rfl,b6⟩
          go_wp2_with fail
          refine ke hK ?_ ?_
          ·exact zac hHeld b6 lr
          clear hK K hHeld;intro hHeld;refine rd 12 rfl fun K hK=>?_;go_simp;refine(zdi _ _ _).mono ?_;rintro e v7 ⟨rfl,h7⟩;rw[h7]
          go_wp2_with fail
          refine ke hK ?_ ?_
          ·exact hHeld
          clear hK K hHeld;intro hHeld;refine rd 20 rfl fun K hK=>?_;go_simp;refine(zdi _ _ _).mono ?_;rintro e v8 ⟨rfl,h8⟩;rw[h8]
          go_wp2_with fail
          refine ke hK ?_ ?_
          ·exact hHeld
          clear hK K hHeld;intro hHeld;refine rd 21 rfl fun K hK=>?_;go_simp;refine ke hK ?_ ?_
          ·exact zac hHeld (bal _) lr
          clear hK K hHeld;intro hHeld;refine rd 22 rfl fun K hK=>?_;go_simp;refine(zkZ _ _ _ _ (Blk.new _ _ _)).mono ?_;rintro e v9 ⟨rfl,h9⟩;rw[h9]
          go_wp2_with fail
          refine ke hK ?_ ?_
          ·exact hHeld
          clear hK K hHeld;intro hHeld;refine dq 23 rfl (h:=dq 24 rfl (h:=dq 25 rfl (h:=?_)));refine dn ?_;have HF:=hid hHeld;clear hHeld;go_wp2
          go_roundw
          case rel=>exact⟨k+1,(q:Int),nxt,by omega,by go_num,rfl,rfl,HP2.out,HN2.out,.inr ⟨q,rfl,by omega⟩,by omega,zac HWu.out HF.out lr⟩
          case measure=>simp[RowKit.intOf];omega
         ·have HP2:=hid (show za1 l ord t (l.drop (k+1)) (k+1) (k:Int)=za1 l ord t l 0 (-1) by have:=HPK3.out;rwa[hbt,if_pos (.inr rfl)] at this);have hob:decide (orF (Lib.compareInt x.cls y.cls) (Lib.compareInt x.arr y.arr)<0)=true:=by rw[HOB.out,hbt]
          go_wp2_with fail
          refine ez (fun V=>Below u.heap.size u V) ?_ fun hHeld=>?_
          ·exact(Below.refl _ _).drew
          refine dq 0 rfl (h:=dq 1 rfl (h:=dq 2 rfl (h:=dq 3 rfl (h:=dq 4 rfl (hy:=by intro w hSw;(try dsimp only at hSw);(have e0:=zaa hSw p0);(have e1:=zaa hSw p1);(have e2:=zaa hSw p2);go_simp;try with_reducible rfl) (h:=dq 6 rfl (h:=dq 7 rfl (h:=dq 8 rfl (h:=?_))))))));refine dq 9 rfl (h:=dq 10 rfl (hy:=by intro w hSw;(try dsimp only at hSw);(have i0:=zaa hSw r0);(have i1:=zaa hSw r1);(have i2:=zaa hSw r2);go_simp;try with_reducible rfl) (h:=dq 13 rfl (h:=dq 14 rfl (hy:=by intro w hSw;(try dsimp only at hSw);(have e0:=zaa hSw p0);go_simp;try with_reducible rfl) (h:=dq 15 rfl (h:=dq 16 rfl (h:=dq 17 rfl (h:=dq 18 rfl (h:=?_))))))))
          refine dq 19 rfl (hy:=by intro w hSw;(try dsimp only at hSw);(have i0:=zaa hSw r0);go_simp;try with_reducible rfl) (h:=?_);refine rd 5 rfl fun K hK=>?_;go_simp;refine(zeZ x w.heap.size g8 _ (zaa hHeld ca)).mono ?_;rintro e v5 ⟨rfl,b5⟩
          go_wp2_with fail
          refine ke hK ?_ ?_
          ·exact zac hHeld b5 lr
          clear hK K hHeld;intro hHeld;refine rd 11 rfl fun K hK=>?_;go_simp;refine(zeZ y w.heap.size g8 _ (zaa hHeld ca)).mono ?_;rintro e v6 ⟨rfl,b6⟩
          go_wp2_with fail
          refine ke hK ?_ ?_
          ·exact zac hHeld b6 lr
          clear hK K hHeld;intro hHeld;refine rd 12 rfl fun K hK=>?_;go_simp;refine(zdi _ _ _).mono ?_;rintro e v7 ⟨rfl,h7⟩;rw[h7]
          go_wp2_with fail
          refine ke hK ?_ ?_
          ·exact hHeld
          clear hK K hHeld;intro hHeld;refine rd 20 rfl fun K hK=>?_;go_simp;refine(zdi _ _ _).mono ?_;rintro e v8 ⟨rfl,h8⟩;rw[h8]
          go_wp2_with fail
          refine ke hK ?_ ?_
          ·exact hHeld
          clear hK K hHeld;intro hHeld;refine rd 21 rfl fun K hK=>?_;go_simp;refine ke hK ?_ ?_
          ·exact zac hHeld (bal _) lr
          clear hK K hHeld;intro hHeld;refine rd 22 rfl fun K hK=>?_;go_simp;refine(zkZ _ _ _ _ (Blk.new _ _ _)).mono ?_;rintro e v9 ⟨rfl,h9⟩;rw[h9]
          go_wp2_with fail
          refine ke hK ?_ ?_
          ·exact hHeld
          clear hK K hHeld;intro hHeld;refine dq 23 rfl (h:=dq 24 rfl (h:=dq 25 rfl (h:=?_)));refine dn ?_;have HF:=hid hHeld;clear hHeld;go_wp2
          go_roundw
          case rel=>exact⟨k+1,(k:Int),nxt,by omega,by go_num,rfl,rfl,HP2.out,HN2.out,.inr ⟨k,rfl,Nat.lt_succ_self _⟩,by omega,zac HWu.out HF.out lr⟩
          case measure=>simp[RowKit.intOf];omega
      ·rw[hh,if_pos rfl] at HPK2 HNX2;have HP2:=HPK2;have HN2:=HNX2;go_wp2
       go_roundw
       case rel=>exact⟨k+1,bb,nxt,by omega,by go_num,rfl,rfl,HP2.out,HN2.out,(by rcases HBB.out with h|⟨q,h,hq⟩;exact .inl h;exact .inr ⟨q,h,by omega⟩),by omega,HWu.out⟩
       case measure=>simp[RowKit.intOf];omega
     ·obtain rfl:n=k:=by omega
      have HP:=hid (show bb=za1 l ord t l 0 (-1) by have:=HPK.out;rw[<-HLN.out,List.drop_length] at this;exact this);have HN:=hid (show nxt=zb2 ord t l 0 (-1) by have:=HNX.out;rw[<-HLN.out,List.drop_length] at this;exact this);have HYs:=hid (HYs.out.on HWq.out);have HY8:=hid HY8q.out;have ct:=HY8q.out.cellAt 0 (by simp);have f8:=HY8q.out.frozen 0;simp only[List.getElem_toArray,List.getElem_cons_zero] at ct;by_cases hb0:bb<0
      ·have hd2:decide (bb<0)=true:=decide_eq_true hb0;obtain⟨hq',hlt',_⟩:=HQS.out.idle HOK.out HLT.out (by rw[<-HP.out];exact hb0);have hsv':=HSV.out.to_idle HLT.out (by rw[<-HP.out];exact hb0);rw[<-HN.out] at hq' hlt' hsv';have HQ2:=hid hq';have HSV2:=hid hsv';have hth':=hq'.high;have hleft:=hq'.left;have HLT2:=hid hlt';clear hq' hsv' hlt' hth' hleft;go_wp2
       go_roundw
       case rel=>
        refine⟨ord,nxt,A',m,d,ss,rfl,(HSq.out.boxNe (p:=⟨g8,0,none⟩) (fun ad had=>(HNE.out ad had).2) _).low,HY8.out.set_ 0 _,HYs.out.far (p:=⟨g8,0,none⟩) HGN.out.2.2 _,HSS.out,HNE.out,HQ2.out,HSV2.out,(zac HWr.out HWq.out lr).setCell (show W.heap.size<=g8 from HGL.out.2) _⟩
       case measure=>
        have h1:=zeR (HY8.out.set_ 0 (.int .i64 nxt));have h2:=zeR (show Blk wr g8 2 #[.int .i64 t] from HY8r.out);have h3:=HLT2.out;have h5:=HQ2.out.low;have h6:=HQ2.out.left;rw[h1,h2];simp only[lenV];have:=HLN.out;omega
      ·have hd2:decide (bb<0)=false:=decide_eq_false hb0
       obtain⟨q,rfl,hqn⟩:∃q:Nat,bb=q/\q<n:=by
        rcases HBB.out with h|h
        ·exfalso;omega
        ·exact h
       obtain⟨k',e1,e2,hq',htk⟩:=HQS.out.step HOK.out (by rw[<-HP.out];exact hb0);have hsv':=HSV.out.to_step HLT.out (by rw[<-HP.out];exact hb0);rw[<-HP.out] at hq' hsv' htk;obtain⟨y,b,off,hy,rfl,hb2,r0,r1,r2⟩:=zfw (k:=q) (HR.out.on hB HBq.out) hqn;rw[zgV hy] at hq' hsv' htk;have hyb:=HQ.out.2 y (List.mem_of_getElem? hy);obtain⟨tq,htk2⟩:∃z,y.tick=z:=⟨_,rfl⟩
       rw[htk2] at r1 hq' hsv' htk hyb;have HQ2:=hid hq';have HSV2:=hid hsv';have hq0:(0:Int)<=q:=by omega
       have hqnI:(q:Int)<n:=by omega
       have hzq:W.heap.size<=wq.heap.size:=Nat.le_trans HWr.out.size HWq.out.size
       have hwr:IntKind.i64.wrap (t+tq)=t+tq:=by
        unfold IntKind.wrap;simp[IntKind.bits,IntKind.signed];omega
       have hm12:m<=12:=by omega
       have HG8:=hid (show gs≠g8 from HGN.out.2.2);have HBB2:=hid hb2;have R1:=hid r1;clear hq' hsv' htk hy htk2 hyb e1 e2 r0 r2 r1 f8
       go_wp2_with fail
       refine ez (fun V=>V.cell? ⟨g8,0,none⟩=some (.int .i64 t)) ?_ fun hHeld=>?_
       ·exact ct
       refine dq 0 rfl (h:=dq 1 rfl (h:=dq 2 rfl (h:=dq 3 rfl (h:=dq 6 rfl (h:=?_)))));refine rd 4 rfl fun K hK=>?_;go_simp;refine ke hK ?_ ?_
       ·exact zaa (bal _) hHeld
       clear hK K hHeld;intro hHeld;refine rd 5 rfl fun K hK=>?_;refine zbH rfl _ _ 29 rfl 2 _ 1 8 underlying29 zaX rfl (by decide) (by decide) HSq.out.drew hzq rfl [.int .i64 (q:Int)] wq.heap.size rfl rfl rfl (fun u hu=>by simp at hu;subst hu;rfl) (by omega) ?_;intro A2 d2 w9 hs9 b9 f9 k9;refine ke hK ?_ ?_
       ·rw[World.cell?_of_block (f9 g8 (show g8<wq.heap.size from HY8.out.lt) (fun ad had=>(HNE.out ad had).2))];exact ct
       clear hK K hHeld;intro hHeld;refine dq 7 rfl (h:=dq 8 rfl (h:=?_));refine rd 9 rfl fun K hK=>?_;have ys9:Blk w9 gs 2 (ints ss).toArray:=(f9 gs (show gs<wq.heap.size from HYs.out.lt) (fun ad had=>(HNE.out ad had).1)).trans HYs.out;have qs9:=ys9.intAt (i:=q) (by rw[HSS.out];exact hqn);have qf9:=ys9.frozen q;go_simp;refine ke hK ?_ ?_
       ·rw[World.cell?_of_block (Below.heap_setCell w9 ⟨gs,q,none⟩ _ g8 (fun e=>HG8.out e.symm))];exact hHeld
       clear hK K hHeld;intro hHeld;refine dn ?_;have HS9:=hid hs9;have B9:=hid b9;have YS9:=hid ys9;have F9:=hid f9;have K9:=hid k9;clear hHeld hs9 b9 f9 k9 ys9 qs9 qf9 ct;obtain⟨z,hz⟩:∃y,w9.setCell ⟨gs,q,none⟩ (.int .i64 t)=y:=⟨_,rfl⟩
       have Y8b:=hid (show Blk z g8 2 #[.int .i64 t] by
        rw[<-hz];exact Blk.far ((F9.out g8 (show g8<wq.heap.size from HY8.out.lt) (fun ad had=>(HNE.out ad had).2)).trans HY8.out) (p:=⟨gs,q,none⟩) (fun e=>HG8.out e.symm) _)
       have YSb:=hid (show Blk z gs 2 (ints (ss.set q t)).toArray by rw[<-hz];exact zdI YS9.out q t)
       have HSb:=hid (show Sl z W.heap.size w9.heap.size 2 1 A2 (m+1) d2 (ints ord++ [.int .i64 (q:Int)]) by
        rw[<-hz];exact HS9.out.boxNe (p:=⟨gs,q,none⟩) (K9.out gs (show gs<wq.heap.size from HYs.out.lt) (fun ad had=>(HNE.out ad had).1)) _)
       have HWz:=hid (show Below W.heap.size W z by
        rw[<-hz];exact((zac HWr.out HWq.out lr).drew.trans B9.out).setCell (show W.heap.size<=gs from HGL.out.1) _)
       have HNZ:=hid (show∀ad,A2=some ad->ad.block≠gs/\ad.block≠g8 from fun ad had=>⟨K9.out gs (show gs<wq.heap.size from HYs.out.lt) (fun ad had=>(HNE.out ad had).1) ad had,K9.out g8 (show g8<wq.heap.size from HY8.out.lt) (fun ad had=>(HNE.out ad had).2) ad had⟩);have ct2:=Y8b.out.cellAt 0 (by simp);simp only[List.getElem_toArray,List.getElem_cons_zero] at ct2
       have ci:z.cell? ⟨b,off+q*3+1,none⟩=some (.int .i64 tq):=by
        rw[<-hz,World.cell?_of_block (Below.heap_setCell w9 ⟨gs,q,none⟩ _ b (by have:=HGL.out.1;have:=HBB2.out;show b≠gs;omega)),World.cell?_of_block (B9.out.block b (by have:=HBB2.out;show b<_;omega))];exact R1.out
       rw[hz];clear hz
       go_wp2_with fail
       refine ez (fun _=>True) ?_ fun hHeld=>?_
       ·trivial
       refine dq 1 rfl (h:=dq 2 rfl (h:=dq 3 rfl (h:=dq 4 rfl (h:=?_))));refine wpAnyH_ready (rs:=[0,5]) (by kernel_rfl) (by simp) ?_;refine AllReadyH.cons rfl (fun K hK=>?_) ?_
       ·skip
        go_simp;refine ke hK trivial fun _=>?_;clear hK K;refine rd 5 rfl fun K hK=>?_;go_simp;refine ke hK trivial fun _=>?_;clear hK K;refine dq 6 rfl (h:=?_);refine rd 7 rfl fun K hK=>?_;have f8:=Y8b.out.drew.frozen 0;go_simp;refine ke hK trivial fun _=>?_;clear hK K;refine dn ?_;clear hHeld ct2 ci;go_wp2
        go_roundw
        case rel=>
         refine⟨ord++ [(q:Int)],t+tq,A2,m+1,d2,ss.set q t,rfl,?_,?_,YSb.out.far (p:=⟨g8,0,none⟩) HG8.out _,by rw[List.length_set];exact HSS.out,HNZ.out,HQ2.out,HSV2.out,HWz.out.drew.setCell (show W.heap.size<=g8 from HGL.out.2) _⟩
         ·rw[<-zbp];exact(HSb.out.drew.boxNe (p:=⟨g8,0,none⟩) (fun ad had=>(HNZ.out ad had).2) _).low
         ·exact Y8b.out.drew.set_ 0 _
        case measure=>
         have h1:=zeR (Y8b.out.set_ 0 (.int .i64 (t+tq))).drew;have h2:=zeR (show Blk wr g8 2 #[.int .i64 t] from HY8r.out);rw[h1,h2];simp only[lenV];have:=HQ2.out.high;have:=HQ2.out.low;have:=HLN.out;omega
       refine AllReadyH.cons rfl (fun K hK=>?_) ?_
       ·skip
        go_simp;refine ke hK trivial fun _=>?_;clear hK K;refine rd 0 rfl fun K hK=>?_;go_simp;refine ke hK trivial fun _=>?_;clear hK K;refine dq 6 rfl (h:=?_);refine rd 7 rfl fun K hK=>?_;have f8:=Y8b.out.drew.frozen 0;go_simp;refine ke hK trivial fun _=>?_;clear hK K;refine dn ?_;clear hHeld ct2 ci;go_wp2
        go_roundw
        case rel=>
         refine⟨ord++ [(q:Int)],t+tq,A2,m+1,d2,ss.set q t,rfl,?_,?_,YSb.out.far (p:=⟨g8,0,none⟩) HG8.out _,by rw[List.length_set];exact HSS.out,HNZ.out,HQ2.out,HSV2.out,HWz.out.drew.setCell (show W.heap.size<=g8 from HGL.out.2) _⟩
         ·rw[<-zbp];exact(HSb.out.drew.boxNe (p:=⟨g8,0,none⟩) (fun ad had=>(HNZ.out ad had).2) _).low
         ·exact Y8b.out.drew.set_ 0 _
        case measure=>
         have h1:=zeR (Y8b.out.set_ 0 (.int .i64 (t+tq))).drew;have h2:=zeR (show Blk wr g8 2 #[.int .i64 t] from HY8r.out);rw[h1,h2];simp only[lenV];have:=HQ2.out.high;have:=HQ2.out.low;have:=HLN.out;omega
       exact AllReadyH.nil
   ·have hnl:decide ((m:Int)<n)=false:=decide_eq_false (by omega);have HE:=hid (HSV.out.at_end (show¬ord.length<l.length by rw[HLN.out,HMO.out];omega));go_wp2;go_ret2;exact⟨A',m,d,_,rfl,by rw[HE.out];exact HS.out.wide (Nat.le_of_lt hgW) lr,HBr.out⟩
end Go.Proofs.YtjalgpioklcbfaaGreatDoor
