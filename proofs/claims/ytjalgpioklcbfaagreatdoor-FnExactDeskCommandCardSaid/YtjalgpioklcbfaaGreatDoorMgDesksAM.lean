/- Steps of the proof. -/
import Derived.Test.YtjalgpioklcbfaaGreatDoorKWyC
set_option maxHeartbeats 4000000
set_option maxRecDepth 100000
set_option linter.unusedVariables false
set_option linter.unusedSimpArgs false
namespace Go.Proofs.YtjalgpioklcbfaaGreatDoor
section
open Go.RowKit Go.Lib Go.Proofs.Tryz
def znb(w:World)(g:Nat):List Int:=match w.heap[g]? with
 |some (.cells cs _ _)=>cs.toList.map RowKit.intOf
 |_=>[]
theorem zjV{w:World}{g:Nat}{t:TypeId}{l:List Int}(h:Blk w g t (ints l).toArray):znb w g=l:=by
 unfold znb;rw[show w.heap[g]?=some (.cells (ints l).toArray t (0,0)) from h];simp[ints,RowKit.intOf,Function.comp_def]
def zmC:Value->Bool
 | .bool b=>b
 |_=>false
def msr(l:List Int):Nat:=zd1 l*5000000+nSum l
theorem zpa:∀(l:List Int) (m:Nat),(∀x∈l,x<=(m:Int))->nSum l<=l.length*m
 | [],m,_=>Nat.zero_le _
 |x::l,m,h=>by
  have:=zpa l m fun y hy=>h y (List.mem_cons_of_mem _ hy);have:=h x (by simp);rw[nSum,List.length_cons,Nat.add_mul,Nat.one_mul];omega
theorem zso{x y:List Int}(h:Less y x)(hy:y.length<=10)(hb:∀j,0<=j->at0 y j<=480000):msr y<msr x:=by
 have h1:nSum y<=y.length*480000:=zpa y 480000 fun v hv=>by
  obtain⟨i,hi,rfl⟩:=List.mem_iff_getElem.1 hv;have:=hb i (by omega);unfold at0 at this;rw[Int.toNat_natCast,List.getD_eq_getElem?_getD,List.getElem?_eq_getElem hi] at this;exact this
 unfold msr;rcases h with h|⟨h,k⟩
 ·have:(zd1 y+1)*5000000<=zd1 x*5000000:=Nat.mul_le_mul_right _ h;omega
 ·rw[h];omega
theorem zne{s to_:Nat}{l:List Tb}(hto:to_<s)(hl:∀t∈l,OkT s t){k:Nat}(hk:s<=k):zaA l k (far0 s to_)=zaA l s (far0 s to_):=
 zjY l hk (zoQ (by omega) (by omega) hl)
theorem ztf{s to_:Nat}{l:List Tb}(hto:to_<s)(hs:s<=10)(hl:∀t∈l,OkT s t)(h24:l.length<=24)(k:Nat)(j:Int)(hj:0<=j):at0 (zaA l k (far0 s to_)) j<=480000:=by
 by_cases hk:k<=s
 ·have:=zfJ (l:=l) (n:=s) (to_:=to_) (by omega) (by omega) hl h24 k j hj;omega
 ·rw[zne hto hl (by omega)];have:=zfJ (l:=l) (n:=s) (to_:=to_) (by omega) (by omega) hl h24 s j hj;omega
theorem zsg{s to_:Nat}{l:List Tb}(hto:to_<s)(hl:∀t∈l,OkT s t){k:Nat}(hf:zbl l (zaA l k (far0 s to_))=zaA l k (far0 s to_)):zaA l k (far0 s to_)=zaA l s (far0 s to_):=by
 by_cases hk:k<=s
 ·exact(zjY l hk hf).symm
 ·exact zne hto hl (by omega)
def zdT(s k:Nat):List Int:=List.replicate k (-1)++List.replicate (s-k) 0
theorem zqD{s k:Nat}(hk:k<s):(zdT s k).set k (-1)=zdT s (k+1):=by
 unfold zdT;rw[List.set_append,if_neg (by simp),List.length_replicate,Nat.sub_self,show s-k=s-(k+1)+1 by omega,List.replicate_succ,List.set_cons_zero,List.replicate_succ',List.append_assoc]
 rfl
theorem zti(s:Nat):madeCells #[.int .i64 0] s=(ints (zdT s 0)).toArray:=by
 refine Array.ext (by simp[madeCells,ints,zdT]) fun i h1 h2=>?_;simp[madeCells,ints,zdT,Nat.mod_one]
theorem zka (A:Option Addr) (n c B g0:Nat) (x:Nt) (to_:Nat) (w:World) (h:zad w B 3 A n (tbs x.tubes)) (hB:B <= w.heap.size) (k0:w.cell? ⟨g0,0,none⟩ = some (.int .i64 x.sta)) (k1:w.cell? ⟨g0,1,none⟩ = some (.slice A n c)) (ho:okNt x = true) (h1:(to_:Int) < x.sta) :
  Calls prog 289 #[.pointer (some ⟨g0,0,none⟩),.int .i64 (to_:Int),.int .i64 (-1)] w fun e w'=>∃g,e= .returned (.slice (some ⟨g,0,none⟩) x.sta.toNat x.sta.toNat)/\Blk w' g 2 (ints (farF x to_)).toArray/\w.heap.size<=g/\Below w.heap.size w w':=by
 obtain⟨j1,j2,j3,j4⟩:=zbx ho;obtain⟨s,hs⟩:=Int.eq_ofNat_of_zero_le (show 0<=x.sta by omega);have hs':x.sta.toNat=s:=by omega
 have HF:=hid (show farF x to_=zaA x.tubes s (far0 s to_) by unfold farF;rw[hs']);have HX4:=hid j4;rw[hs'] at HX4;rw[hs'];rw[hs] at k0;have hln:x.tubes.length=n:=zbW h;have HL:=hid hln;have hn24:n<=24:=by omega
 have hs10:s<=10:=by omega
 have hs2:2<=s:=by omega
 have hto:to_<s:=by omega
 have hx24:=hid j3;have HR:=hid h;have HK1:=hid k1;have hmi:=zfN s (by omega);have HMI:=hid (zti s);clear h j4 j3 j1 j2 hs hs' hln ho h1 k1;go_enter func289,ntmps289
 go_wp2_with fail
 rw[HMI.out];obtain⟨u,hu⟩:∃y,w.alloc (.cells (ints (zdT s 0)).toArray 2)=y:=⟨_,rfl⟩
 have yu:Blk u w.heap.size 2 (ints (zdT s 0)).toArray:=by rw[<-hu];exact Blk.new _ _ _
 have bu:Below w.heap.size w u:=by rw[<-hu];exact bal _
 rw[hu];have HYU:=hid yu;have HBU:=hid bu;clear hu yu bu hmi k0
 go_loopw [8] (fun i wr=>∃k:Nat,k<=s/\i= .int .i64 k/\Blk wr w.heap.size 2 (ints (zdT s k)).toArray/\Below w.heap.size w wr) (fun i _=>s-(RowKit.intOf i).toNat)
 case atStart=>exact⟨0,Nat.zero_le _,rfl,HYU.out,HBU.out⟩
 case round=>
  obtain⟨k,hk,rfl,hy,hb⟩:=hrel;have HY:=hid hy;have HBr:=hid hb;have hk0:(0:Int)<=k:=by omega
  by_cases hlt:k<s
  ·have hks:(k:Int)<s:=by omega
   have fk:=hy.frozen k;have ck:=hy.intAt (i:=k) (by simp[zdT];omega);clear hy hb;go_wp2
   go_roundw
   case rel=>exact⟨k+1,by omega,by go_num,by rw[<-zqD hlt];exact zdI HY.out k _,HBr.out.setCell lr _⟩
   case measure=>simp[RowKit.intOf];omega
  ·obtain rfl:s=k:=by omega
   have hts:(to_:Int)<s:=by omega
   have hto0:(0:Int)<=to_:=by omega
   have fk:=hy.frozen to_;have ck:=hy.intAt (i:=to_) (by simp[zdT];omega);clear hy hb
   go_upto_region 7 with fail
   obtain⟨w3,hw3⟩:∃y,wr.setCell ⟨w.heap.size,to_,none⟩ (.int .i64 0)=y:=⟨_,rfl⟩
   have y3:Blk w3 w.heap.size 2 (ints (far0 s to_)).toArray:=by
    rw[<-hw3];have:=zdI HY.out to_ 0;rw[show zdT s s=List.replicate s (-1) by simp[zdT]] at this;exact this
   have b3:Below w.heap.size w w3:=by rw[<-hw3];exact HBr.out.setCell lr _
   rw[hw3];have H3:=hid y3;have HB3:=hid b3;have hlab0:=zgO (n:=s) (l:=x.tubes) hto0 hts;have HLAB:=hid hlab0;clear hw3 y3 b3 fk ck hlab0
   rename World=>wz
   clear HY HBr
   go_wp2_with fail
   go_loopw [9] (fun fl wr=>∃(k:Nat) (f:Bool),fl= .bool f/\Blk wr w.heap.size 2 (ints (zaA x.tubes k (far0 s to_))).toArray/\(f=false->zbl x.tubes (zaA x.tubes k (far0 s to_))=zaA x.tubes k (far0 s to_))/\Below w.heap.size w wr) (fun fl wr=>if zmC fl=true then msr (znb wr w.heap.size)+1 else 0)
   case atStart=>exact⟨0,true,rfl,H3.out,fun e=>(by cases e),HB3.out⟩
   case round=>
    obtain⟨k,f,rfl,hy,hfix,hb⟩:=hrel;have HY:=hid hy;have HFX:=hid hfix;have HBr:=hid hb;clear hy hfix hb
    cases f
    ·go_wp2;go_ret;exact⟨_,rfl,by rw[HF.out,<-zsg hto HX4.out (HFX.out (by first|rfl|trivial))];exact HY.out,Nat.le_refl _,HBr.out⟩
    rename World=>wo
    have HLk:=hid (Lab.iter hto0 HX4.out k HLAB.out);have HBD:=hid (fun k=>ztf (l:=x.tubes) hto (by omega) HX4.out hx24.out k);obtain⟨L,hL⟩:∃L,zaA x.tubes k (far0 s to_)=L:=⟨_,rfl⟩
    have HEL:=hid hL;rw[hL] at HY HLk;clear hL;have cA:=zaa HBr.out HK1.out
    go_wp2_with fail
    go_loopw [9,10] (fun fl i wq=>∃(j:Nat) (f:Bool),j<=n/\i= .int .i64 j/\fl= .bool f/\Blk wq w.heap.size 2 (ints ((x.tubes.take j).foldl zar L)).toArray/\(if f=true then Less ((x.tubes.take j).foldl zar L) L else (x.tubes.take j).foldl zar L=L)/\Below w.heap.size w wq) (fun _ i _=>n-(RowKit.intOf i).toNat)
    case atStart=>exact⟨0,false,Nat.zero_le _,rfl,rfl,by simpa using HY.out,by simp,HBr.out⟩
    case round=>
     rename World=>wq
     obtain⟨j,f,hj,rfl,rfl,hy,hf,hb⟩:=hrel;have HQ:=hid hy;have HFF:=hid hf;have HBq:=hid hb;clear hy hf hb cA;have cA:=zaa HBq.out HK1.out;by_cases hjt:j<n
     ·obtain⟨t,b,off,he,rfl,hb,q0,q1,q2⟩:=zdD (HR.out.on hB HBq.out) hjt;have hok:=HX4.out t (List.mem_of_getElem? he);have HOK:=hid hok;obtain⟨t1,t2,t3,t4,t5,t6,t7⟩:=hok;obtain⟨a,ha⟩:=Int.eq_ofNat_of_zero_le t1;obtain⟨d,hd⟩:=Int.eq_ofNat_of_zero_le t3;have hac:a<s:=by omega
      have hdc:d<s:=by omega
      have HLq:=hid (zgg hto0 HX4.out (x.tubes.take j) L (fun t ht=>List.mem_of_mem_take ht) HLk.out);have HBl:=hid (zgS (x.tubes.take j) L 480000 HLk.out.len (fun t ht=>HX4.out t (List.mem_of_mem_take ht)) (by rw[<-HEL.out];exact HBD.out k) (by omega));have HST:=hid (zjI (x:=L) he);obtain⟨M,hM⟩:∃M,(x.tubes.take j).foldl zar L=M:=⟨_,rfl⟩
      rw[hM] at HQ HLq HBl HST HFF;have hML:M.length=s:=HLq.out.len;have va:=HQ.out.intAt (i:=a) (by omega);have vd:=HQ.out.intAt (i:=d) (by omega);have ba:=HBl.out a (by omega);have bd:=HBl.out d (by omega);have sd:=HLq.out.sign d (by omega);have htk:(x.tubes.take j).length<=24:=by rw[List.length_take];have:=hx24.out;omega
      have HEA:=hid ha;have HED:=hid hd;have HLess:=hid (ziQ (n:=s) hML HOK.out);rw[ha] at q0;rw[hd] at q1;obtain⟨pa,hpa⟩:∃q,at0 M (a:Int)=q:=⟨_,rfl⟩
      obtain⟨pd,hpd⟩:∃q,at0 M (d:Int)=q:=⟨_,rfl⟩
      rw[hpa] at va ba;rw[hpd] at vd bd sd;have HPA:=hid hpa;have HPD:=hid hpd;obtain⟨ln,hln⟩:∃q,t.len=q:=⟨_,rfl⟩
      have HLN:=hid hln;rw[hln] at q2 t6 t7;have hj0:(0:Int)<=j:=by omega
      have hjn:(j:Int)<n:=by omega
      have hjm:((j:Int)==-1)=false:=by rw[beq_eq_false_iff_ne];omega
      have ha0:(0:Int)<=a:=by omega
      have has:(a:Int)<s:=by omega
      have hd0:(0:Int)<=d:=by omega
      have hds:(d:Int)<s:=by omega
      have hpdb:pd<=1000000:=by omega
      have hpdm:-1<=pd:=by omega
      clear he ha hd hM hML hpa hpd hln t1 t2 t3 t4 t5 bd ba sd htk
      go_upto_region 14 with fail
      obtain⟨u,hu⟩:∃y,wq.alloc (.cells #[.int .i64 (a:Int),.int .i64 (d:Int),.int .i64 ln] 101)=y:=⟨_,rfl⟩
      have yu:Blk u wq.heap.size 101 #[.int .i64 (a:Int),.int .i64 (d:Int),.int .i64 ln]:=by rw[<-hu];exact Blk.new _ _ _
      have bu:Below wq.heap.size wq u:=by rw[<-hu];exact bal _
      rw[hu];have p0:=yu.cellAt 0 (by simp);have p1:=yu.cellAt 1 (by simp);have p2:=yu.cellAt 2 (by simp);simp only[ly] at p0 p1 p2;replace va:=zaa bu va;replace vd:=zaa bu vd;have HOu:=hid (zac HBq.out bu lr);have HQu:=hid (HQ.out.on bu);have fau:=HQu.out.frozen a;clear hu bu q0 q1 q2 yu cA;by_cases hp:pd<0
      ·have hpt:decide (pd<0)=true:=decide_eq_true hp;have HK:=hid (show zar M t=M from zid (by rw[HED.out,HPD.out];omega));go_wp2
       go_roundw
       case rel=>exact⟨j+1,f,by omega,by go_num,rfl,by rw[HST.out,HK.out];exact HQu.out,by rw[HST.out,HK.out];exact HFF.out,HOu.out⟩
       case measure=>simp[RowKit.intOf];omega
      ·have hpt:decide (pd<0)=false:=decide_eq_false hp
       have hwr:IntKind.i64.wrap (pd+ln)=pd+ln:=by
        unfold IntKind.wrap;simp[IntKind.bits,IntKind.signed];omega
       go_wp2_with fail
       go_quiet (fail)
       rename_i nq;obtain⟨v,hv⟩:∃y,u.drewN nq=y:=⟨_,rfl⟩
       have HQv:=hid (show Blk v w.heap.size 2 (ints M).toArray by rw[<-hv];exact HQu.out);have HOv:=hid (show Below w.heap.size w v by rw[<-hv];exact zan HOu.out _);change (u.drewN nq).cell? _=_ at p0;rw[hv] at p0;change (u.drewN nq).cell? _=_ at p1;rw[hv] at p1;change (u.drewN nq).cell? _=_ at p2;rw[hv] at p2;change (u.drewN nq).cell? _=_ at va;rw[hv] at va;change (u.drewN nq).cell? _=_ at vd;rw[hv] at vd;change (u.drewN nq).frozen? _=_ at fau;rw[hv] at fau;rw[hv];clear hv
       have HUP:=hid (show zar M t=M.set a (pd+ln)->zar M t≠M->Less (zar M t) L from fun _ hne=>by
        rcases HLess.out with h|h
        ·exact absurd h hne
        ·have:=HFF.out
         cases f
         ·rw[if_neg (by decide)] at this;rw[<-this];exact h
         ·rw[if_pos rfl] at this;exact h.trans this)
       by_cases hpa:pa<0
       ·have hat:decide (pa<0)=true:=decide_eq_true hpa;have HK:=hid (show zar M t=M.set a (pd+ln) by rw[zf4 (by rw[HED.out,HPD.out];omega) (by rw[HEA.out,HED.out,HPA.out,HPD.out,HLN.out];omega),HED.out,HPD.out,HLN.out,HEA.out];rfl)
        have HNE:=hid (show zar M t≠M by
         intro e;rcases zb6 HLq.out.len HOK.out with ⟨_,h⟩|⟨_,_,_,h⟩
         ·rw[HED.out,HPD.out,HEA.out,HPA.out] at h;omega
         ·have:=h a (by omega);rw[e,HEA.out,if_pos rfl,HED.out,HPD.out,HPA.out,HLN.out] at this;omega)
        go_wp2
        go_roundw
        case rel=>exact⟨j+1,true,by omega,by go_num,rfl,by rw[HST.out,HK.out];exact zdI HQv.out a _,by rw[if_pos rfl,HST.out];exact HUP.out HK.out HNE.out,HOv.out.setCell lr _⟩
        case measure=>simp[RowKit.intOf];omega
       ·have hat:decide (pa<0)=false:=decide_eq_false hpa;by_cases hlt2:pd+ln<pa
        ·have hbt:decide (pd+ln<pa)=true:=decide_eq_true hlt2;have HK:=hid (show zar M t=M.set a (pd+ln) by rw[zf4 (by rw[HED.out,HPD.out];omega) (by rw[HEA.out,HED.out,HPA.out,HPD.out,HLN.out];omega),HED.out,HPD.out,HLN.out,HEA.out];rfl)
         have HNE:=hid (show zar M t≠M by
          intro e;rcases zb6 HLq.out.len HOK.out with ⟨_,h⟩|⟨_,_,_,h⟩
          ·rw[HED.out,HPD.out,HEA.out,HPA.out,HLN.out] at h;omega
          ·have:=h a (by omega);rw[e,HEA.out,if_pos rfl,HED.out,HPD.out,HPA.out,HLN.out] at this;omega)
         go_wp2
         go_roundw
         case rel=>exact⟨j+1,true,by omega,by go_num,rfl,by rw[HST.out,HK.out];exact zdI HQv.out a _,by rw[if_pos rfl,HST.out];exact HUP.out HK.out HNE.out,HOv.out.setCell lr _⟩
         case measure=>simp[RowKit.intOf];omega
        ·have hbt:decide (pd+ln<pa)=false:=decide_eq_false hlt2;have HK:=hid (show zar M t=M from zie (by rw[HED.out,HPD.out];omega) (by rw[HEA.out,HPA.out];omega) (by rw[HEA.out,HED.out,HPA.out,HPD.out,HLN.out];omega));go_wp2
         go_roundw
         case rel=>exact⟨j+1,f,by omega,by go_num,rfl,by rw[HST.out,HK.out];exact HQv.out,by rw[HST.out,HK.out];exact HFF.out,HOv.out⟩
         case measure=>simp[RowKit.intOf];omega
     ·obtain rfl:n=j:=by omega
      have HTK:=hid (show x.tubes.take n=x.tubes by rw[<-HL.out,List.take_length]);rw[HTK.out] at HQ HFF;have HIT:=hid (show zaA x.tubes (k+1) (far0 s to_)=x.tubes.foldl zar L by rw[zc0,HEL.out];rfl);go_wp2
      go_roundw
      case rel=>
       refine⟨k+1,f,rfl,by rw[HIT.out];exact HQ.out,fun e=>?_,HBq.out⟩;subst e;have:=HFF.out;rw[if_neg (by decide)] at this;rw[HIT.out,this];exact this
      case measure=>
       have hq:=zjV HQ.out;have hl:=zjV HY.out;rw[hq,hl];have:=HFF.out
       cases f
       ·simp[zmC]
       ·rw[if_pos rfl] at this;have h2:=zso this (by rw[zqE,HLk.out.len];omega) (by rw[<-HIT.out];exact HBD.out (k+1));simp[zmC];omega
theorem zlU(ts:List Int):∀(l m:List Rn),zaE ts (l++m)=zaE ts l++zaE ts m
 | [],m=>rfl
 |r::l,m=>by rw[List.cons_append,zaE,zaE,zlU ts l m,List.append_assoc]
theorem zhg{ts:List Int}{rs:List Rn}{k:Nat}{r:Rn}(h:rs[k]?=some r):zaE ts (rs.take (k+1))=zaE ts (rs.take k)++zay ts r.way r.st:=by
 rw[List.take_add_one,h,Option.toList_some,zlU,zaE,zaE,List.append_nil]
theorem zbG{ts:List Int}{rs:List Rn}(h:zap ts rs=true){k:Nat}{r:Rn}(hr:rs[k]?=some r):zaN ts r.way=true/\0<=r.st/\r.st<=100000:=by
 unfold zap at h;simp only[Bool.and_eq_true,List.all_eq_true] at h;have hk:=h.2.2 r (List.mem_of_getElem? hr);unfold zby at hk;rw[Bool.and_eq_true] at hk;exact⟨hk.1,(zam.1 hk.2).1,(zam.1 hk.2).2⟩
theorem zbB{ts:List Int}{rs:List Rn}(h:zap ts rs=true):rs.length<=12:=by
 unfold zap at h;simp only[Bool.and_eq_true,decide_eq_true_eq] at h;exact h.2.1
theorem zlV{ts:List Int}{rs:List Rn}(h:∀r∈rs,r.way.length<=12):(zaE ts rs).length<=12*rs.length:=by
 induction rs with
 |nil=>simp[zaE]
 |cons r rs ih=>
  have h1:=h r (by simp);have h2:=ih fun x hx=>h x (List.mem_cons_of_mem _ hx);rw[zaE,List.length_append,zb7,List.length_cons];omega
theorem zsT{ts:List Int}{rs:List Rn}{way:List Int}(h:zap ts rs=true)(hw:zaN ts way=true){a:Int}(ha:a<=100000):earl ts rs way a<=112000:=by
 obtain⟨e1,e2,e3⟩:=zeE h hw a;rcases hf:fits ts rs way 112000 with _|_
 ·obtain⟨s,hs,o,ho,hm⟩:=zgQ hf;have:=zoX h hw hs ho hm;omega
 ·by_cases hlt:112000<earl ts rs way a
  ·have:=e3 112000 (by omega) hlt;rw[hf] at this;cases this
  ·omega
theorem zmO (Q:Option Addr) (m d:Nat) (ts:List Int) (RA:Option Addr) (rn rc:Nat) (rs:List Rn) (A:Option Addr) (n c B:Nat) (way:List Int) (a0:Int) (w:World) (ht:zad w B 1 Q m (ints ts)) (hr:zaC w B RA rn rs) (h:zad w B 1 A n (ints way)) (hB:B <= w.heap.size) (hok:zap ts rs = true) (hw:zaN ts way = true) (h0:0 <= a0) (h1:a0 <= 100000) :
  Calls prog 148 #[.slice Q m d,.slice RA rn rc,.slice A n c,.int .i64 a0] w fun e w'=>e= .returned (.int .i64 (earl ts rs way a0))/\Below w.heap.size w w':=by
 have HOK:=hid hok;have HWY:=hid hw;have HRT:=hid ht;have HRR:=hid hr;have HR:=hid h;have HRL:=hid hr.len;have hr12:rn<=12:=by rw[<-hr.len];exact zbB hok
 have HTK:=hid (zlV (ts:=ts) (rs:=rs) (fun r hr=>by
  obtain⟨k,hk,he⟩:=List.getElem_of_mem hr;exact(zaJ (zbG hok (by rw[List.getElem?_eq_getElem hk,he])).1).1))
 have acc0:=Acc.made w 196 3;clear ht hr h hok hw;go_enter func148,ntmps148
 go_wp2_with fail
 go_loopw [9,20] (fun o i wr=>∃(k:Nat) (A':Option Addr) (q d':Nat),k<=rn/\i= .int .i64 (k:Int)/\o= .slice A' q d'/\Acc w.heap.size w.heap.size 196 3 w wr A' q d' (sps (zaE ts (rs.take k)))) (fun _ i _=>rn-(RowKit.intOf i).toNat)
 case atStart=>exact⟨0,_,_,_,Nat.zero_le _,rfl,rfl,acc0⟩
 case round=>
  obtain⟨k,A',q,d',hk,rfl,rfl,hacc⟩:=hrel;have HA:=hid hacc;have HBr:=hid (hacc.below (B:=w.heap.size) lr lr);clear acc0 hacc;have hk0:(0:Int)<=k:=by omega
  by_cases hlt:k<rn
  ·obtain⟨r,b,off,A2,m2,c2,he,rfl,hb,c0,c1,hrr,hm2⟩:=zcn (HRR.out.on hB HBr.out) hlt;obtain⟨hwo,hs0,hs1⟩:=zbG HOK.out he;have hwl:=zaJ hwo;have HWO:=hid hwo;have HSN:=hid (zhg (ts:=ts) he)
   have hql:q<=144:=by
    have h1:=HA.out.len
    have h2:=zlV (ts:=ts) (rs:=rs.take k) (fun r hr=>by
     have hr:=List.mem_of_mem_take hr;obtain⟨k,hk,he⟩:=List.getElem_of_mem hr;exact(zaJ (zbG HOK.out (by rw[List.getElem?_eq_getElem hk,he])).1).1)
    rw[zch] at h1;rw[List.length_take] at h2;have:=HRL.out;have h3:min k rs.length<=k:=Nat.min_le_left _ _;omega
   have hkn:(k:Int)<rn:=by omega
   obtain⟨st,hst⟩:∃z,r.st=z:=⟨_,rfl⟩
   have HST:=hid hst;rw[hst] at c1 hs0 hs1;have HRW:=hid hrr;have hml:=zai hrr;have hwl1:=hwl.1;have hwl2:=hwl.2.1;clear he hst hwo hrr hwl
   go_upto_region 5 with fail
   obtain⟨u,hu⟩:∃y,wr.alloc (.cells #[.slice A2 m2 c2,.int .i64 st] 123)=y:=⟨_,rfl⟩
   have yu:Blk u wr.heap.size 123 #[.slice A2 m2 c2,.int .i64 st]:=by rw[<-hu];exact Blk.new _ _ _
   have bu:Below wr.heap.size wr u:=by rw[<-hu];exact bal _
   rw[hu];have p0:=yu.cellAt 0 (by simp);have p1:=yu.cellAt 1 (by simp);simp only[ly] at p0 p1;have HAu:=hid (HA.out.on bu lr);have HBu:=hid (zac HBr.out bu lr);have HRu:=hid (HRW.out.on (Nat.le_trans hB HBr.out.size) bu);clear hu yu bu c0 c1
   go_wp2_with fail
   refine(zgz Q m d ts A2 m2 c2 B r.way st u (HRT.out.on hB HBu.out) HRu.out (Nat.le_trans hB HBu.out.size) (zaV HOK.out) HWO.out hs0 (by omega)).mono ?_;rintro e w5 ⟨A5,q5,d5,rfl,s5,b5⟩;have HA5:=hid (HAu.out.on b5 lr);have hq5:q5=r.way.length:=by have:=s5.len;rw[zch,zb7] at this;omega
   obtain⟨g5,rfl,_⟩:=s5.lt (by omega);have HS5:=hid s5;have hq12:q5<=12:=by omega
   clear b5 s5 p0 p1 hq5 hml
   go_wp2_with (at_builtin;refine zbI rfl _ _ 194 rfl 196 _ 3 24 underlying194 zjl rfl (by decide) (by decide) HA5.out lr rfl g5 0 q5 d5 (sps (zay ts r.way st)) rfl HS5.out.len (fun j u hu=>by rw[Nat.zero_add,HS5.out.cellAt j (by have:=HS5.out.len;have:=(List.getElem?_eq_some_iff.1 hu).1;omega)];exact hu) (zt4 _) (by omega) ?_;intro A3 d3 w9 hacc2;have HA9:=hid hacc2;clear hacc2)
   go_roundw
   case rel=>exact⟨k+1,_,_,_,by omega,by go_num,rfl,by rw[HSN.out,<-zt2,HST.out];exact HA9.out⟩
   case measure=>simp[RowKit.intOf];omega
  ·obtain rfl:rn=k:=by omega
   have hta:zaE ts (rs.take rn)=zaE ts rs:=by rw[<-HRL.out,List.take_length]
   have hsl:=HA.out.sl (lo:=w.heap.size) lr lr;rw[hta] at hsl;have HSL:=hid hsl;have HTB:=hid (fun o (ho:o∈zaE ts rs)=>zj1 HOK.out ho);have HE:=hid (zeE HOK.out HWY.out a0);have heb:=zsT HOK.out HWY.out h1;obtain⟨E,hE⟩:∃z,earl ts rs way a0=z:=⟨_,rfl⟩
   rw[hE] at HE heb;have HEE:=hid hE;have HFIT:=hid (fun a=>zrB (ts:=ts) (rs:=rs) (way:=way) (a:=a));have HJMP:=hid (fun a=>zrC (ts:=ts) (rs:=rs) (way:=way) (a:=a))
   have hql:q<=144:=by
    have h1:=hsl.len;rw[zch] at h1;have:=HTK.out;have:=HRL.out;omega
   have hq0:(zaE ts rs).length=q:=by have h1:=hsl.len;rw[zch] at h1;omega
   obtain⟨tk,htk⟩:∃z,zaE ts rs=z:=⟨_,rfl⟩
   rw[htk] at HSL HTB HFIT HJMP hq0;have HQ0:=hid hq0;have hE0:a0<=E:=HE.out.1;clear hta hsl hE htk hq0
   go_wp2_with fail
   go_loopw [3] (fun fr wv=>∃a:Int,fr= .int .i64 a/\a0<=a/\a<=E/\(∀y,a0<=y->y<a->fits ts rs way y=false)/\Below wr.heap.size wr wv) (fun fr _=>(E-RowKit.intOf fr).toNat)
   case atStart=>exact⟨a0,rfl,Int.le_refl _,hE0,fun y h2 h3=>by omega,Below.refl _ _⟩
   case round=>
    rename World=>wv
    obtain⟨a,rfl,ha0,haE,hno,hbv⟩:=hrel;have HNO:=hid hno;have HBv:=hid hbv;have HBw:=hid (zac HBr.out hbv lr);have ha00:0<=a:=by omega
    have ha9:a<=112000:=by omega
    clear hno hbv
    go_wp2_with fail
    refine(zgz Q m d ts A n c B way a wv (HRT.out.on hB HBw.out) (HR.out.on hB HBw.out) (Nat.le_trans hB HBw.out.size) (zaV HOK.out) HWY.out ha00 (by omega)).mono ?_;rintro e w5 ⟨A5,q5,d5,rfl,s5,b5⟩;have HB5:=hid (zac HBv.out b5 lr);have HSB:=hid (fun s (hs:s∈zay ts way a)=>zfY (zaV HOK.out) way a (zaJ HWY.out).2.2 s hs);have R5:=hid (s5.reads lr);have hq5:(zay ts way a).length=q5:=by have:=s5.len;rw[zch] at this;omega
    have hq12:q5<=12:=by have:=(zaJ HWY.out).1;rw[zb7] at hq5;omega
    have HFA:=hid (HFIT.out a);have HJA:=hid (HJMP.out a);obtain⟨sl,hsl⟩:∃z,zay ts way a=z:=⟨_,rfl⟩
    rw[hsl] at R5 HSB HFA HJA hq5;have HQ5:=hid hq5;clear b5 s5 hsl hq5
    go_wp2_with fail
    go_loopw [12,36] (fun wt i wx=>∃(k:Nat) (x:Int),k<=q5/\i= .int .i64 (k:Int)/\wt= .int .i64 x/\(0<=x/\x<=112000)/\zcX tk (sl.drop k) x=zcX tk sl 0/\Below w5.heap.size w5 wx) (fun _ i _=>q5-(RowKit.intOf i).toNat)
    case atStart=>exact⟨0,0,Nat.zero_le _,rfl,rfl,by omega,rfl,Below.refl _ _⟩
    case round=>
     rename World=>wx
     obtain⟨i,x,hi,rfl,rfl,hx,hwa,hbx⟩:=hrel;have HWA:=hid hwa;have HBx:=hid hbx;clear hwa hbx;have hi0:(0:Int)<=i:=by omega
     by_cases hit:i<q5
     ·obtain⟨s,b,off,he,rfl,hb,c0,c1,c2⟩:=zm8 (R5.out.on lr HBx.out) hit;have hsb:=HSB.out s (List.mem_of_getElem? he);have hst:=HWA.out;rw[zeD he,zcX] at hst;have HST:=hid hst;have hiq:(i:Int)<q5:=by omega
      have hse:0<=s.enter:=by omega
      have hse2:s.enter<=200000:=by have:=(zaJ HWY.out).1;omega
      clear he hst
      go_upto_region 11 with fail
      obtain⟨u,hu⟩:∃y,wx.alloc (.cells #[.int .i64 s.tube,.int .i64 s.enter,.int .i64 s.leave] 196)=y:=⟨_,rfl⟩
      have yu:Blk u wx.heap.size 196 #[.int .i64 s.tube,.int .i64 s.enter,.int .i64 s.leave]:=by rw[<-hu];exact Blk.new _ _ _
      have bu:Below wx.heap.size wx u:=by rw[<-hu];exact bal _
      rw[hu];have HYu:=hid yu;have HBu:=hid (zac HBx.out bu lr);clear hu yu bu c0 c1 c2
      go_wp2_with fail
      go_loopw [12,42] (fun wt j wy=>∃(k:Nat) (y:Int),k<=q/\j= .int .i64 (k:Int)/\wt= .int .i64 y/\(0<=y/\y<=112000)/\zcJ s (tk.drop k) y=zcJ s tk x/\Below u.heap.size u wy) (fun _ j _=>q-(RowKit.intOf j).toNat)
      case atStart=>exact⟨0,x,Nat.zero_le _,rfl,rfl,hx,rfl,Below.refl _ _⟩
      case round=>
       rename World=>wy
       obtain⟨j,y,hj,rfl,rfl,hy,hwl,hby⟩:=hrel;have HWL:=hid hwl;have HBy:=hid hby;have HBz:=hid (zac (zac HB5.out HBu.out lr) hby lr);clear hwl hby;have hj0:(0:Int)<=j:=by omega
       by_cases hjt:j<q
       ·obtain⟨o,b2,off2,he,rfl,hb2,c0,c1,c2⟩:=zm8 ((HSL.out.on HBz.out).low.reads lr) hjt;have hob:=HTB.out o (List.mem_of_getElem? he);have hst:=HWL.out;rw[zeD he,zcJ] at hst;have HSTL:=hid hst;have hjq:(j:Int)<q:=by omega
        clear he hst
        go_upto_region 14 with fail
        obtain⟨v,hv⟩:∃y,wy.alloc (.cells #[.int .i64 o.tube,.int .i64 o.enter,.int .i64 o.leave] 196)=y:=⟨_,rfl⟩
        have yv:Blk v wy.heap.size 196 #[.int .i64 o.tube,.int .i64 o.enter,.int .i64 o.leave]:=by rw[<-hv];exact Blk.new _ _ _
        have bv:Below wy.heap.size wy v:=by rw[<-hv];exact bal _
        rw[hv];have yu2:=(HYu.out.on HBy.out).on bv;have p0:=yv.cellAt 0 (by simp);have p1:=yv.cellAt 1 (by simp);have p2:=yv.cellAt 2 (by simp);have s0:=yu2.cellAt 0 (by simp);have s1:=yu2.cellAt 1 (by simp);have s2:=yu2.cellAt 2 (by simp);simp only[ly] at p0 p1 p2 s0 s1 s2;have HBn:=hid (zac HBy.out bv lr);clear hv yv bv yu2 c0 c1 c2
        go_wp2_with fail
        refine(zsn s o v).mono ?_;rintro e w8 ⟨rfl,b8⟩;have HB8:=hid (zac HBn.out b8 lr);replace p2:=zaa b8 p2;replace s1:=zaa b8 s1;clear b8 p0 p1 s0 s2;rcases hm:zbn s o with _|_
        ·have HN:=hid (show zcJ s (tk.drop (j+1)) y=zcJ s tk x by have:=HSTL.out;rwa[hm,if_neg (by decide)] at this);go_wp2
         go_roundw
         case rel=>exact⟨j+1,y,by omega,by go_num,rfl,hy,HN.out,HB8.out⟩
         case measure=>simp[RowKit.intOf];omega
        ·have HN:=hid (show zcJ s (tk.drop (j+1)) (max y (o.leave-s.enter))=zcJ s tk x by have:=HSTL.out;rwa[hm,if_pos rfl] at this)
         have hwr:IntKind.i64.wrap (o.leave-s.enter)=o.leave-s.enter:=by
          unfold IntKind.wrap;simp[IntKind.bits,IntKind.signed];omega
         go_wp2
         go_roundw
         case rel=>exact⟨j+1,max y (o.leave-s.enter),by omega,by go_num,rfl,by omega,HN.out,HB8.out⟩
         case measure=>simp[RowKit.intOf];omega
       ·obtain rfl:q=j:=by omega
        have HN:=hid (show zcX tk (sl.drop (i+1)) y=zcX tk sl 0 by
         have h1:=HWL.out;rw[<-HQ0.out,List.drop_length,zcJ] at h1;have:=HST.out;rwa[<-h1] at this)
        go_wp2
        go_roundw
        case rel=>exact⟨i+1,y,by omega,by go_num,rfl,hy,HN.out,zac HBu.out HBy.out lr⟩
        case measure=>simp[RowKit.intOf];omega
     ·obtain rfl:q5=i:=by omega
      have hw0:x=zcX tk sl 0:=by have h1:=HWA.out;rw[<-HQ5.out,List.drop_length,zcX] at h1;exact h1
      by_cases hx0:x=0
      ·have hfit:=HFA.out (by rw[<-hw0];exact hx0);have HEQ:=hid (HE.out.uniq ⟨ha0,hfit,HNO.out⟩);have hxx:(x==0)=true:=by rw[hx0];rfl
       have HF:=hid (zac HBr.out (zac HB5.out HBx.out lr) lr);clear hw0 hx0;go_wp2;go_ret;exact⟨by rw[HEE.out,HEQ.out];rfl,HF.out⟩
      ·have hj:=HJA.out (by rw[<-hw0];exact hx0);rw[<-hw0] at hj
       have hle:a+x<=E:=by
        by_cases hlt:E<a+x
        ·have he:=HE.out.2.1;by_cases hEa:E<a
         ·rw[HNO.out E hE0 hEa] at he;cases he
         ·rw[hj E (by omega) hlt] at he;cases he
        ·omega
       have HJ:=hid hj;have hxx:(x==0)=false:=by simpa using hx0
       clear hj hw0;go_wp2
       go_roundw
       case rel=>
        refine⟨a+x,by go_num,by omega,hle,fun y h2 h3=>?_,zac HB5.out HBx.out lr⟩;by_cases hya:y<a
        ·exact HNO.out y h2 hya
        ·exact HJ.out y (by omega) h3
       case measure=>simp[RowKit.intOf];omega
theorem zpH (A:Option Addr) (n c B g0:Nat) (x:Nt) (p q:Nat) (w:World) (h:zad w B 3 A n (tbs x.tubes)) (hB:B <= w.heap.size) (k0:w.cell? ⟨g0,0,none⟩ = some (.int .i64 x.sta)) (k1:w.cell? ⟨g0,1,none⟩ = some (.slice A n c)) (ho:okNt x = true) (hps:(p:Int) < x.sta) (hqs:(q:Int) < x.sta) (hpos:0 <= at0 (farF x q) (p:Int)) :
  Calls prog 244 #[.pointer (some ⟨g0,0,none⟩),.int .i64 (p:Int),.int .i64 (q:Int)] w fun e w'=>∃A' m d,e= .returned (.slice A' m d)/\Sl w' w.heap.size w'.heap.size 2 1 A' m d (ints (wayG x.tubes (farF x q) (q:Int) (p:Int)))/\Below w.heap.size w w':=by
 obtain⟨j1,j2,j3,j4⟩:=zbx ho;obtain⟨s,hs⟩:=Int.eq_ofNat_of_zero_le (show 0<=x.sta by omega);have hs':x.sta.toNat=s:=by omega
 have HX4:=hid j4;rw[hs'] at HX4;have hln:x.tubes.length=n:=zbW h;have HLN:=hid hln;have hn24:n<=24:=by omega
 have HFAR:=hid (zka A n c B g0 x q w h hB k0 k1 ho hqs);rw[hs'] at HFAR;have HR:=hid h;have HK1:=hid k1;have HL:=hid (zgP ho (by omega) hqs);have HBD:=hid (zkS ho (by omega) hqs);have HSTEP:=hid (fun(r:Nat) (h1:(r:Int)<x.sta) h2 h3=>zmi ho (to_:=(q:Int)) (by omega) hqs (p:=(r:Int)) (by omega) h1 h2 h3);have HEND:=hid (zob (x:=x) (to_:=(q:Int)));obtain⟨L,hL⟩:∃L,farF x (q:Int)=L:=⟨_,rfl⟩
 rw[hL] at HL HBD HSTEP HEND HFAR hpos;rw[hL];have hLl:L.length=s:=by rw[<-hs'];exact HL.out.len
 have HLL:=hid hLl
 have hfl:(wayG x.tubes L (q:Int) (p:Int)).length<=480001:=by
  have hfu:=zfb x.tubes L (q:Int) ((at0 L (p:Int)).toNat+1) (p:Int);have:=HBD.out (p:Int) (by omega);unfold wayG;omega
 have HFL:=hid hfl;have HSE:=hid hs;have HPS:=hid (And.intro hps hpos);clear h k0 k1 ho j1 j2 j3 j4 hs hs' hln hL hLl hfl hps hpos hqs;go_enter func244,ntmps244
 go_wp2_with fail
 refine HFAR.out.mono ?_;rintro e w2 ⟨g,rfl,y2,hg,b2⟩;have H2:=hid y2;have HB2:=hid b2;have HS0:=hid ((Acc.made w2 2 1).sl (lo:=w2.heap.size) lr lr);clear y2 b2 hg
 go_wp2_with fail
 go_loopw [8,9] (fun o pf wr=>∃(r:Nat) (done:List Int) (A':Option Addr) (m d:Nat),pf= .int .i64 (r:Int)/\o= .slice A' m d/\(r:Int)<x.sta/\0<=at0 L (r:Int)/\Sl wr w2.heap.size wr.heap.size 2 1 A' m d (ints done)/\done++wayG x.tubes L (q:Int) (r:Int)=wayG x.tubes L (q:Int) (p:Int)/\Below w2.heap.size w2 wr) (fun _ pf _=>(at0 L (RowKit.intOf pf)).toNat)
 case atStart=>exact⟨p,[],_,_,_,rfl,rfl,HPS.out.1,HPS.out.2,HS0.out.low,rfl,bal _⟩
 case round=>
  obtain⟨r,done,A',m,d',rfl,rfl,hrs,hr0,hsl,hdone,hbel⟩:=hrel;have HS:=hid hsl;have HD:=hid hdone;have HBr:=hid (zac HB2.out hbel lr);have HLr:=hid (H2.out.on hbel);have HZr:=hid hbel.size;have HW2:=hid hbel
  have hm:m<=480001:=by
   have h1:=hsl.len;have h2:=congrArg List.length hdone;have h3:=HFL.out;rw[za4] at h1;rw[List.length_append] at h2;omega
  clear hsl hdone hbel;by_cases hrq:r=q
  ·subst hrq;have HE:=hid (show done=wayG x.tubes L (r:Int) (p:Int) by have:=HD.out;rw[HEND.out,List.append_nil] at this;exact this);go_wp2;go_ret;exact⟨A',m,d',rfl,by rw[<-HE.out];exact HS.out.wide HB2.out.size lr,HBr.out⟩
  ·obtain⟨i,t,hti,hst,hall,ht0,htlt,htt,htt2,hcons⟩:=HSTEP.out r hrs hr0 (by omega);have hnn:((r:Int) !=(q:Int))=true:=by rw[bne_iff_ne];omega
   have hin:i<n:=by rw[<-HLN.out];exact(List.getElem?_eq_some_iff.1 hti).1
   have HTI:=hid hti;have HST:=hid hst;have HALL:=hid hall;have HCONS:=hid hcons;have HT0:=hid (And.intro ht0 (And.intro htlt (And.intro htt htt2)));have hr1:(r:Int)<s:=by rw[<-HSE.out];exact hrs
   have hr2:(0:Int)<=r:=by omega
   have cr:=HLr.out.intAt (i:=r) (by rw[HLL.out];omega);obtain⟨pr,hpr⟩:∃z,at0 L (r:Int)=z:=⟨_,rfl⟩
   rw[hpr] at cr;have HPR:=hid hpr;have HCR:=hid cr;clear hti hst hall hcons ht0 htlt htt htt2 hrs hr0 hpr cr
   rename World=>wo
   go_wp2_with fail
   go_loopw [8,9,10] (fun o pf i' wq=>o= .slice A' m d'/\pf= .int .i64 (r:Int)/\∃j:Nat,j<=i/\i'= .int .i64 (j:Int)/\Below wo.heap.size wo wq) (fun _ _ i' _=>n-(RowKit.intOf i').toNat)
   case atStart=>exact⟨rfl,rfl,0,Nat.zero_le _,rfl,Below.refl _ _⟩
   case round=>
    rename World=>wq
    obtain⟨rfl,rfl,j,hj,rfl,hbq⟩:=hrel;have HQ:=hid hbq;have HBq:=hid (zac HBr.out hbq lr);have hjn:j<n:=by omega
    obtain⟨t2,b,off,he,rfl,hb,q0,q1,q2⟩:=zdD (HR.out.on hB HBq.out) hjn;have cA:=zaa HBq.out HK1.out;have HE:=hid he;obtain⟨t1,_,t3,t4,t5,t6,t7⟩:=HX4.out t2 (List.mem_of_getElem? he);obtain⟨a,ha⟩:=Int.eq_ofNat_of_zero_le t1;obtain⟨d,hd⟩:=Int.eq_ofNat_of_zero_le t3;have hdc:d<s:=by omega
    have vd:=(HLr.out.on HQ.out).intAt (i:=d) (by rw[HLL.out];omega);have vr:=zaa HQ.out HCR.out;have bd:=HBD.out (d:Int) (by omega);have sd:=HL.out.sign (d:Int) (by omega);have HEA:=hid ha;have HED:=hid hd;rw[ha] at q0;rw[hd] at q1;obtain⟨pd,hpd⟩:∃z,at0 L (d:Int)=z:=⟨_,rfl⟩
    rw[hpd] at vd bd sd;have HPD:=hid hpd;obtain⟨ln,hln⟩:∃z,t2.len=z:=⟨_,rfl⟩
    have HLNN:=hid hln;rw[hln] at q2 t6 t7;have hj0:(0:Int)<=j:=by omega
    have hji:(j:Int)<n:=by omega
    have hd0:(0:Int)<=d:=by omega
    have hds:(d:Int)<s:=by omega
    have hpdm:-1<=pd:=by omega
    have hwr:IntKind.i64.wrap (pd+ln)=pd+ln:=by
     unfold IntKind.wrap;simp[IntKind.bits,IntKind.signed];omega
    have HNX:=hid (show zc3 L (r:Int) t2=false->j+1<=i from fun hf=>by
     rcases Nat.lt_or_ge j i with h|h
     ·exact h
     ·have e:j=i:=by omega
      subst e;have h1:=HTI.out;rw[HE.out] at h1;injection h1 with h1;rw[h1,HST.out] at hf
      cases hf)
    have HIF:=hid (show zc3 L (r:Int) t2=true->j=i/\t2=t from fun hf=>by
     rcases Nat.lt_or_ge j i with h|h
     ·have:=HALL.out j t2 h HE.out;rw[hf] at this
      cases this
     ·have e:j=i:=by omega
      subst e;have h1:=HTI.out;rw[HE.out] at h1;injection h1 with h1;exact⟨rfl,h1⟩)
    clear he ha hd hpd hln t1 t3 t4 t5 bd sd
    go_upto_region 9 with fail
    obtain⟨u,hu⟩:∃y,wq.alloc (.cells #[.int .i64 (a:Int),.int .i64 (d:Int),.int .i64 ln] 101)=y:=⟨_,rfl⟩
    have yu:Blk u wq.heap.size 101 #[.int .i64 (a:Int),.int .i64 (d:Int),.int .i64 ln]:=by rw[<-hu];exact Blk.new _ _ _
    have bu:Below wq.heap.size wq u:=by rw[<-hu];exact bal _
    rw[hu];have p0:=yu.cellAt 0 (by simp);have p1:=yu.cellAt 1 (by simp);have p2:=yu.cellAt 2 (by simp);simp only[ly] at p0 p1 p2;replace vd:=zaa bu vd;replace vr:=zaa bu vr;have HOu:=hid (zac HQ.out bu lr);clear hu bu q0 q1 q2 cA;by_cases h1:(a:Int)=r;rotate_left
    ·have e1:((a:Int)==(r:Int))=false:=by simpa using h1
     have HF:=hid (show zc3 L (r:Int) t2=false from zim (fun h=>by rw[HEA.out] at h;exact h1 h.1));clear h1
     go_wp2_with fail
     go_quiet (fail)
     go_wp2
     go_roundw
     case rel=>exact⟨rfl,rfl,j+1,HNX.out HF.out,by go_num,zan HOu.out _⟩
     case measure=>simp[RowKit.intOf];omega
    have e1:((a:Int)==(r:Int))=true:=by simpa using h1
    have H1:=hid h1;clear h1;by_cases h2:0<=pd;rotate_left
    ·have e2:decide (0<=pd)=false:=decide_eq_false h2;have HF:=hid (show zc3 L (r:Int) t2=false from zim (fun h=>by rw[HED.out,HPD.out] at h;exact h2 h.2.1))
     go_wp2_with fail
     go_quiet (fail)
     go_wp2
     go_roundw
     case rel=>exact⟨rfl,rfl,j+1,HNX.out HF.out,by go_num,zan HOu.out _⟩
     case measure=>simp[RowKit.intOf];omega
    by_cases h3:pd+ln=pr;rotate_left
    ·have e3:((pd+ln)==pr)=false:=by simpa using h3
     have HF:=hid (show zc3 L (r:Int) t2=false from zim (fun h=>by rw[HED.out,HPD.out,HLNN.out,HPR.out] at h;exact h3 h.2.2))
     go_wp2_with fail
     go_quiet (fail)
     go_wp2
     go_roundw
     case rel=>exact⟨rfl,rfl,j+1,HNX.out HF.out,by go_num,zan HOu.out _⟩
     case measure=>simp[RowKit.intOf];omega
    have e3:((pd+ln)==pr)=true:=by simpa using h3
    have hij:=HIF.out (zex.2 ⟨by rw[HEA.out];exact H1.out,by rw[HED.out,HPD.out];exact h2,by rw[HED.out,HPD.out,HLNN.out,HPR.out];exact h3⟩);obtain⟨rfl,hte⟩:=hij;have HTE:=hid hte;clear hte h3
    go_wp2_with fail
    go_quiet (fail)
    rename_i nq;obtain⟨v,hv⟩:∃y,u.drewN nq=y:=⟨_,rfl⟩
    have HBv:=hid (show Below wo.heap.size wo v by rw[<-hv];exact zan HOu.out _);change (u.drewN nq).cell? _=_ at p1;rw[hv] at p1;rw[hv];have hVU:u.heap.size<=v.heap.size:=by rw[<-hv];exact Nat.le_refl _
    have yv:Blk v wq.heap.size 101 #[.int .i64 (a:Int),.int .i64 (d:Int),.int .i64 ln]:=by rw[<-hv];exact yu
    have hbv:wq.heap.size<v.heap.size:=yv.lt;have HSv:=hid (HS.out.on HBv.out).low;have HNE9:=hid (show∀ad,A'=some ad->ad.block≠wq.heap.size from fun ad had=>by have:=HS.out.2 ad had;have:=HQ.out.size;omega);have hzv:w2.heap.size<=v.heap.size:=Nat.le_trans HZr.out HBv.out.size;clear hv p0 p2 vd vr hVU yv yu
    go_wp2_with (at_builtin;refine zat rfl _ _ 29 rfl 2 _ 1 8 underlying29 zaX rfl (by decide) (by decide) HSv.out hzv rfl [.int .i64 (j:Int)] v.heap.size rfl rfl rfl (fun u hu=>by simp at hu;subst hu;rfl) (by omega) ?_;intro A2 d2 w9 hs9 b9 z9 f9 k9;have HS9:=hid hs9;have HB9:=hid b9;have p1:=(show w9.cell? ⟨wq.heap.size,1,none⟩=some (.int .i64 (d:Int)) from by rw[World.cell?_of_block (f9 wq.heap.size hbv HNE9.out)];exact p1);clear hs9 b9 f9 k9)
    go_roundw
    case rel=>
     have hT:=HT0.out;rw[<-HTE.out,HED.out] at hT;refine⟨d,done++ [(j:Int)],A2,m+1,d2,rfl,rfl,hT.2.2.2,hT.1,?_,?_,?_⟩
     ·rw[<-zbp];exact HS9.out
     ·rw[List.append_assoc,<-HD.out,HCONS.out,<-HTE.out,HED.out];rfl
     ·exact(zac HW2.out HBv.out lr).trans HB9.out
    case measure=>
     have hT:=HT0.out;rw[<-HTE.out,HED.out] at hT;simp only[RowKit.intOf];omega
def zcI(x:Nt)(a b:Int):Int:=if okNt x=false then 1 else if (inR a 0 (x.sta-1)&&inR b 0 (x.sta-1))=false then 2 else 0
theorem zmH{x:Nt}{a b:Int}(h:zcI x a b≠0):wayC x a b=([],zcI x a b):=by
 unfold zcI at h⊢;unfold wayC
 split
 ·rfl
 ·rename_i h1;rw[if_neg h1] at h
  split
  ·rfl
  ·rename_i h2;rw[if_neg h2] at h;exact absurd rfl h
theorem zmI{x:Nt}{a b:Int}(h:zcI x a b=0):okNt x=true/\(0<=a/\a<x.sta)/\(0<=b/\b<x.sta)/\wayC x a b=if at0 (farF x b) a<0 then ([],3) else (wayG x.tubes (farF x b) b a,0):=by
 unfold zcI at h
 split at h
 ·cases h
 ·rename_i h1
  split at h
  ·cases h
  ·rename_i h2;have h3:(inR a 0 (x.sta-1)&&inR b 0 (x.sta-1))=true:=by simpa using h2
   have h4:=h3;rw[Bool.and_eq_true] at h4;have h5:=zam.1 h4.1;have h6:=zam.1 h4.2;refine⟨by simpa using h1,⟨h5.1,by omega⟩,⟨h6.1,by omega⟩,?_⟩;unfold wayC;rw[if_neg h1,h3];rfl
theorem zot (A:Option Addr) (n c B g0:Nat) (x:Nt) (a b:Int) (w:World) (h:zad w B 3 A n (tbs x.tubes)) (hB:B <= w.heap.size) (hn:n <= 1048576) (k0:w.cell? ⟨g0,0,none⟩ = some (.int .i64 x.sta)) (k1:w.cell? ⟨g0,1,none⟩ = some (.slice A n c)) :
  Calls prog 288 #[.pointer (some ⟨g0,0,none⟩),.int .i64 a,.int .i64 b] w fun e w'=>e= .returned (.int .i64 (zcI x a b))/\Below w.heap.size w w':=by
 have HC:=hid (zfh A n c B g0 x w h hB hn k0 k1);have HK0:=hid k0;clear h k0 k1;rcases e1:okNt x with _|_
 ·have HO:=hid (show zcI x a b=1 by unfold zcI;rw[if_pos e1]);rw[e1] at HC;clear e1;go_enter func288,ntmps288
  go_wp2_with fail
  refine HC.out.mono ?_;rintro e w1 ⟨rfl,b1⟩;go_wp2;go_ret;exact⟨za3 HO.out.symm,b1⟩
 have hsta:=(zbx e1).1;have hsta2:=(zbx e1).2.1;have HO:=hid (show zcI x a b=if (inR a 0 (x.sta-1)&&inR b 0 (x.sta-1))=false then 2 else 0 by unfold zcI;rw[if_neg (by rw[e1];decide)]);rw[e1] at HC;clear e1;have HW:=hid (show wrap64 (x.sta-1)=x.sta-1 by unfold wrap64;omega);go_enter func288,ntmps288
 go_wp2_with fail
 refine HC.out.mono ?_;rintro e w1 ⟨rfl,b1⟩;have HB1:=hid b1;have c0:=zaa b1 HK0.out;clear b1;rcases e2:inR a 0 (x.sta-1) with _|_
 ·have HO2:=hid (show zcI x a b=2 by rw[HO.out,e2];rfl)
  go_wp2_with fail
  try rw[HW.out]
  refine(za2 _ _ _ _).mono ?_;rintro e w2 ⟨rfl,rfl⟩;rw[e2];clear e2;go_wp2;go_ret;exact⟨za3 HO2.out.symm,HB1.out⟩
 ·have HO2:=hid (show zcI x a b=if inR b 0 (x.sta-1)=false then 2 else 0 by rw[HO.out,e2,Bool.true_and])
  go_wp2_with fail
  try rw[HW.out]
  refine(za2 _ _ _ _).mono ?_;rintro e w2 ⟨rfl,rfl⟩;rw[e2];clear e2;rcases e3:inR b 0 (x.sta-1) with _|_
  ·have HO3:=hid (show zcI x a b=2 by rw[HO2.out,e3];rfl)
   go_wp2_with fail
   try rw[HW.out]
   refine(za2 _ _ _ _).mono ?_;rintro e w2 ⟨rfl,rfl⟩;rw[e3];clear e3;go_wp2;go_ret;exact⟨za3 HO3.out.symm,HB1.out⟩
  ·have HO3:=hid (show zcI x a b=0 by rw[HO2.out,e3];rfl)
   go_wp2_with fail
   try rw[HW.out]
   refine(za2 _ _ _ _).mono ?_;rintro e w2 ⟨rfl,rfl⟩;rw[e3];clear e3;go_wp2;go_ret;exact⟨za3 HO3.out.symm,HB1.out⟩
theorem zoE (A:Option Addr) (n c B:Nat) (x:Nt) (a b:Int) (w:World) (h:zad w B 3 A n (tbs x.tubes)) (hB:B <= w.heap.size) (hn:n <= 1048576) :
  Calls prog 243 #[.agg #[.int .i64 x.sta,.slice A n c],.int .i64 a,.int .i64 b] w fun e w'=>(∃v,e= .returned (.tuple #[.int .i64 v,.int .i64 (wayC x a b).2]))/\Below w.heap.size w w':=by
 obtain⟨W,hW,y0,hb⟩:∃W,W=w.alloc (.cells #[.int .i64 x.sta,.slice A n c] 28)/\Blk W w.heap.size 28 #[.int .i64 x.sta,.slice A n c]/\Below w.heap.size w W:=⟨_,rfl,Blk.new _ _ _,bal _⟩
 have HW:=hid hW;have HB:=hid hb;have c0:=y0.cellAt 0 (by simp);have c1:=y0.cellAt 1 (by simp);simp only[ly] at c0 c1;have HR:=hid (h.on hB hb);have HBW:=hid (Nat.le_trans hB hb.size);have HK0:=hid c0;have HK1:=hid c1;clear hW hb y0 h c0 c1;go_enter func243,ntmps243
 go_upto_region 1 with fail
 rw[<-HW.out]
 go_wp2_with fail
 refine(zot A n c B _ x a b W HR.out HBW.out hn HK0.out HK1.out).mono ?_;rintro e w1 ⟨rfl,b1⟩;have HB1:=hid (zac HB.out b1 lr);have HBB:=hid b1;clear b1;by_cases h0:zcI x a b=0;rotate_left
 ·have HO:=hid (zmH h0);have hne:(zcI x a b !=0)=true:=by simpa using h0
  obtain⟨v,hv⟩:∃v,zcI x a b=v:=⟨_,rfl⟩
  rw[hv] at hne HO⊢;clear h0 hv;go_wp2;go_ret2;exact⟨⟨_,by rw[HO.out];rfl⟩,HB1.out⟩
 obtain⟨hok,ha,hb,hwc⟩:=zmI h0;rw[h0];clear h0;obtain⟨p,rfl⟩:=Int.eq_ofNat_of_zero_le ha.1;obtain⟨q,rfl⟩:=Int.eq_ofNat_of_zero_le hb.1;obtain⟨s,hs⟩:=Int.eq_ofNat_of_zero_le (show 0<=x.sta by omega);have hs':x.sta.toNat=s:=by omega
 have hps:(p:Int)<s:=by omega
 have HFAR:=hid (zka A n c B _ x q w1 (HR.out.on HBW.out HBB.out) (Nat.le_trans HBW.out HBB.out.size) (zaa HBB.out HK0.out) (zaa HBB.out HK1.out) hok hb.2);have hlen:=(zgP hok (by omega) hb.2).len;rw[hs'] at HFAR hlen;obtain⟨L,hL⟩:∃L,farF x (q:Int)=L:=⟨_,rfl⟩
 rw[hL] at HFAR hwc hlen;have HWC:=hid hwc;have HLEN:=hid hlen;clear hok ha hb hwc hs hs' hL hlen
 go_wp2_with fail
 refine HFAR.out.mono ?_;rintro e w2 ⟨g,rfl,y2,hg,b2⟩;have HB2:=hid (zac HB1.out b2 lr);have cp:=y2.intAt (i:=p) (by rw[HLEN.out];omega);obtain⟨pp,hpp⟩:∃z,at0 L (p:Int)=z:=⟨_,rfl⟩
 rw[hpp] at cp HWC;have hp0:(0:Int)<=p:=by omega
 clear y2 b2 hpp hg;by_cases hneg:pp<0
 ·have hd:decide (pp<0)=true:=decide_eq_true hneg;have HO:=hid (show(wayC x (p:Int) (q:Int)).2=3 by rw[HWC.out,if_pos hneg]);go_wp2;go_ret2;exact⟨⟨_,by rw[HO.out];rfl⟩,HB2.out⟩
 ·have hd:decide (pp<0)=false:=decide_eq_false hneg;have HO:=hid (show(wayC x (p:Int) (q:Int)).2=0 by rw[HWC.out,if_neg hneg]);go_wp2;go_ret2;exact⟨⟨_,by rw[HO.out];rfl⟩,HB2.out⟩
theorem zoF (A:Option Addr) (n c B:Nat) (x:Nt) (a b:Int) (w:World) (h:zad w B 3 A n (tbs x.tubes)) (hB:B <= w.heap.size) (hn:n <= 1048576) :
  Calls prog 185 #[.agg #[.int .i64 x.sta,.slice A n c],.int .i64 a,.int .i64 b] w fun e w'=>∃A' m d,e= .returned (.tuple #[.slice A' m d,.int .i64 (wayC x a b).2])/\Sl w' w.heap.size w'.heap.size 2 1 A' m d (ints (wayC x a b).1)/\Below w.heap.size w w':=by
 obtain⟨W,hW,y0,hb⟩:∃W,W=w.alloc (.cells #[.int .i64 x.sta,.slice A n c] 28)/\Blk W w.heap.size 28 #[.int .i64 x.sta,.slice A n c]/\Below w.heap.size w W:=⟨_,rfl,Blk.new _ _ _,bal _⟩
 have HW:=hid hW;have HB:=hid hb;have c0:=y0.cellAt 0 (by simp);have c1:=y0.cellAt 1 (by simp);simp only[ly] at c0 c1;have HR:=hid (h.on hB hb);have HBW:=hid (Nat.le_trans hB hb.size);have HK0:=hid c0;have HK1:=hid c1;have HCALL:=hid (zoE A n c B x a b W (h.on hB hb) (Nat.le_trans hB hb.size) hn);clear hW hb y0 h;go_enter func185,ntmps185
 go_upto_region 1 with fail
 rw[<-HW.out]
 go_wp2_with fail
 refine HCALL.out.mono ?_;rintro e w1 ⟨⟨v0,rfl⟩,b1⟩;have HB1:=hid (zac HB.out b1 lr);have HBB:=hid b1;clear b1 c0 c1;by_cases h0:(wayC x a b).2=0;rotate_left
 ·have hne:((wayC x a b).2 !=0)=true:=by simpa using h0
  have HO:=hid (show(wayC x a b).1=[] by
   unfold wayC at h0⊢
   split
   ·rfl
   ·rename_i h1;rw[if_neg h1] at h0
    split
    ·rfl
    ·rename_i h2;rw[if_neg h2] at h0
     split
     ·rfl
     ·rename_i h3;rw[if_neg h3] at h0;exact absurd rfl h0)
  obtain⟨v,hv⟩:∃v,(wayC x a b).2=v:=⟨_,rfl⟩
  rw[hv] at hne⊢;have HV:=hid hv;clear h0 hv;go_wp2;go_ret2;exact⟨none,0,0,by rw[HV.out];rfl,by rw[HO.out];exact Sl.nil _ _ _ _ _,HB1.out⟩
 have h2:zcI x a b=0:=by
  refine Classical.byContradiction fun hc=>?_;have:=zmH hc;rw[this] at h0;exact hc h0
 obtain⟨hok,ha,hb,hwc⟩:=zmI h2
 have hpos:0<=at0 (farF x b) a:=by
  refine Classical.byContradiction fun hc=>?_;rw[hwc,if_pos (by omega)] at h0;exact absurd h0 (by decide)
 rw[if_neg (by omega)] at hwc;rw[h0];obtain⟨p,rfl⟩:=Int.eq_ofNat_of_zero_le ha.1;obtain⟨q,rfl⟩:=Int.eq_ofNat_of_zero_le hb.1;have HWAY:=hid (zpH A n c B _ x p q w1 (HR.out.on HBW.out HBB.out) (Nat.le_trans HBW.out HBB.out.size) (zaa HBB.out HK0.out) (zaa HBB.out HK1.out) hok ha.2 hb.2 hpos);have HWC:=hid hwc;clear h0 h2 hok ha hb hwc hpos
 go_wp2_with fail
 refine HWAY.out.mono ?_;rintro e w2 ⟨A',m,d,rfl,s2,b2⟩;have HS:=hid s2;have HB2:=hid (zac HB1.out b2 lr);clear b2 s2;go_wp2;go_ret2;exact⟨A',m,d,by rw[HWC.out];rfl,by rw[HWC.out];exact HS.out.wide HB1.out.size lr,HB2.out⟩
end
end Go.Proofs.YtjalgpioklcbfaaGreatDoor
