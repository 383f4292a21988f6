/- The spans in a tube, as the reference lists them: rows of two numbers, each put in its place. -/
import Derived.Test.YtjalgpioklcbfaaGreatDoorMgDesksAP
set_option maxHeartbeats 4000000
set_option maxRecDepth 100000
set_option linter.unusedVariables false
set_option linter.unusedSimpArgs false
namespace Go.Proofs.YtjalgpioklcbfaaGreatDoor
open Go.RowKit Go.Lib Go.Proofs.Tryz
structure Pr where
 g:Nat
 e:Int
 l:Int
def prV(g:Nat):Value:=.slice (some ⟨g,0,none⟩) 2 2
def prH(L:List Pr):List Value:=L.map fun p=>prV p.g
theorem zf3(L:List Pr):(prH L).length=L.length:=by simp[prH]
theorem zpg(L M:List Pr):prH (L++M)=prH L++prH M:=by simp[prH]
theorem zfD(L:List Pr):∀u∈prH L,u.oneCell'=true:=by
 intro u hu;obtain⟨x,_,rfl⟩:=List.mem_map.1 hu
 rfl
structure Prs (w:World) (g n c:Nat) (L:List Pr):Prop where
 row:Sl w 0 w.heap.size 29 1 (some ⟨g,0,none⟩) n c (prH L)
 at_:∀p∈L,Blk w p.g 2 #[.int .i64 p.e,.int .i64 p.l]
section
variable {w w':World}{g n c k:Nat}{L:List Pr}
theorem Prs.on(h:Prs w g n c L)(hb:Below w.heap.size w w'):Prs w' g n c L:=⟨(h.row.on hb).low,fun p hp=>(h.at_ p hp).on hb⟩
theorem Prs.len(h:Prs w g n c L):L.length=n:=by have:=h.row.len;rw[zf3] at this;omega
theorem Prs.cap(h:Prs w g n c L):n<=c:=by
 rcases h.row.form with ⟨h1,_⟩|⟨_,_,_,_,_,_,h1,_⟩
 ·cases h1
 ·exact h1
theorem zsI(h:Prs w g n c L)(hk:k<n):∃p,L[k]?=some p/\w.cell? ⟨g,k,none⟩=some (.slice (some ⟨p.g,0,none⟩) 2 2)/\w.cell? ⟨p.g,0,none⟩=some (.int .i64 p.e)/\w.cell? ⟨p.g,1,none⟩=some (.int .i64 p.l):=by
 have hl:=h.len;have he:L[k]?=some (L[k]'(by omega)):=List.getElem?_eq_getElem (by omega);have hb:=h.at_ _ (List.mem_of_getElem? he);refine⟨_,he,?_,hb.cellAt 0 (by simp),hb.cellAt 1 (by simp)⟩;rw[h.row.cellAt k (by omega)];simp[prH,he,prV]
end
def zed(L:List Pr)(S:List Sp):Prop:=∀e l:Int,(∃p∈L,p.e=e/\p.l=l)↔∃s∈S,s.enter=e/\s.leave=l
theorem zed.nil:zed [] []:=fun e l=>by simp
theorem zed.put{L:List Pr}{S:List Sp}(h:zed L S)(k:Nat){x:Pr}{s:Sp}(h1:x.e=s.enter)(h2:x.l=s.leave):zed (L.take k++ [x]++L.drop k) (S++ [s]):=by
 intro e l
 have hm:∀p,p∈L.take k++ [x]++L.drop k↔p∈L\/p=x:=fun p=>by
  conv=>rhs;rw[<-List.take_append_drop k L]
  simp only[List.mem_append,List.mem_singleton];constructor
  ·rintro ((h|h)|h)
   ·exact .inl (.inl h)
   ·exact .inr h
   ·exact .inl (.inr h)
  ·rintro ((h|h)|h)
   ·exact .inl (.inl h)
   ·exact .inr h
   ·exact .inl (.inr h)
 constructor
 ·rintro ⟨p,hp,e1,e2⟩;rcases(hm p).1 hp with hp|rfl
  ·obtain⟨q,hq,q1⟩:=(h e l).1 ⟨p,hp,e1,e2⟩;exact⟨q,List.mem_append_left _ hq,q1⟩
  ·exact⟨s,List.mem_append_right _ (by simp),by rw[<-h1];exact e1,by rw[<-h2];exact e2⟩
 ·rintro ⟨q,hq,e1,e2⟩;rcases List.mem_append.1 hq with hq|hq
  ·obtain⟨p,hp,p1⟩:=(h e l).2 ⟨q,hq,e1,e2⟩;exact⟨p,(hm p).2 (.inl hp),p1⟩
  ·rw[List.mem_singleton] at hq;subst hq;exact⟨x,(hm x).2 (.inr rfl),by rw[h1];exact e1,by rw[h2];exact e2⟩
theorem Prs.takeLen{w:World}{g n c kk:Nat}{L:List Pr}(h:Prs w g n c L)(hk:kk<=n):(prH (L.take kk)).length=kk*1:=by
 rw[zf3,List.length_take,h.len,Nat.mul_one];omega
theorem Prs.dropLen{w:World}{g n c kk:Nat}{L:List Pr}(h:Prs w g n c L)(hk:kk<=n):(prH (L.drop kk)).length=(n-kk)*1:=by
 rw[zf3,List.length_drop,h.len,Nat.mul_one]
theorem Prs.headAt{w:World}{g n c:Nat}{L:List Pr}(h:Prs w g n c L){j:Nat}{u:Value}(hu:(prH L)[j]?=some u):w.cell? ⟨g,j,none⟩=some u:=by
 have hj:=(List.getElem?_eq_some_iff.1 hu).1;rw[zf3,h.len] at hj;rw[h.row.cellAt j (by omega)];exact hu
theorem Prs.takeAt{w:World}{g n c kk:Nat}{L:List Pr}(h:Prs w g n c L)(hk:kk<=n):0<kk->∃b off,some (⟨g,0,none⟩:Addr)=some ⟨b,off,none⟩/\∀j u,(prH (L.take kk))[j]?=some u->w.cell? ⟨b,off+j,none⟩=some u:=fun _=>by
 refine⟨g,0,rfl,fun j u hu=>?_⟩;rw[Nat.zero_add];have e:prH (L.take kk)=(prH L).take kk:=by simp[prH]
 rw[e,List.getElem?_take] at hu
 split at hu
 ·exact h.headAt hu
 ·cases hu
theorem Prs.dropAt{w:World}{g n c kk:Nat}{L:List Pr}{TA:Option Addr}(h:Prs w g n c L)(hk:kk<=n)(hTA:(if c=kk then some (⟨g,0,none⟩:Addr) else some ⟨g,kk,none⟩)=TA):0<n-kk->∃b off,TA=some ⟨b,off,none⟩/\∀j u,(prH (L.drop kk))[j]?=some u->w.cell? ⟨b,off+j,none⟩=some u:=fun hp=>by
 have hc:=h.cap;rw[if_neg (by omega)] at hTA;refine⟨g,kk,hTA.symm,fun j u hu=>?_⟩;have e:prH (L.drop kk)=(prH L).drop kk:=by simp[prH]
 rw[e,List.getElem?_drop] at hu;exact h.headAt hu
theorem zla {w w':World} {g n c gx kk d z:Nat} {L:List Pr} {e l:Int} {A:Option Addr} (h:Prs w g n c L) (hx:Blk w gx 2 #[.int .i64 e,.int .i64 l]) (b:Below w.heap.size w w') (hg:gx < w.heap.size) (hk:kk <= n)
  (s:Sl w' z w'.heap.size 29 1 A (kk+1+(n-kk)) d ([]++prH (L.take kk)++ [prV gx]++prH (L.drop kk))):∃g9,A=some ⟨g9,0,none⟩/\Prs w' g9 (n+1) d (L.take kk++ [⟨gx,e,l⟩]++L.drop kk):=by
 obtain⟨g9,rfl,_,_,_⟩:=s.lt (by omega);rw[show kk+1+(n-kk)=n+1 by omega] at s;refine⟨g9,rfl,?_,fun p hp=>?_⟩
 ·rw[zpg,zpg];exact s.wide (Nat.zero_le _) lr
 ·simp only[List.mem_append,List.mem_singleton] at hp;rcases hp with (hp|rfl)|hp
  ·exact(h.at_ p (List.mem_of_mem_take hp)).on b
  ·exact hx.on b
  ·exact(h.at_ p (List.mem_of_mem_drop hp)).on b
theorem zqS (Q:Option Addr) (m d:Nat) (ts:List Int) (RA:Option Addr) (rn rc:Nat) (rs:List Rn) (B:Nat) (tube:Int) (w:World) (ht:zad w B 1 Q m (ints ts)) (hr:zaC w B RA rn rs) (hB:B <= w.heap.size) (hok:zap ts rs = true) :
  Calls prog 236 #[.slice Q m d,.slice RA rn rc,.int .i64 tube] w fun e w'=>∃g n c L,e= .returned (.slice (some ⟨g,0,none⟩) n c)/\Prs w' g n c L/\zed L (zef ts rs tube)/\n<=1048576/\Below w.heap.size w w':=by
 have HOK:=hid hok;have HRT:=hid ht;have HRR:=hid hr;have HRL:=hid hr.len;have hr12:rn<=12:=by rw[<-hr.len];exact zbB hok
 have s0:=((Acc.made w 29 1).sl (lo:=w.heap.size) lr lr).wide (lo':=0) (Nat.zero_le _) lr;have HP0:=hid (show Prs (w.alloc (.cells #[] 29)) w.heap.size 0 0 [] from⟨s0.low,fun p hp=>by cases hp⟩);have HB0:=hid ((Below.refl w.heap.size w).alloc lr (.cells #[] 29));obtain⟨p,hp⟩:∃p:Sp->Bool,p=fun s=>s.tube==tube:=⟨_,rfl⟩
 have HP:=hid (show∀s:Sp,p s=(s.tube==tube) by intro s;rw[hp]);have HIN:=hid (show zef ts rs tube=(zaE ts rs).filter p by rw[hp];rfl);clear ht hr hok hp s0;go_enter func236,ntmps236
 go_wp2_with fail
 go_loopw [7,8] (fun o i wr=>∃(k g q c:Nat) (L:List Pr),k<=rn/\i= .int .i64 (k:Int)/\o= .slice (some ⟨g,0,none⟩) q c/\q<=12*k/\Prs wr g q c L/\zed L ((zaE ts (rs.take k)).filter p)/\Below w.heap.size w wr) (fun _ i _=>rn-(RowKit.intOf i).toNat)
 case atStart=>exact⟨0,_,0,0,[],Nat.zero_le _,rfl,rfl,by omega,HP0.out,zed.nil,HB0.out⟩
 case round=>
  obtain⟨k,go,q,c,L,hk,rfl,rfl,hq,hprs,hsame,hbel⟩:=hrel;have HPR:=hid hprs;have HSA:=hid hsame;have HBr:=hid hbel;clear hprs hsame hbel;have hk0:(0:Int)<=k:=by omega
  by_cases hlt:k<rn
  ·have hkn:(k:Int)<rn:=by omega
   obtain⟨r,rb,ro,RAw,rm,rcc,hre,rfl,hrb,rc0,rc1,hrd⟩:=zcn (HRR.out.on hB HBr.out) hlt;obtain⟨q1,q2,q3⟩:=zbG HOK.out hre;have HSP:=hid (ze5 Q m d ts RAw rm rcc B rb (ro+k*2) r.way r.st _ (HRT.out.on hB HBr.out) hrd.1 (Nat.le_trans hB HBr.out.size) rc0 rc1 (zaV HOK.out) q1 q2 (by omega));have HWL:=hid (zaJ q1).1;have HSN:=hid (zhg (ts:=ts) hre);have hsl:=(zb7 ts r.way r.st).trans (zai hrd.1);obtain⟨S,hS⟩:∃z,zay ts r.way r.st=z:=⟨_,rfl⟩
   rw[hS] at HSP hsl HSN;have HSL:=hid hsl;clear hre rc0 rc1 hrd q1 q2 q3 hsl hS
   go_wp2_with fail
   refine HSP.out.mono ?_;rintro e w3 ⟨P1,dp,gs,rfl,s3,_,b3⟩;have HQ:=hid s3;have HB3:=hid (zac HBr.out b3 lr);have HPR3:=hid (HPR.out.on b3);clear s3 b3;have hrm:rm<=12:=by have:=HQ.out.len;have:=HSL.out;have:=HWL.out;omega
   obtain⟨pre,hpre⟩:∃z,(zaE ts (rs.take k)).filter p=z:=⟨_,rfl⟩
   rw[hpre] at HSA;have HNX:=hid (show(zaE ts (rs.take (k+1))).filter p=pre++S.filter p by rw[HSN.out,List.filter_append,hpre]);clear hpre
   go_wp2_with fail
   go_loopw [7,10] (fun o i wx=>∃(j g q2 c2:Nat) (L:List Pr),j<=rm/\i= .int .i64 (j:Int)/\o= .slice (some ⟨g,0,none⟩) q2 c2/\q2<=12*k+j/\Prs wx g q2 c2 L/\zed L (pre++(S.take j).filter p)/\Below w3.heap.size w3 wx) (fun _ i _=>rm-(RowKit.intOf i).toNat)
   case atStart=>exact⟨0,_,_,_,_,Nat.zero_le _,rfl,rfl,by omega,HPR3.out,by rw[List.take_zero,List.filter_nil,List.append_nil];exact HSA.out,Below.refl _ _⟩
   case round=>
    rename World=>wx
    obtain⟨j,go2,n2,c2,L2,hj,rfl,rfl,hn2,hprs,hsame,hbel⟩:=hrel;have HP2:=hid hprs;have HS2:=hid hsame;have HBx:=hid hbel;clear hprs hsame hbel;have hj0:(0:Int)<=j:=by omega
    by_cases hjt:j<rm
    ·have hjn:(j:Int)<rm:=by omega
     obtain⟨s,hs⟩:=ze1 HSL.out hjt;obtain⟨ga,ra,rfl,ca,a0,a1,a2⟩:=zil (HQ.out.on HBx.out) hjt hs;have HFS:=hid (zfH (p:=p) hs);have HPS:=HP.out s;obtain⟨st,se,sl⟩:=s;simp only at a0 a1 a2 HPS;clear hs;by_cases hst:st=tube;rotate_left
     ·have d1:(st !=tube)=true:=by simpa using hst
      have d2:(st==tube)=false:=by simpa using hst
      have HNO:=hid (show(S.take (j+1)).filter p=(S.take j).filter p by rw[HFS.out,HPS,d2];simp);clear HPS d2
      go_wp2_with fail
      go_roundw
      case rel=>exact⟨j+1,_,_,_,_,by omega,by go_num,rfl,by omega,HP2.out,by rw[HNO.out];exact HS2.out,HBx.out⟩
      case measure=>simp[RowKit.intOf];omega
     have d1:(st !=tube)=false:=by simpa using hst
     have HYES:=hid (show(S.take (j+1)).filter p=(S.take j).filter p++ [⟨st,se,sl⟩] by rw[HFS.out,HPS,hst];simp);clear HPS hst
     go_upto_region 10 with fail
     refine ez (fun V=>V.cell? ⟨ga,j,none⟩=some (.slice (some ⟨ra,0,none⟩) 3 3)/\V.cell? ⟨ra,1,none⟩=some (.int .i64 se)/\V.cell? ⟨ra,2,none⟩=some (.int .i64 sl)) ?_ fun hHeld=>?_
     ·exact⟨ca,a1,a2⟩
     refine dq 0 rfl (h:=dq 1 rfl (h:=dq 2 rfl (h:=dq 3 rfl (h:=dq 4 rfl (h:=dq 5 rfl (h:=dq 6 rfl (h:=dq 7 rfl (h:=?_))))))));refine dq 8 rfl (h:=dq 9 rfl (h:=dq 10 rfl (h:=dq 11 rfl (h:=?_))));refine rd 12 rfl fun K hK=>?_;go_simp;refine ke hK ?_ ?_
     ·exact⟨zaa (bal _) hHeld.1,zaa (bal _) hHeld.2.1,zaa (bal _) hHeld.2.2⟩
     clear hK K hHeld;intro hHeld;refine dq 13 rfl (h:=?_);refine dn ?_;obtain⟨v,hv⟩:∃y,(wx.alloc (.cells #[.int .i64 se,.int .i64 sl] 2)).drew=y:=⟨_,rfl⟩
     have yv:Blk v wx.heap.size 2 #[.int .i64 se,.int .i64 sl]:=by rw[<-hv];exact(Blk.new wx _ _).drew
     have bv:Below wx.heap.size wx v:=by rw[<-hv];exact(bal _).drew
     rw[hv];have HBV:=hid (zac HBx.out bv lr);have HPV:=hid (HP2.out.on bv);have YV:=hid yv;clear hHeld hv yv bv ca a0 a1 a2
     go_wp2_with fail
     go_loopw [12] (fun i wy=>∃kk:Nat,kk<=n2/\i= .int .i64 (kk:Int)/\Below v.heap.size v wy) (fun i _=>(RowKit.intOf i).toNat)
     case atStart=>exact⟨n2,Nat.le_refl _,rfl,Below.refl _ _⟩
     case round=>
      rename World=>wy
      obtain⟨kk,hkk,rfl,hbel⟩:=hrel;have HBy:=hid hbel;have x0:=(YV.out.on hbel).cellAt 0 (by simp);have x1:=(YV.out.on hbel).cellAt 1 (by simp);simp only[ly] at x0 x1;clear hbel;have hkk0:(0:Int)<=kk:=by omega
      rcases Nat.eq_zero_or_pos kk with hkz|hkp
      ·have d1:decide ((0:Int)<(kk:Int))=false:=decide_eq_false (by omega);have dn:decide (0<kk)=false:=decide_eq_false (by omega);clear hkz
       go_wp2_with fail
       go_quiet (fail)
       rename_i nq;obtain⟨wz,hwz⟩:∃y,wy.drewN nq=y:=⟨_,rfl⟩
       have bz:Below v.heap.size v wz:=by rw[<-hwz];exact zan HBy.out _
       rw[hwz];have HPZ:=hid (HPV.out.on bz);have HYZ:=hid (YV.out.on bz);have HBZ:=hid (zac HBV.out bz lr);have HGX:=hid (show wx.heap.size<wz.heap.size from Nat.lt_of_lt_of_le YV.out.lt bz.size);clear hwz bz x0 x1 d1 dn;have s0:=(Acc.made wz 29 1).sl (lo:=wz.heap.size) lr lr;have b0:Below wz.heap.size wz (wz.alloc (.cells #[] 29)):=bal _;obtain⟨W0,hW0⟩:∃y,wz.alloc (.cells #[] 29)=y:=⟨_,rfl⟩
       rw[hW0] at s0 b0;have HS0:=hid s0;have HB0:=hid b0;have HP0:=hid (HPZ.out.on b0);have HW0:=hid hW0;clear s0 b0 hW0;have hkc:(kk:Int)<=(c2:Int):=by have:=HPZ.out.cap;omega
       go_upto_region 15 with (at_builtin;rw[HW0.out];refine zdg rfl _ _ 190 rfl 29 _ 1 24 underlying190 zda rfl (by decide) (by decide) HS0.out HB0.out.size rfl (some ⟨go2,0,none⟩) kk c2 (prH (L2.take kk)) rfl (HP0.out.takeLen hkk) (HP0.out.takeAt hkk) (zfD _) (by omega) ?_;intro A3 d3 w8 hs8 b8 f8 k8;have HS8:=hid (show Sl w8 wz.heap.size w8.heap.size 29 1 A3 kk d3 ([]++prH (L2.take kk)) by rw[Nat.zero_add] at hs8;exact hs8);have HB8:=hid (HB0.out.trans b8);clear hs8 b8 f8 k8)
       have hz8:wz.heap.size<=w8.heap.size:=HB8.out.size
       go_upto_region 16 with (at_builtin;refine zat rfl _ _ 190 rfl 29 _ 1 24 underlying190 zda rfl (by decide) (by decide) HS8.out hz8 rfl [prV wx.heap.size] w8.heap.size rfl rfl rfl (fun u hu=>by simp at hu;subst hu;rfl) (by omega) ?_;intro A4 d4 w9 hs9 b9 z9 f9 k9;have HS9:=hid hs9;have HB9:=hid (HB8.out.trans b9);clear hs9 b9 z9 f9 k9)
       have hz9:wz.heap.size<=w9.heap.size:=HB9.out.size;have HP9:=hid (HPZ.out.on HB9.out);have hck:(kk:Int)<=n2:=by omega
       obtain⟨TA,hTA⟩:∃z,(if c2=kk then some (⟨go2,0,none⟩:Addr) else some ⟨go2,kk,none⟩)=z:=⟨_,rfl⟩
       have HTA:=hid (HP9.out.dropAt hkk hTA);have hn2b:n2<=200:=by omega
       go_wp2_with (at_builtin;refine zdg rfl _ _ 190 rfl 29 _ 1 24 underlying190 zda rfl (by decide) (by decide) HS9.out hz9 rfl TA (n2-kk) (c2-kk) (prH (L2.drop kk)) rfl (HP9.out.dropLen hkk) HTA.out (zfD _) (by omega) ?_;intro A5 d5 w10 hs10 b10 f10 k10;have HS10:=hid hs10;have HB10:=hid (HB9.out.trans b10);clear hs10 b10 f10 k10)
       go_roundw
       case rel=>
        obtain⟨g9,rfl,hp9⟩:=zla HPZ.out HYZ.out HB10.out HGX.out hkk HS10.out;exact⟨j+1,g9,n2+1,d5,_,by omega,by go_num,by rw[show kk+1+(n2-kk)=n2+1 by omega],by omega,hp9,by rw[HYES.out,<-List.append_assoc];exact HS2.out.put kk rfl rfl,zac HBZ.out HB10.out lr⟩
       case measure=>simp[RowKit.intOf];omega
      have d1:decide ((0:Int)<(kk:Int))=true:=decide_eq_true (by omega);have dn:decide (0<kk)=true:=decide_eq_true hkp;obtain⟨pr,hpe,p0,p1,p2⟩:=zsI (HPV.out.on HBy.out) (k:=kk-1) (by omega);have hi1:((kk:Int)-1).toNat=kk-1:=by omega
      have hi2:(0:Int)<=(kk:Int)-1:=by omega
      have hi3:(kk:Int)-1<(n2:Int):=by omega
      have hi4:IntKind.i64.wrap ((kk:Int)-1)=((kk-1:Nat):Int):=by
       unfold IntKind.wrap;simp[IntKind.bits,IntKind.signed];omega
      have hi5:((kk-1:Nat):Int)<(n2:Int)/\(0:Int)<=((kk-1:Nat):Int):=by omega
      obtain⟨pg,pe,pl⟩:=pr;simp only at p0 p1 p2;clear hpe;by_cases m1:se<pe
      ·have e1:decide (se<pe)=true:=decide_eq_true m1;clear m1
       go_wp2_with fail
       go_quiet (fail)
       go_wp2
       go_roundw
       case rel=>exact⟨kk-1,by omega,by go_num,zan HBy.out _⟩
       case measure=>simp[RowKit.intOf];omega
      have e1:decide (se<pe)=false:=decide_eq_false m1;by_cases m2:pe=se;rotate_left
      ·have e2:(pe==se)=false:=by simpa using m2
       clear m1 m2
       go_wp2_with fail
       go_quiet (fail)
       rename_i nq;obtain⟨wz,hwz⟩:∃y,wy.drewN nq=y:=⟨_,rfl⟩
       have bz:Below v.heap.size v wz:=by rw[<-hwz];exact zan HBy.out _
       rw[hwz];have HPZ:=hid (HPV.out.on bz);have HYZ:=hid (YV.out.on bz);have HBZ:=hid (zac HBV.out bz lr);have HGX:=hid (show wx.heap.size<wz.heap.size from Nat.lt_of_lt_of_le YV.out.lt bz.size);clear hwz bz x0 x1 d1 dn e1 e2 p0 p1 p2 hi1 hi2 hi3 hi4 hi5;have s0:=(Acc.made wz 29 1).sl (lo:=wz.heap.size) lr lr;have b0:Below wz.heap.size wz (wz.alloc (.cells #[] 29)):=bal _;obtain⟨W0,hW0⟩:∃y,wz.alloc (.cells #[] 29)=y:=⟨_,rfl⟩
       rw[hW0] at s0 b0;have HS0:=hid s0;have HB0:=hid b0;have HP0:=hid (HPZ.out.on b0);have HW0:=hid hW0;clear s0 b0 hW0;have hkc:(kk:Int)<=(c2:Int):=by have:=HPZ.out.cap;omega
       go_upto_region 15 with (at_builtin;rw[HW0.out];refine zdg rfl _ _ 190 rfl 29 _ 1 24 underlying190 zda rfl (by decide) (by decide) HS0.out HB0.out.size rfl (some ⟨go2,0,none⟩) kk c2 (prH (L2.take kk)) rfl (HP0.out.takeLen hkk) (HP0.out.takeAt hkk) (zfD _) (by omega) ?_;intro A3 d3 w8 hs8 b8 f8 k8;have HS8:=hid (show Sl w8 wz.heap.size w8.heap.size 29 1 A3 kk d3 ([]++prH (L2.take kk)) by rw[Nat.zero_add] at hs8;exact hs8);have HB8:=hid (HB0.out.trans b8);clear hs8 b8 f8 k8)
       have hz8:wz.heap.size<=w8.heap.size:=HB8.out.size
       go_upto_region 16 with (at_builtin;refine zat rfl _ _ 190 rfl 29 _ 1 24 underlying190 zda rfl (by decide) (by decide) HS8.out hz8 rfl [prV wx.heap.size] w8.heap.size rfl rfl rfl (fun u hu=>by simp at hu;subst hu;rfl) (by omega) ?_;intro A4 d4 w9 hs9 b9 z9 f9 k9;have HS9:=hid hs9;have HB9:=hid (HB8.out.trans b9);clear hs9 b9 z9 f9 k9)
       have hz9:wz.heap.size<=w9.heap.size:=HB9.out.size;have HP9:=hid (HPZ.out.on HB9.out);have hck:(kk:Int)<=n2:=by omega
       obtain⟨TA,hTA⟩:∃z,(if c2=kk then some (⟨go2,0,none⟩:Addr) else some ⟨go2,kk,none⟩)=z:=⟨_,rfl⟩
       have HTA:=hid (HP9.out.dropAt hkk hTA);have hn2b:n2<=200:=by omega
       go_wp2_with (at_builtin;refine zdg rfl _ _ 190 rfl 29 _ 1 24 underlying190 zda rfl (by decide) (by decide) HS9.out hz9 rfl TA (n2-kk) (c2-kk) (prH (L2.drop kk)) rfl (HP9.out.dropLen hkk) HTA.out (zfD _) (by omega) ?_;intro A5 d5 w10 hs10 b10 f10 k10;have HS10:=hid hs10;have HB10:=hid (HB9.out.trans b10);clear hs10 b10 f10 k10)
       go_roundw
       case rel=>
        obtain⟨g9,rfl,hp9⟩:=zla HPZ.out HYZ.out HB10.out HGX.out hkk HS10.out;exact⟨j+1,g9,n2+1,d5,_,by omega,by go_num,by rw[show kk+1+(n2-kk)=n2+1 by omega],by omega,hp9,by rw[HYES.out,<-List.append_assoc];exact HS2.out.put kk rfl rfl,zac HBZ.out HB10.out lr⟩
       case measure=>simp[RowKit.intOf];omega
      have e2:(pe==se)=true:=by simpa using m2
      by_cases m3:sl<pl
      ·have e3:decide (sl<pl)=true:=decide_eq_true m3;clear m1 m2 m3
       go_wp2_with fail
       go_quiet (fail)
       go_wp2
       go_roundw
       case rel=>exact⟨kk-1,by omega,by go_num,zan HBy.out _⟩
       case measure=>simp[RowKit.intOf];omega
      have e3:decide (sl<pl)=false:=decide_eq_false m3;clear m1 m2 m3
      go_wp2_with fail
      go_quiet (fail)
      rename_i nq;obtain⟨wz,hwz⟩:∃y,wy.drewN nq=y:=⟨_,rfl⟩
      have bz:Below v.heap.size v wz:=by rw[<-hwz];exact zan HBy.out _
      rw[hwz];have HPZ:=hid (HPV.out.on bz);have HYZ:=hid (YV.out.on bz);have HBZ:=hid (zac HBV.out bz lr);have HGX:=hid (show wx.heap.size<wz.heap.size from Nat.lt_of_lt_of_le YV.out.lt bz.size);clear hwz bz x0 x1 d1 dn e1 e2 e3 p0 p1 p2 hi1 hi2 hi3 hi4 hi5;have s0:=(Acc.made wz 29 1).sl (lo:=wz.heap.size) lr lr;have b0:Below wz.heap.size wz (wz.alloc (.cells #[] 29)):=bal _;obtain⟨W0,hW0⟩:∃y,wz.alloc (.cells #[] 29)=y:=⟨_,rfl⟩
      rw[hW0] at s0 b0;have HS0:=hid s0;have HB0:=hid b0;have HP0:=hid (HPZ.out.on b0);have HW0:=hid hW0;clear s0 b0 hW0;have hkc:(kk:Int)<=(c2:Int):=by have:=HPZ.out.cap;omega
      go_upto_region 15 with (at_builtin;rw[HW0.out];refine zdg rfl _ _ 190 rfl 29 _ 1 24 underlying190 zda rfl (by decide) (by decide) HS0.out HB0.out.size rfl (some ⟨go2,0,none⟩) kk c2 (prH (L2.take kk)) rfl (HP0.out.takeLen hkk) (HP0.out.takeAt hkk) (zfD _) (by omega) ?_;intro A3 d3 w8 hs8 b8 f8 k8;have HS8:=hid (show Sl w8 wz.heap.size w8.heap.size 29 1 A3 kk d3 ([]++prH (L2.take kk)) by rw[Nat.zero_add] at hs8;exact hs8);have HB8:=hid (HB0.out.trans b8);clear hs8 b8 f8 k8)
      have hz8:wz.heap.size<=w8.heap.size:=HB8.out.size
      go_upto_region 16 with (at_builtin;refine zat rfl _ _ 190 rfl 29 _ 1 24 underlying190 zda rfl (by decide) (by decide) HS8.out hz8 rfl [prV wx.heap.size] w8.heap.size rfl rfl rfl (fun u hu=>by simp at hu;subst hu;rfl) (by omega) ?_;intro A4 d4 w9 hs9 b9 z9 f9 k9;have HS9:=hid hs9;have HB9:=hid (HB8.out.trans b9);clear hs9 b9 z9 f9 k9)
      have hz9:wz.heap.size<=w9.heap.size:=HB9.out.size;have HP9:=hid (HPZ.out.on HB9.out);have hck:(kk:Int)<=n2:=by omega
      obtain⟨TA,hTA⟩:∃z,(if c2=kk then some (⟨go2,0,none⟩:Addr) else some ⟨go2,kk,none⟩)=z:=⟨_,rfl⟩
      have HTA:=hid (HP9.out.dropAt hkk hTA);have hn2b:n2<=200:=by omega
      go_wp2_with (at_builtin;refine zdg rfl _ _ 190 rfl 29 _ 1 24 underlying190 zda rfl (by decide) (by decide) HS9.out hz9 rfl TA (n2-kk) (c2-kk) (prH (L2.drop kk)) rfl (HP9.out.dropLen hkk) HTA.out (zfD _) (by omega) ?_;intro A5 d5 w10 hs10 b10 f10 k10;have HS10:=hid hs10;have HB10:=hid (HB9.out.trans b10);clear hs10 b10 f10 k10)
      go_roundw
      case rel=>
       obtain⟨g9,rfl,hp9⟩:=zla HPZ.out HYZ.out HB10.out HGX.out hkk HS10.out;exact⟨j+1,g9,n2+1,d5,_,by omega,by go_num,by rw[show kk+1+(n2-kk)=n2+1 by omega],by omega,hp9,by rw[HYES.out,<-List.append_assoc];exact HS2.out.put kk rfl rfl,zac HBZ.out HB10.out lr⟩
      case measure=>simp[RowKit.intOf];omega
    ·obtain rfl:j=rm:=by omega
     have HTK:=hid (show S.take j=S by rw[<-HSL.out,List.take_length]);go_wp2
     go_roundw
     case rel=>exact⟨k+1,_,_,_,_,by omega,by go_num,rfl,by omega,HP2.out,by rw[HNX.out,<-HTK.out];rw[HTK.out] at HS2⊢;exact HS2.out,zac HB3.out HBx.out lr⟩
     case measure=>simp[RowKit.intOf];omega
  ·obtain rfl:k=rn:=by omega
   have HTK:=hid (show rs.take k=rs by rw[<-HRL.out,List.take_length]);go_wp2;go_ret;exact⟨_,_,_,_,rfl,HPR.out,by rw[HIN.out,<-HTK.out];rw[HTK.out];rw[HTK.out] at HSA;exact HSA.out,by omega,HBr.out⟩
end Go.Proofs.YtjalgpioklcbfaaGreatDoor
