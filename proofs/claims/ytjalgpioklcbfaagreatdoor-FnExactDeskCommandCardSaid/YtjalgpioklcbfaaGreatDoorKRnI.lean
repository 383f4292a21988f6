/- ReadNet, as the program does it. -/
import Derived.Test.YtjalgpioklcbfaaGreatDoorMgDesksAI
set_option maxHeartbeats 4000000
set_option maxRecDepth 100000
set_option linter.unusedVariables false
set_option linter.unusedSimpArgs false
namespace Go.Proofs.YtjalgpioklcbfaaGreatDoor
open Go.RowKit Go.Lib Go.Proofs.Tryz
theorem zoO(c:UInt8)(l:List UInt8):(Lib.cut l [c]).1.length<=l.length/\(Lib.cut l [c]).2.1.length<=l.length:=by
 rcases zcU c l with ⟨_,hno⟩|⟨a,r,rfl,hna,_⟩
 ·rw[zmM hno];simp
 ·rw[zoN hna];simp only[List.length_append,List.length_cons];omega
theorem zmL (s:ByteArray) (c:UInt8) (m:Int) (w:World) (hs:s.size <= 1048576) (hm:w.cell? ⟨1,0,none⟩ = some (.int .i64 m)) :
  Calls prog 66 #[.string s,.string ⟨#[c]⟩] w fun e w'=>e= .returned (.tuple #[.string (zab (Lib.cut s.data.toList [c]).1),.string (zab (Lib.cut s.data.toList [c]).2.1),.bool (Lib.cut s.data.toList [c]).2.2])/\Below w.heap.size w w':=by
 refine(Tryz.strings_Cut s ⟨#[c]⟩ m w (by omega) hm).mono ?_;rintro e w' ⟨rfl,n,rfl⟩;exact⟨rfl,zan (Below.refl _ _) n⟩
theorem zk0(c:UInt8):∀(k:Nat) (l x:List UInt8),x∈splitK [c] 0 k l->x.length<=l.length
 |0,l,x,h=>by
  unfold splitK at h;rw[List.mem_singleton] at h;rw[h];exact Nat.le_refl _
 |k+1,l,x,h=>by
  unfold splitK at h
  split at h
  ·rw[List.mem_singleton] at h;rw[h];exact Nat.le_refl _
  ·rcases List.mem_cons.1 h with rfl|h
   ·exact List.length_take_le' _ _
   ·have:=zk0 c k _ x h;rw[List.length_drop] at this;omega
theorem znO (s:ByteArray) (m:Int) (w:World) (hs:s.size <= 1048576) (hm:w.cell? ⟨1,0,none⟩ = some (.int .i64 m)) :
  Calls prog 64 #[.string s,.string ⟨#[32]⟩,.int .i64 26] w fun e w'=>∃(h:ByteArray) (r:List ByteArray) (N:Nat),e= .returned (.slice (some ⟨w.heap.size,0,none⟩) (r.length+1) N)/\zad w' w'.heap.size 1 (some ⟨w.heap.size,0,none⟩) (r.length+1) (strs (h::r))/\Below w.heap.size w w'/\
   r.length+1<=N/\N<=26/\h.size<=s.size/\(∀x∈r,x.size<=s.size)/\(s.data.toList.count 32<=24->(h::r).map (fun x=>x.data.toList)=zao 32 s.data.toList):=by
 refine(Tryz.strings_SplitN s ⟨#[32]⟩ 26 m w (by omega) hm (Nat.le_refl 1) (by decide) (by decide)).mono ?_;rintro e w' ⟨rfl,rfl⟩;have hcnt:s.data.toList.count 32<=s.size:=by rw[<-za8 s];exact List.count_le_length
 have hd:=splitB_data ⟨#[32]⟩ 0 (min 26 (s.size+1)-1) s;have hl:=splitB_length_le ⟨#[32]⟩ 0 (min 26 (s.size+1)-1) s;have hm1:min 26 (s.size+1)<=26:=Nat.min_le_left _ _;have hm2:1<=min 26 (s.size+1):=by omega
 obtain⟨q,hq⟩:∃q,splitB ⟨#[32]⟩ 0 (min 26 (s.size+1)-1) s=q:=⟨_,rfl⟩
 rw[hq] at hd hl⊢;rw[show(⟨#[32]⟩:ByteArray).data.toList=[32] from rfl] at hd
 have hne:q≠[]:=by
  intro h0;rw[h0,List.map_nil] at hd;have:=hd.symm;unfold splitK at this
  split at this
  ·cases this
  ·split at this<;>cases this
 obtain⟨h,r,rfl⟩:∃h r,q=h::r:=by
  cases q with
  |nil=>exact absurd rfl hne
  |cons h r=>exact⟨h,r,rfl⟩
 have hsz:∀x∈h::r,x.size<=s.size:=fun x hx=>by
  have:=zk0 32 _ _ _ (by rw[<-hd];exact List.mem_map_of_mem hx);rwa[za8,za8] at this
 simp only[List.length_cons] at hl;refine⟨h,r,_,rfl,⟨by simp[strs],fun _=>⟨_,rfl,rfl,by simp,fun j u hu=>?_⟩⟩,bal _,by omega,hm1,hsz h (by simp),fun x hx=>hsz x (List.mem_cons_of_mem _ hx),fun hc=>?_⟩
 ·rw[(Blk.new w 9 _).cell,cellsOf,Nat.zero_add,List.getElem?_toArray];have hj:j<((h::r).map Value.string).length:=(List.getElem?_eq_some_iff.1 hu).1;rw[List.getElem?_append_left hj];exact hu
 ·have:=zii 32 (min 26 (s.size+1)-1) s.data.toList (by omega);rw[<-this];exact hd
theorem zp7(h:ByteArray):(zab (zbP h.data.toList)).size<=h.size:=by
 rw[zaj,<-za8 h];unfold zbP Lib.trimSuffix
 split
 ·exact List.length_take_le' _ _
 ·exact Nat.le_refl _
theorem zqr(h:ByteArray)(w:World)(hs:h.size<=1048576):Calls prog 65 #[.string h,.string ⟨#[58]⟩] w fun e w'=>e= .returned (.string (zab (zbP h.data.toList)))/\w=w':=by
 refine(Tryz.strings_TrimSuffix h ⟨#[58]⟩ w (by omega)).mono ?_;rintro e w' ⟨rfl,rfl⟩;exact⟨rfl,rfl⟩
theorem zlW:∀(r:List (List UInt8)) (w:List UInt8) (ok:Bool) (acc:List Tb),tbsI (r++ [w]) ok acc=(ok3 (tbsI r ok acc).1 (tbI w),(tbsI r ok acc).2++ [tb3 (tbI w)])
 | [],w,ok,acc=>rfl
 |x::r,w,ok,acc=>by
  rw[List.cons_append,tbsI,tbsI];exact zlW r w _ _
theorem zd5(l:List Tb)(t:Tb):tbs l++zbs t=tbs (l++ [t]):=by simp[tbs,List.flatMap_append]
theorem zcf:(prog.info? 101).map (fun i=>(i.zero,i.size,i.bytes))=some (some (.agg #[.int .i64 0,.int .i64 0,.int .i64 0]),3,24):=by kernel_rfl
theorem zcO(t:Tb):∀u∈zbs t,u.oneCell'=true:=by
 intro u hu;simp[zbs] at hu;rcases hu with rfl|rfl|rfl<;>rfl
theorem zd3(s:List UInt8):(zak s).2=zav s:=by
 rcases hd:zav s with _|_
 ·rw[zbd hd]
 ·rw[zbi hd]
theorem zpb{h:List UInt8}{r:List (List UInt8)}{s:List UInt8}{ok:Bool}{l:List Tb}(e:tbsI r (zav (zbP h)) []=(ok,l)):netI (h::r) s=if ok=true then (if ntT ⟨(zak (zbP h)).1,l⟩=s then some ⟨(zak (zbP h)).1,l⟩ else none) else none:=by
 unfold netI;simp only[e]
theorem Only.thenBelow{lo hi:Nat}{a b w:World}(h:Only lo hi a b)(k:Below a.heap.size b w):Only lo hi a w:=
 ⟨k.os.trans h.os,k.tape.trans h.tape,k.output.trans h.output,Nat.le_trans h.size k.size,fun i hi hd=>(k.block i hi).trans (h.block i hi hd)⟩
theorem Sl.loNe{w:World}{lo hi:Nat}{t:TypeId}{size:Nat}{A:Option Addr}{n c:Nat}{xs:List Value}(h:Sl w lo hi t size A n c xs){g:Nat}(hg:g<lo):∀ad,A=some ad->ad.block≠g:=by
 intro ad had;rcases h.form with ⟨h0,_⟩|⟨g',cur,h1,h2,_⟩
 ·rw[h0] at had;cases had
 ·rw[h1] at had;injection had with had;subst had;show g'≠g;omega
def netV(s:ByteArray):Nt:=(netF s.data.toList).getD ⟨0,[]⟩
theorem zdr{s:ByteArray}{x:Nt}(h:netF s.data.toList=some x):netV s=x:=by simp[netV,h]
theorem zdq{s:ByteArray}(h:netF s.data.toList=none):netV s=⟨0,[]⟩:=by simp[netV,h]
theorem zgh (s:ByteArray) (m:Int) (w:World) (hs:s.size <= 1048576) (hm:w.cell? ⟨1,0,none⟩ = some (.int .i64 m)) (ht:TabP w) (hv:SynP w) :
  Calls prog 26 #[.string s] w fun e w'=>∃A n c,e= .returned (.tuple #[.agg #[.int .i64 (netV s).sta,.slice A n c],.bool (netF s.data.toList).isSome])/\Sl w' w.heap.size w'.heap.size 101 3 A n c (tbs (netV s).tubes)/\Below w.heap.size w w':=by
 have b0:Below w.heap.size w (w.alloc (.cells #[.int .i64 0,.slice none 0 0] 28)):=bal _;have y0:=Blk.new w 28 #[.int .i64 0,.slice none 0 0];have HT:=hid ht;have HV:=hid hv;have HM:=hid hm;have hm0:=zaa b0 hm;clear ht hv hm;go_enter func26,ntmps26
 go_wp2_with fail
 refine(znO s m _ hs hm0).mono ?_;rintro e w1 ⟨hd,r,N,rfl,r1,b1,hN,hN26,hhs,hrs,hsp⟩;have y1:=hid (y0.on b1);have HB1:=hid (zac b0 b1 lr);have HR1:=hid r1;have HSP:=hid hsp;have HRS:=hid hrs;have hrl:r.length<=25:=by omega
 obtain⟨g0,hg0⟩:∃q,(w.alloc (.cells #[.int .i64 0,.slice none 0 0] 28)).heap.size=q:=⟨_,rfl⟩
 have hgw:g0=w.heap.size+1:=by rw[<-hg0];simp
 rw[hg0] at HR1
 have hz1:g0<w1.heap.size:=by
  have:=b1.size;obtain⟨ad,e1,_,e2,_⟩:=r1.2 (by omega);injection e1 with e1;rw[<-e1] at e2;rw[<-hg0];exact e2
 have cw0:w1.cell? ⟨g0,0,none⟩=some (.string hd):=by
  obtain⟨b,off,e1,_,hc⟩:=HR1.out.at_ (by omega);injection e1 with e1;injection e1 with e1 e2;subst e1 e2;exact hc 0 _ rfl
 clear hsp hrs r1 b1 b0 y0 hm0 hg0;subst hgw
 go_wp2_with fail
 refine(zqr hd _ (by omega)).mono ?_;rintro e w2 ⟨rfl,rfl⟩
 go_wp2_with fail
 refine(za7 (zab (zbP hd.data.toList)) _ (by have:=zp7 hd;omega) (zaw HT.out HB1.out) (zbk HV.out HB1.out)).mono ?_;rintro e w3 ⟨rfl,b3⟩;rw[zaf];have y3:=hid (y1.out.on b3);have HB3:=hid (zac HB1.out b3 lr);have HR3:=hid (HR1.out.on lr b3);have hz3:w1.heap.size<=w3.heap.size:=b3.size;have hst:=zbE (zbP hd.data.toList)
 have hrd:(zak (zbP hd.data.toList)).2=zav (zbP hd.data.toList):=by
  rcases hd:zav (zbP hd.data.toList) with _|_
  ·rw[zbd hd]
  ·rw[zbi hd]
 rw[hrd];obtain⟨st,hst2⟩:∃q,(zak (zbP hd.data.toList)).1=q:=⟨_,rfl⟩
 rw[hst2] at hst⊢;have HST:=hid hst2;clear cw0 b3 hrd hst2
 go_upto_region 4 with fail
 obtain⟨w4,hw4⟩:∃y,w3.alloc (.cells #[.int .i64 st,.slice none 0 0] 28)=y:=⟨_,rfl⟩
 have b4:Below w3.heap.size w3 w4:=by rw[<-hw4];exact bal _
 have y4:Blk w4 w3.heap.size 28 #[.int .i64 st,.slice none 0 0]:=by rw[<-hw4];exact Blk.new _ _ _
 have hz4:w4.heap.size=w3.heap.size+1:=by rw[<-hw4];simp
 rw[hw4];have HB4:=hid (zac HB3.out b4 lr);have HR4:=hid (HR3.out.on hz3 b4);have Y0:=hid (y3.out.on b4);have Y4:=hid y4;clear hw4 b4 y4 y3 y1;obtain⟨g,hg⟩:∃q,w3.heap.size=q:=⟨_,rfl⟩
 rw[hg] at Y4 hz4 hz3⊢;have HG:=hid hg;clear hg;have HI:=hid (ztm ((hd::r).map fun x=>x.data.toList) s.data.toList HSP.out);have hlo:w.heap.size<=w3.heap.size:=HB3.out.size;have HG4:=hid (show w4.heap.size=w4.heap.size from rfl)
 go_wp2_with fail
 case inl=>
  go_loopw [6,37] (fun ok i wr=>∃(k:Nat) (A':Option Addr) (c':Nat) (b:Bool) (l:List Tb),k<=r.length/\i= .int .i64 k/\ok= .bool b/\tbsI ((r.take k).map fun x=>x.data.toList) (zav (zbP hd.data.toList)) []=(b,l)/\Blk wr g 28 #[.int .i64 st,.slice A' k c']/\Sl wr w4.heap.size wr.heap.size 101 3 A' k c' (tbs l)/\Only g (g+1) w4 wr) (fun _ i _=>r.length-(RowKit.intOf i).toNat)
  case atStart=>exact⟨0,_,_,_,[],Nat.zero_le _,rfl,rfl,rfl,Y4.out,Sl.nil _ _ _ _ _,Only.refl _ _ _⟩
  case round=>
   obtain⟨k,A',c',b,l,hk,rfl,rfl,htb,hy,hsl,hon⟩:=hrel;have HTB:=hid htb;have HY:=hid hy;have HS:=hid hsl;have HO:=hid hon;have HBr:=hid (zbN HB4.out hon (by have:=HG.out;omega) lr);have hk25:k<=25:=by omega
   clear htb hy hsl hon;rcases Nat.lt_or_ge k r.length with hlt|hge
   ·exfalso;omega
   ·obtain rfl:k=r.length:=by omega
    have HTB2:=hid (show tbsI (r.map fun x=>x.data.toList) (zav (zbP hd.data.toList)) []=(b,l) by have:=HTB.out;rwa[List.take_length] at this)
    have HNI:=hid (show netF s.data.toList=if b=true then (if ntT ⟨st,l⟩=s.data.toList then some ⟨st,l⟩ else none) else none by
     rw[<-HI.out,List.map_cons,zpb HTB2.out,HST.out])
    have yr:Blk wr w.heap.size 28 #[.int .i64 0,.slice none 0 0]:=(HO.out.block w.heap.size (by omega) (.inl (by omega))).trans Y0.out;have YR:=hid yr;clear yr;rcases b with _|_
    ·have HN:=hid (show netF s.data.toList=none by rw[HNI.out];rfl);have hc0:=YR.out.cellAt 0 (by simp);have hc1:=YR.out.cellAt 1 (by simp);have hf0:=YR.out.frozen 0;have hf1:=YR.out.frozen 1;go_wp2;exact bodyPost_ret (v:=.tuple #[.agg #[.int .i64 0,.slice none 0 0],.bool false]) (by simp[results,results26,go_sem,hc0,hc1]) rfl ⟨none,0,0,by rw[zdq HN.out,HN.out];rfl,by rw[zdq HN.out];exact Sl.nil _ _ _ _ _,(HBr.out.setCell lr _).setCell lr _⟩
    ·have cy0:=HY.out.cellAt 0 (by simp);have cy1:=HY.out.cellAt 1 (by simp);simp only[ly] at cy0 cy1
     go_wp2_with fail
     refine(ziO A' r.length c' wr.heap.size ⟨st,l⟩ wr (HS.out.reads lr) lr (by omega) (zaw HT.out HBr.out)).mono ?_;rintro e w5 ⟨rfl,b5⟩;have H5:=hid (zac HBr.out b5 lr);have S5:=hid (HS.out.on b5);have Y5:=hid (HY.out.on b5);have YR5:=hid (YR.out.on b5);clear b5 cy0 cy1;have hc0:=YR5.out.cellAt 0 (by simp);have hc1:=YR5.out.cellAt 1 (by simp);have hf0:=YR5.out.frozen 0;have hf1:=YR5.out.frozen 1;by_cases he:ntT ⟨st,l⟩=s.data.toList
     ·have HN:=hid (show netF s.data.toList=some ⟨st,l⟩ by rw[HNI.out];simp[he]);have hne:(!((zab (ntT ⟨st,l⟩)).toList==s.toList))=false:=by rw[he,zaM];simp
      have dy0:=Y5.out.cellAt 0 (by simp);have dy1:=Y5.out.cellAt 1 (by simp);simp only[ly] at dy0 dy1;clear he;go_wp2;refine bodyPost_ret (v:=.tuple #[.agg #[.int .i64 st,.slice A' r.length c'],.bool true]) ?_ rfl ⟨A',r.length,c',by rw[zdr HN.out,HN.out];rfl,?_,(H5.out.setCell lr _).setCell lr _⟩
      ·have q:=(YR5.out.set_ 0 (.int .i64 st)).set_ 1 (.slice A' r.length c');simp[results,results26,go_sem,hc0,hc1]
      ·rw[zdr HN.out];have:=((S5.out.wide (show w.heap.size+1<=w4.heap.size by omega) lr).setLow (p:=⟨w.heap.size,0,none⟩) (by show w.heap.size<_;omega) (.int .i64 st)).setLow (p:=⟨w.heap.size,1,none⟩) (by show w.heap.size<_;omega) (.slice A' r.length c');exact(this.wide (by omega) lr).low
     ·have HN:=hid (show netF s.data.toList=none by rw[HNI.out];simp[he])
      have hne:(!((zab (ntT ⟨st,l⟩)).toList==s.toList))=true:=by
       have:((zab (ntT ⟨st,l⟩)).toList==s.toList)=false:=by
        rw[beq_eq_false_iff_ne,ne_eq,Go.ByteArray.toList_eq,Go.ByteArray.toList_eq,zaf];exact he
       rw[this];rfl
      clear he;go_wp2;exact bodyPost_ret (v:=.tuple #[.agg #[.int .i64 0,.slice none 0 0],.bool false]) (by simp[results,results26,go_sem,hc0,hc1]) rfl ⟨none,0,0,by rw[zdq HN.out,HN.out];rfl,by rw[zdq HN.out];exact Sl.nil _ _ _ _ _,(H5.out.setCell lr _).setCell lr _⟩
 case inr=>
  go_loopw [6,37] (fun ok i wr=>∃(k:Nat) (A':Option Addr) (c':Nat) (b:Bool) (l:List Tb),k<=r.length/\i= .int .i64 k/\ok= .bool b/\tbsI ((r.take k).map fun x=>x.data.toList) (zav (zbP hd.data.toList)) []=(b,l)/\Blk wr g 28 #[.int .i64 st,.slice A' k c']/\Sl wr w4.heap.size wr.heap.size 101 3 A' k c' (tbs l)/\Only g (g+1) w4 wr) (fun _ i _=>r.length-(RowKit.intOf i).toNat)
  case atStart=>exact⟨0,_,_,_,[],Nat.zero_le _,rfl,rfl,rfl,Y4.out,Sl.nil _ _ _ _ _,Only.refl _ _ _⟩
  case round=>
   obtain⟨k,A',c',b,l,hk,rfl,rfl,htb,hy,hsl,hon⟩:=hrel;have HTB:=hid htb;have HY:=hid hy;have HS:=hid hsl;have HO:=hid hon;have HBr:=hid (zbN HB4.out hon (by have:=HG.out;omega) lr);have hk25:k<=25:=by omega
   clear htb hy hsl hon;rcases Nat.lt_or_ge k r.length with hlt|hge
   ·obtain⟨x,hx⟩:∃x,r[k]?=some x:=⟨_,List.getElem?_eq_getElem hlt⟩
    have hxs:x.size<=1048576:=by have:=HRS.out x (List.mem_of_getElem? hx);omega
    have cx:wr.cell? ⟨w.heap.size+1,1+k,none⟩=some (.string x):=by
     have hc:w4.cell? ⟨w.heap.size+1,1+k,none⟩=some (.string x):=by
      obtain⟨b',off,e1,_,hc⟩:=HR4.out.at_ (by omega);injection e1 with e1;injection e1 with e1 e2;subst e1 e2;rw[show 1+k=0+(k+1) by omega];exact hc (k+1) _ (zeQ (by simpa using hx))
     rw[<-hc];unfold World.cell?;rw[HO.out.block (w.heap.size+1) (by omega) (.inl (by omega))]
    have hki:(0:Int)<=k:=by omega
    have hkl:(k:Int)<r.length:=by omega
    have HTK:=hid (show tbsI ((r.take (k+1)).map fun x=>x.data.toList) (zav (zbP hd.data.toList)) []=(ok3 b (tbI x.data.toList),l++ [tb3 (tbI x.data.toList)]) by
     rw[List.take_add_one,hx,Option.toList_some,List.map_append,List.map_singleton,zlW,HTB.out])
    clear hx;obtain⟨hc1,hc2⟩:=zoO 62 x.data.toList;obtain⟨hc3,hc4⟩:=zoO 42 (Lib.cut x.data.toList [62]).2.1;rw[za8] at hc1 hc2;have E1:=hid (show tbI x.data.toList=((Lib.cut x.data.toList [62]).1,(Lib.cut (Lib.cut x.data.toList [62]).2.1 [42]).1,(Lib.cut (Lib.cut x.data.toList [62]).2.1 [42]).2.1) from rfl)
    go_wp2_with fail
    refine(zmL x 62 m _ hxs (zaa HBr.out HM.out)).mono ?_;rintro e w5 ⟨rfl,b5⟩;obtain⟨p1,hp1⟩:∃q,(Lib.cut x.data.toList [62]).1=q:=⟨_,rfl⟩
    obtain⟨p2,hp2⟩:∃q,(Lib.cut x.data.toList [62]).2.1=q:=⟨_,rfl⟩
    obtain⟨p3,hp3⟩:∃q,(Lib.cut x.data.toList [62]).2.2=q:=⟨_,rfl⟩
    rw[hp1,hp2] at E1;rw[hp1] at hc1;rw[hp2] at hc2 hc3 hc4;rw[hp1,hp2,hp3];have H5:=hid (zac HBr.out b5 lr);have Y5:=hid (HY.out.on b5);have S5:=hid (HS.out.on b5);have O5:=hid (HO.out.trans (Only.of_below b5 _ _));clear b5 cx hp1 hp2 hp3
    go_wp2_with fail
    refine(zmL (zab p2) 42 m _ (by rw[zaj];omega) (zaa H5.out HM.out)).mono ?_;rintro e w6 ⟨rfl,b6⟩;rw[zaf];obtain⟨q1,hq1⟩:∃q,(Lib.cut p2 [42]).1=q:=⟨_,rfl⟩
    obtain⟨q2,hq2⟩:∃q,(Lib.cut p2 [42]).2.1=q:=⟨_,rfl⟩
    obtain⟨q3,hq3⟩:∃q,(Lib.cut p2 [42]).2.2=q:=⟨_,rfl⟩
    rw[hq1,hq2] at E1;rw[hq1] at hc3;rw[hq2] at hc4;rw[hq1,hq2,hq3];have H6:=hid (zac H5.out b6 lr);have Y6:=hid (Y5.out.on b6);have S6:=hid (S5.out.on b6);have O6:=hid (O5.out.trans (Only.of_below b6 _ _));clear b6 hq1 hq2 hq3
    go_wp2_with fail
    refine(za7 (zab p1) _ (by rw[zaj];omega) (zaw HT.out H6.out) (zbk HV.out H6.out)).mono ?_;rintro e w7 ⟨rfl,b7⟩;rw[zaf,zd3 p1];have hb7:=zbE p1;obtain⟨v7,hv7⟩:∃q,(zak p1).1=q:=⟨_,rfl⟩
    obtain⟨d7,hd7⟩:∃q,zav p1=q:=⟨_,rfl⟩
    rw[hv7] at hb7⊢;rw[hd7];have V7:=hid hv7;have D7:=hid hd7;have H7:=hid (zac H6.out b7 lr);have Y7:=hid (Y6.out.on b7);have S7:=hid (S6.out.on b7);have O7:=hid (O6.out.trans (Only.of_below b7 _ _));clear b7 hv7 hd7
    go_wp2_with fail
    refine(za7 (zab q1) _ (by rw[zaj];omega) (zaw HT.out H7.out) (zbk HV.out H7.out)).mono ?_;rintro e w8 ⟨rfl,b8⟩;rw[zaf,zd3 q1];have hb8:=zbE q1;obtain⟨v8,hv8⟩:∃q,(zak q1).1=q:=⟨_,rfl⟩
    obtain⟨d8,hd8⟩:∃q,zav q1=q:=⟨_,rfl⟩
    rw[hv8] at hb8⊢;rw[hd8];have V8:=hid hv8;have D8:=hid hd8;have H8:=hid (zac H7.out b8 lr);have Y8:=hid (Y7.out.on b8);have S8:=hid (S7.out.on b8);have O8:=hid (O7.out.trans (Only.of_below b8 _ _));clear b8 hv8 hd8
    go_wp2_with fail
    refine(za7 (zab q2) _ (by rw[zaj];omega) (zaw HT.out H8.out) (zbk HV.out H8.out)).mono ?_;rintro e w9 ⟨rfl,b9⟩;rw[zaf,zd3 q2];have hb9:=zbE q2;obtain⟨v9,hv9⟩:∃q,(zak q2).1=q:=⟨_,rfl⟩
    obtain⟨d9,hd9⟩:∃q,zav q2=q:=⟨_,rfl⟩
    rw[hv9] at hb9⊢;rw[hd9];have V9:=hid hv9;have D9:=hid hd9;have Y9:=hid (Y8.out.on b9);have S9:=hid (S8.out.on b9);have O9:=hid (O8.out.trans (Only.of_below b9 _ _));clear b9 hv9 hd9
    have HTK2:=hid (show tbsI ((r.take (k+1)).map fun x=>x.data.toList) (zav (zbP hd.data.toList)) []=(b&&d7&&d8&&d9,l++ [⟨v7,v8,v9⟩]) by
     rw[HTK.out,E1.out];simp only[ok3,tb3,V7.out,V8.out,V9.out,D7.out,D8.out,D9.out])
    have cy0:=Y9.out.cellAt 0 (by simp);have cy1:=Y9.out.cellAt 1 (by simp);simp only[ly] at cy0 cy1;have hz9:w4.heap.size<=w9.heap.size:=O9.out.size;clear hb7 hb8 hb9 hc1 hc2 hc3 hc4 hxs;have HNE:=hid (S9.out.loNe (show g<w4.heap.size by omega));have YL:=hid Y9.out.lt;rcases b with _|_
    ·rw[show(false&&d7&&d8&&d9)=false by simp] at HTK2
     go_wp2_with (at_builtin;refine zat rfl _ _ 26 rfl 101 _ 3 24 underlying26 zcf rfl (by decide) (by decide) S9.out hz9 rfl (zbs ⟨v7,v8,v9⟩) w9.heap.size rfl rfl rfl (zcO _) (by omega) ?_;intro A2 d2 w10 hs10 b10 _ f10 k10;have Y10:=hid (show Blk w10 g 28 #[.int .i64 st,.slice A' k c'] from(f10 g YL.out HNE.out).trans Y9.out);have S10:=hid hs10;have O10:=hid (O9.out.thenBelow b10);have cy0:=Y10.out.cellAt 0 (by simp);have cy1:=Y10.out.cellAt 1 (by simp);have cf0:=Y10.out.frozen 0;have cf1:=Y10.out.frozen 1;clear hs10 b10 f10 k10)
     go_roundw
     case rel=>
      refine⟨k+1,A2,d2,false,l++ [⟨v7,v8,v9⟩],by omega,by go_num,rfl,HTK2.out,?_,?_,?_⟩
      ·have:=Y10.out.set_ 1 (.slice A2 (k+1) d2);simpa using this
      ·have:=S10.out.setLow (p:=⟨g,1,none⟩) (by show g<_;omega) (.slice A2 (k+1) d2);rw[zd5] at this;exact this.low
      ·exact O10.out.setCell lr (Nat.lt_succ_self _) _
     case measure=>simp[RowKit.intOf];omega
    rcases d7 with _|_
    ·rw[show(true&&false&&d8&&d9)=false by simp] at HTK2
     go_wp2_with (at_builtin;refine zat rfl _ _ 26 rfl 101 _ 3 24 underlying26 zcf rfl (by decide) (by decide) S9.out hz9 rfl (zbs ⟨v7,v8,v9⟩) w9.heap.size rfl rfl rfl (zcO _) (by omega) ?_;intro A2 d2 w10 hs10 b10 _ f10 k10;have Y10:=hid (show Blk w10 g 28 #[.int .i64 st,.slice A' k c'] from(f10 g YL.out HNE.out).trans Y9.out);have S10:=hid hs10;have O10:=hid (O9.out.thenBelow b10);have cy0:=Y10.out.cellAt 0 (by simp);have cy1:=Y10.out.cellAt 1 (by simp);have cf0:=Y10.out.frozen 0;have cf1:=Y10.out.frozen 1;clear hs10 b10 f10 k10)
     go_roundw
     case rel=>
      refine⟨k+1,A2,d2,false,l++ [⟨v7,v8,v9⟩],by omega,by go_num,rfl,HTK2.out,?_,?_,?_⟩
      ·have:=Y10.out.set_ 1 (.slice A2 (k+1) d2);simpa using this
      ·have:=S10.out.setLow (p:=⟨g,1,none⟩) (by show g<_;omega) (.slice A2 (k+1) d2);rw[zd5] at this;exact this.low
      ·exact O10.out.setCell lr (Nat.lt_succ_self _) _
     case measure=>simp[RowKit.intOf];omega
    rcases d8 with _|_
    ·rw[show(true&&true&&false&&d9)=false by simp] at HTK2
     go_wp2_with (at_builtin;refine zat rfl _ _ 26 rfl 101 _ 3 24 underlying26 zcf rfl (by decide) (by decide) S9.out hz9 rfl (zbs ⟨v7,v8,v9⟩) w9.heap.size rfl rfl rfl (zcO _) (by omega) ?_;intro A2 d2 w10 hs10 b10 _ f10 k10;have Y10:=hid (show Blk w10 g 28 #[.int .i64 st,.slice A' k c'] from(f10 g YL.out HNE.out).trans Y9.out);have S10:=hid hs10;have O10:=hid (O9.out.thenBelow b10);have cy0:=Y10.out.cellAt 0 (by simp);have cy1:=Y10.out.cellAt 1 (by simp);have cf0:=Y10.out.frozen 0;have cf1:=Y10.out.frozen 1;clear hs10 b10 f10 k10)
     go_roundw
     case rel=>
      refine⟨k+1,A2,d2,false,l++ [⟨v7,v8,v9⟩],by omega,by go_num,rfl,HTK2.out,?_,?_,?_⟩
      ·have:=Y10.out.set_ 1 (.slice A2 (k+1) d2);simpa using this
      ·have:=S10.out.setLow (p:=⟨g,1,none⟩) (by show g<_;omega) (.slice A2 (k+1) d2);rw[zd5] at this;exact this.low
      ·exact O10.out.setCell lr (Nat.lt_succ_self _) _
     case measure=>simp[RowKit.intOf];omega
    rw[show(true&&true&&true&&d9)=d9 by simp] at HTK2
    go_wp2_with (at_builtin;refine zat rfl _ _ 26 rfl 101 _ 3 24 underlying26 zcf rfl (by decide) (by decide) S9.out hz9 rfl (zbs ⟨v7,v8,v9⟩) w9.heap.size rfl rfl rfl (zcO _) (by omega) ?_;intro A2 d2 w10 hs10 b10 _ f10 k10;have Y10:=hid (show Blk w10 g 28 #[.int .i64 st,.slice A' k c'] from(f10 g YL.out HNE.out).trans Y9.out);have S10:=hid hs10;have O10:=hid (O9.out.thenBelow b10);have cy0:=Y10.out.cellAt 0 (by simp);have cy1:=Y10.out.cellAt 1 (by simp);have cf0:=Y10.out.frozen 0;have cf1:=Y10.out.frozen 1;clear hs10 b10 f10 k10)
    go_roundw
    case rel=>
     refine⟨k+1,A2,d2,d9,l++ [⟨v7,v8,v9⟩],by omega,by go_num,rfl,HTK2.out,?_,?_,?_⟩
     ·have:=Y10.out.set_ 1 (.slice A2 (k+1) d2);simpa using this
     ·have:=S10.out.setLow (p:=⟨g,1,none⟩) (by show g<_;omega) (.slice A2 (k+1) d2);rw[zd5] at this;exact this.low
     ·exact O10.out.setCell lr (Nat.lt_succ_self _) _
    case measure=>simp[RowKit.intOf];omega
   ·obtain rfl:k=r.length:=by omega
    have HTB2:=hid (show tbsI (r.map fun x=>x.data.toList) (zav (zbP hd.data.toList)) []=(b,l) by have:=HTB.out;rwa[List.take_length] at this)
    have HNI:=hid (show netF s.data.toList=if b=true then (if ntT ⟨st,l⟩=s.data.toList then some ⟨st,l⟩ else none) else none by
     rw[<-HI.out,List.map_cons,zpb HTB2.out,HST.out])
    have yr:Blk wr w.heap.size 28 #[.int .i64 0,.slice none 0 0]:=(HO.out.block w.heap.size (by omega) (.inl (by omega))).trans Y0.out;have YR:=hid yr;clear yr;rcases b with _|_
    ·have HN:=hid (show netF s.data.toList=none by rw[HNI.out];rfl);have hc0:=YR.out.cellAt 0 (by simp);have hc1:=YR.out.cellAt 1 (by simp);have hf0:=YR.out.frozen 0;have hf1:=YR.out.frozen 1;go_wp2;exact bodyPost_ret (v:=.tuple #[.agg #[.int .i64 0,.slice none 0 0],.bool false]) (by simp[results,results26,go_sem,hc0,hc1]) rfl ⟨none,0,0,by rw[zdq HN.out,HN.out];rfl,by rw[zdq HN.out];exact Sl.nil _ _ _ _ _,(HBr.out.setCell lr _).setCell lr _⟩
    ·have cy0:=HY.out.cellAt 0 (by simp);have cy1:=HY.out.cellAt 1 (by simp);simp only[ly] at cy0 cy1
     go_wp2_with fail
     refine(ziO A' r.length c' wr.heap.size ⟨st,l⟩ wr (HS.out.reads lr) lr (by omega) (zaw HT.out HBr.out)).mono ?_;rintro e w5 ⟨rfl,b5⟩;have H5:=hid (zac HBr.out b5 lr);have S5:=hid (HS.out.on b5);have Y5:=hid (HY.out.on b5);have YR5:=hid (YR.out.on b5);clear b5 cy0 cy1;have hc0:=YR5.out.cellAt 0 (by simp);have hc1:=YR5.out.cellAt 1 (by simp);have hf0:=YR5.out.frozen 0;have hf1:=YR5.out.frozen 1;by_cases he:ntT ⟨st,l⟩=s.data.toList
     ·have HN:=hid (show netF s.data.toList=some ⟨st,l⟩ by rw[HNI.out];simp[he]);have hne:(!((zab (ntT ⟨st,l⟩)).toList==s.toList))=false:=by rw[he,zaM];simp
      have dy0:=Y5.out.cellAt 0 (by simp);have dy1:=Y5.out.cellAt 1 (by simp);simp only[ly] at dy0 dy1;clear he;go_wp2;refine bodyPost_ret (v:=.tuple #[.agg #[.int .i64 st,.slice A' r.length c'],.bool true]) ?_ rfl ⟨A',r.length,c',by rw[zdr HN.out,HN.out];rfl,?_,(H5.out.setCell lr _).setCell lr _⟩
      ·have q:=(YR5.out.set_ 0 (.int .i64 st)).set_ 1 (.slice A' r.length c');simp[results,results26,go_sem,hc0,hc1]
      ·rw[zdr HN.out];have:=((S5.out.wide (show w.heap.size+1<=w4.heap.size by omega) lr).setLow (p:=⟨w.heap.size,0,none⟩) (by show w.heap.size<_;omega) (.int .i64 st)).setLow (p:=⟨w.heap.size,1,none⟩) (by show w.heap.size<_;omega) (.slice A' r.length c');exact(this.wide (by omega) lr).low
     ·have HN:=hid (show netF s.data.toList=none by rw[HNI.out];simp[he])
      have hne:(!((zab (ntT ⟨st,l⟩)).toList==s.toList))=true:=by
       have:((zab (ntT ⟨st,l⟩)).toList==s.toList)=false:=by
        rw[beq_eq_false_iff_ne,ne_eq,Go.ByteArray.toList_eq,Go.ByteArray.toList_eq,zaf];exact he
       rw[this];rfl
      clear he;go_wp2;exact bodyPost_ret (v:=.tuple #[.agg #[.int .i64 0,.slice none 0 0],.bool false]) (by simp[results,results26,go_sem,hc0,hc1]) rfl ⟨none,0,0,by rw[zdq HN.out,HN.out];rfl,by rw[zdq HN.out];exact Sl.nil _ _ _ _ _,(H5.out.setCell lr _).setCell lr _⟩
end Go.Proofs.YtjalgpioklcbfaaGreatDoor
