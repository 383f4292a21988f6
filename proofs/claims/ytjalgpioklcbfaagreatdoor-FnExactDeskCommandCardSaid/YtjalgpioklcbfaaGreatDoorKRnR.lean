/- ReadNet, as the reference does it. -/
import Derived.Test.YtjalgpioklcbfaaGreatDoorKRnI
set_option maxHeartbeats 4000000
set_option maxRecDepth 100000
set_option linter.unusedVariables false
set_option linter.unusedSimpArgs false
namespace Go.Proofs.YtjalgpioklcbfaaGreatDoor
open Go.RowKit Go.Lib Go.Proofs.Tryz
theorem zlX:∀ (r:List (List UInt8)) (w:List UInt8) (ok b:Bool) (acc l:List Tb),tbsR r ok acc = some (b,l) -> tbsR (r ++ [w]) ok acc = match tbR w with
  |some x=>some (ok3 b x,l++ [tb3 x])
  |none=>none
 | [],w,ok,b,acc,l,h=>by
  simp only[tbsR,Option.some.injEq,Prod.mk.injEq] at h;obtain⟨rfl,rfl⟩:=h;rw[List.nil_append,tbsR]
  cases tbR w<;>rfl
 |v::r,w,ok,b,acc,l,h=>by
  rw[List.cons_append,tbsR];rw[tbsR] at h
  cases e:tbR v with
  |none=>rw[e] at h;cases h
  |some x=>
   rw[e] at h;exact zlX r w _ b _ l h
theorem zlZ:∀(p r:List (List UInt8)) (w:List UInt8) (ok:Bool) (acc:List Tb),tbR w=none->tbsR (p++w::r) ok acc=none
 | [],r,w,ok,acc,h=>by rw[List.nil_append,tbsR,h]
 |v::p,r,w,ok,acc,h=>by
  rw[List.cons_append,tbsR]
  cases tbR v with
  |none=>rfl
  |some x=>exact zlZ p r w _ _ h
theorem zlG{s h:List UInt8}{r:List (List UInt8)}{k:Nat}{w:List UInt8}(hs:zao 32 s=h::r)(hk:r[k]?=some w)(hw:tbR w=none):netF s=none:=by
 unfold netF;rw[hs]
 have e:r=r.take k++w::r.drop (k+1):=by
  have:=(List.take_append_drop k r).symm;rwa[List.drop_eq_getElem_cons (List.getElem?_eq_some_iff.1 hk).1,(List.getElem?_eq_some_iff.1 hk).2] at this
 simp only
 cases ze2 h with
 |none=>rfl
 |some x=>
  simp only;rw[e,zlZ _ _ _ _ _ hw]
theorem zsc{h:List UInt8}(hn:¬(zao 58 h).length=2):ze2 h=none:=by
 unfold ze2
 split
 ·rename_i x e;rw[e] at hn;simp at hn
 ·rfl
theorem zqJ{h x y:List UInt8}(e:zao 58 h=[x,y])(hy:y≠[]):ze2 h=none:=by
 unfold ze2;rw[e]
 split
 ·rename_i z e2;injection e2 with _ e2;injection e2 with e2 _;exact absurd e2 hy
 ·rfl
theorem zqK{h x:List UInt8}(e:zao 58 h=[x,[]]):ze2 h=some x:=by unfold ze2;rw[e]
theorem ztR{w:List UInt8}(hn:¬(zao 62 w).length=2):tbR w=none:=by
 unfold tbR
 split
 ·rename_i a r e;rw[e] at hn;simp at hn
 ·rfl
theorem zt9{w a r:List UInt8}(e:zao 62 w=[a,r])(hn:¬(zao 42 r).length=2):tbR w=none:=by
 unfold tbR;rw[e];simp only
 split
 ·rename_i b c e2;rw[e2] at hn;simp at hn
 ·rfl
theorem ztB{w a r b c:List UInt8}(e:zao 62 w=[a,r])(e2:zao 42 r=[b,c]):tbR w=some (a,b,c):=by
 unfold tbR;rw[e];simp only;rw[e2]
theorem len2{α:Type}:∀{l:List α},l.length=2->∃a b,l=[a,b]
 | [a,b],_=>⟨a,b,rfl⟩
theorem zih{w:World}{B:Nat}{A:Option Addr}{n:Nat}{c:UInt8}{s:ByteArray}{a b:List UInt8}(h:zad w B 1 A n (strs (zah c s)))(e:zao c s.data.toList=[a,b]):∃g o,A=some ⟨g,o,none⟩/\n=2/\w.cell? ⟨g,o,none⟩=some (.string (zab a))/\w.cell? ⟨g,o+1,none⟩=some (.string (zab b)):=by
 have hs:zah c s=[zab a,zab b]:=by unfold zah;rw[e];rfl
 rw[hs] at h;have hn:n=2:=by have:=h.1;simp[strs] at this;omega
 subst hn;obtain⟨g,o,e1,_,hc⟩:=h.at_ (by omega);exact⟨g,o,e1,rfl,hc 0 _ rfl,hc 1 _ rfl⟩
theorem zhd{w:World}{B:Nat}{A:Option Addr}{n:Nat}{c:UInt8}{s:ByteArray}(h:zad w B 1 A n (strs (zah c s))):(zao c s.data.toList).length=n:=by
 have:=h.1;rw[za6] at this;unfold zah at this;rw[List.length_map] at this;omega
theorem zn3(c:UInt8):∀(l:List UInt8) (x:List UInt8),x∈zao c l->x.length<=l.length
 | [],x,hx=>by rw[zao,List.mem_singleton] at hx;subst hx;exact Nat.le_refl _
 |a::r,x,hx=>by
  have ih:=zn3 c r;rw[zao] at hx
  split at hx
  ·rcases List.mem_cons.1 hx with rfl|hx
   ·exact Nat.zero_le _
   ·have:=ih x hx;rw[List.length_cons];omega
  ·split at hx
   ·rw[List.mem_singleton] at hx;subst hx;simp
   ·rename_i y t he;rcases List.mem_cons.1 hx with rfl|hx
    ·have:=ih y (by rw[he];exact List.mem_cons_self);rw[List.length_cons,List.length_cons];omega
    ·have:=ih x (by rw[he];exact List.mem_cons_of_mem _ hx);rw[List.length_cons];omega
theorem zet{c:UInt8}{s:ByteArray}{x:List UInt8}(h:x∈zao c s.data.toList):(zab x).size<=s.size:=by
 have h1:=zn3 c _ x h;rw[zaj,<-za8 s];exact h1
theorem ztE:((zab ([]:List UInt8)).toList==[])=true:=by
 rw[beq_iff_eq,Go.ByteArray.toList_eq,zaf]
theorem zq2{w w':World}{b o:Nat}(h:w'.heap[b]?=w.heap[b]?):w'.cell? ⟨b,o,none⟩=w.cell? ⟨b,o,none⟩:=by
 unfold World.cell?;rw[h]
theorem zhl{u:World}{g:Nat}{t:TypeId}{a b:Value}(y:Blk u g t #[a,b])(v0 v1:Value):((u.setCell ⟨g,0,none⟩ v0).setCell ⟨g,1,none⟩ v1).cell? ⟨g,0,none⟩=some v0/\((u.setCell ⟨g,0,none⟩ v0).setCell ⟨g,1,none⟩ v1).cell? ⟨g,1,none⟩=some v1:=by
 have q:=(y.set_ 0 v0).set_ 1 v1;exact⟨q.cellAt 0 (by simp),q.cellAt 1 (by simp)⟩
theorem zky (s:ByteArray) (w:World) (hs:s.size <= 1048576) :
  Calls prog 178 #[.string s] w fun e w'=>((∃nt A n c,netF s.data.toList=some nt/\e= .returned (.tuple #[.agg #[.int .i64 nt.sta,.slice A n c],.bool true])/\Sl w' w.heap.size w'.heap.size 101 3 A n c (tbs nt.tubes))\/(netF s.data.toList=none/\e= .returned (.tuple #[.agg #[.int .i64 0,.slice none 0 0],.bool false])))/\Below w.heap.size w w':=by
 have b0:Below w.heap.size w (w.alloc (.cells #[.int .i64 0,.slice none 0 0] 28)):=bal _;have Y0:=hid (Blk.new w 28 #[.int .i64 0,.slice none 0 0]);have B0:=hid b0;clear b0;go_enter func178,ntmps178
 go_wp2_with fail
 refine(zcD s 32 _ hs).mono ?_;rintro e w1 ⟨A1,m1,d1,rfl,s1,b1⟩;have Y1:=hid (Y0.out.on b1);have HB1:=hid (zac B0.out b1 lr);have HR1:=hid (s1.reads lr);have hm1:=zhd (s1.reads lr)
 obtain⟨hd,r,hws⟩:∃hd r,zao 32 s.data.toList=hd::r:=by
  cases e:zao 32 s.data.toList with
  |nil=>exact absurd e (zdL 32 _)
  |cons a b=>exact⟨a,b,rfl⟩
 have HWS:=hid hws;have HPS:=hid (fun x (hx:x∈zao 32 s.data.toList)=>zet (c:=32) (s:=s) hx);have hmr:m1=r.length+1:=by rw[hws,List.length_cons] at hm1;omega
 have hm1b:m1<=1048577:=by
  have h1:=zc2 32 s;have h2:s.data.toList.count 32<=s.size:=by rw[<-za8 s];exact List.count_le_length
  unfold zah at h1;rw[List.length_map,hm1] at h1;omega
 obtain⟨x0,bw,ow,hx0,rfl,_,cw0⟩:=zaP HR1.out (k:=0) (by omega);obtain rfl:zab hd=x0:=by unfold zah at hx0;rw[hws] at hx0;simpa using hx0
 rw[Nat.add_zero] at cw0;have hhd:(zab hd).size<=1048576:=by have:=HPS.out hd (by rw[hws];exact List.mem_cons_self);omega
 have HC1:=hid (fun(k:Nat) (v:List UInt8) (hk:r[k]?=some v)=>(show w1.cell? ⟨bw,ow+(k+1),none⟩=some (.string (zab v)) by
  obtain⟨x9,b9,o9,hx9,e9,_,c9⟩:=zaP HR1.out (k:=k+1) (by have:=(List.getElem?_eq_some_iff.1 hk).1;omega);injection e9 with e9;injection e9 with e9 e8;subst e9 e8
  obtain rfl:zab v=x9:=by
   unfold zah at hx9;rw[HWS.out,List.map_cons,List.getElem?_cons_succ,List.getElem?_map,hk] at hx9;simpa using hx9
  exact c9))
 clear s1 b1 hx0 hws hm1
 go_wp2_with fail
 refine(zcD (zab hd) 58 _ hhd).mono ?_;rintro e w2 ⟨A2,m2,d2,rfl,s2,b2⟩;have Y2:=hid (Y1.out.on b2);have HB2:=hid (zac HB1.out b2 lr);have HR2:=hid (s2.reads lr);have hm2:=zhd (s2.reads lr);rw[zaf] at hm2;have HC2:=hid (fun k v hk=>zaa b2 (HC1.out k v hk));clear s2 b2 cw0;by_cases h2:(zao 58 hd).length=2;rotate_left
 ·have HN:=hid (show netF s.data.toList=none by unfold netF;rw[HWS.out];simp only;rw[zsc h2]);have d1:((m2:Int) !=2)=true:=by rw[bne_iff_ne];omega
  clear h2;have hc0:=Y2.out.cellAt 0 (by simp);have hc1:=Y2.out.cellAt 1 (by simp);have hf0:=Y2.out.frozen 0;have hf1:=Y2.out.frozen 1;go_wp2;obtain⟨z0,z1⟩:=zhl Y2.out (.int .i64 0) (.slice none 0 0);exact bodyPost_ret (v:=.tuple #[.agg #[.int .i64 0,.slice none 0 0],.bool false]) (by simp[results,results178,go_sem,hc0,hc1]) rfl ⟨.inr ⟨HN.out,rfl⟩,(HB2.out.setCell lr _).setCell lr _⟩
 obtain⟨hx,hy,hxy⟩:=len2 h2;obtain⟨g2,o2,rfl,rfl,p0,p1⟩:=zih HR2.out (by rw[zaf];exact hxy);have HXY:=hid hxy;have hxs:(zab hx).size<=1048576:=by have:=zet (c:=58) (s:=zab hd) (x:=hx) (by rw[zaf,hxy];simp);omega
 clear h2 hm2 hxy;by_cases hy0:hy=[];rotate_left
 ·have HN:=hid (show netF s.data.toList=none by unfold netF;rw[HWS.out];simp only;rw[zqJ HXY.out hy0])
  have d3:((zab hy).toList==[])=false:=by
   rw[beq_eq_false_iff_ne,ne_eq,Go.ByteArray.toList_eq,zaf];exact hy0
  clear hy0;have hc0:=Y2.out.cellAt 0 (by simp);have hc1:=Y2.out.cellAt 1 (by simp);have hf0:=Y2.out.frozen 0;have hf1:=Y2.out.frozen 1;go_wp2;obtain⟨z0,z1⟩:=zhl Y2.out (.int .i64 0) (.slice none 0 0);exact bodyPost_ret (v:=.tuple #[.agg #[.int .i64 0,.slice none 0 0],.bool false]) (by simp[results,results178,go_sem,hc0,hc1]) rfl ⟨.inr ⟨HN.out,rfl⟩,(HB2.out.setCell lr _).setCell lr _⟩
 subst hy0;have d4:=ztE;have HH:=hid (zqK HXY.out)
 go_wp2_with fail
 refine(zbX (zab hx) _ (by omega)).mono ?_;rintro e w3 ⟨rfl,b3⟩;rw[zaf,zd3 hx];obtain⟨st,hst⟩:∃q,(zak hx).1=q:=⟨_,rfl⟩
 obtain⟨d0,hd0⟩:∃q,zav hx=q:=⟨_,rfl⟩
 rw[hst,hd0];have HST:=hid hst;have HD0:=hid hd0;have Y3:=hid (Y2.out.on b3);have HB3:=hid (zac HB2.out b3 lr);have HC3:=hid (fun k v hk=>zaa b3 (HC2.out k v hk));clear hst hd0 p0 p1 b3
 go_upto_region 7 with fail
 obtain⟨w4,hw4⟩:∃y,w3.alloc (.cells #[.int .i64 st,.slice none 0 0] 28)=y:=⟨_,rfl⟩
 have b4:Below w3.heap.size w3 w4:=by rw[<-hw4];exact bal _
 have y4:Blk w4 w3.heap.size 28 #[.int .i64 st,.slice none 0 0]:=by rw[<-hw4];exact Blk.new _ _ _
 have hz4:w4.heap.size=w3.heap.size+1:=by rw[<-hw4];simp
 rw[hw4];have HB4:=hid (zac HB3.out b4 lr);have HC4:=hid (fun k v hk=>zaa b4 (HC3.out k v hk));have Y0:=hid (Y3.out.on b4);have HZ0:=hid Y3.out.lt;have Y4:=hid y4;clear hw4 b4 y4;obtain⟨g,hg⟩:∃q,w3.heap.size=q:=⟨_,rfl⟩
 rw[hg] at Y4 hz4 HZ0⊢;have HG:=hid (show w.heap.size<=g by rw[<-hg];exact HB3.out.size);have HBW:=hid (fun k v (hk:r[k]?=some v)=>(show bw<g by rw[<-hg];exact World.block_lt_of_cell? _ _ (HC3.out k v hk)));clear hg
 have HN0:=hid (show netF s.data.toList = (match tbsR r d0 [] with
   |none=>none
   |some (ok,l)=>if (ok&&okNt ⟨st,l⟩)=true then some ⟨st,l⟩ else none) by
  unfold netF;rw[HWS.out];simp only;rw[HH.out];simp only;rw[HST.out,HD0.out]
  rfl)
 go_wp2_with fail
 go_loopw [7,9] (fun ok i wr=>∃(k:Nat) (A':Option Addr) (c':Nat) (b:Bool) (l:List Tb),k<=r.length/\i= .int .i64 ((k+1:Nat):Int)/\ok= .bool b/\tbsR (r.take k) d0 []=some (b,l)/\Blk wr g 28 #[.int .i64 st,.slice A' k c']/\Sl wr w4.heap.size wr.heap.size 101 3 A' k c' (tbs l)/\Only g (g+1) w4 wr) (fun _ i _=>r.length+1-(RowKit.intOf i).toNat)
 case atStart=>exact⟨0,_,_,_,[],Nat.zero_le _,rfl,rfl,rfl,Y4.out,Sl.nil _ _ _ _ _,Only.refl _ _ _⟩
 case round=>
  obtain⟨k,A',c',b,l,hk,rfl,rfl,htb,hy,hsl,hon⟩:=hrel;have HTB:=hid htb;have HY:=hid hy;have HS:=hid hsl;have HO:=hid hon;have HBr:=hid (zbN HB4.out hon (by have:=HG.out;omega) lr);have YR:=hid (show Blk wr w.heap.size 28 #[.int .i64 0,.slice none 0 0] from(HO.out.block w.heap.size (by have:=HZ0.out;omega) (.inl HZ0.out)).trans Y0.out);clear htb hy hsl hon;have hk0:(0:Int)<=k:=by omega
  rcases Nat.lt_or_ge k r.length with hlt|hge;rotate_left
  ·obtain rfl:k=r.length:=by omega
   have HTB2:=hid (show tbsR r d0 []=some (b,l) by have:=HTB.out;rwa[List.take_length] at this);have HNI:=hid (show netF s.data.toList=if (b&&okNt ⟨st,l⟩)=true then some ⟨st,l⟩ else none by rw[HN0.out,HTB2.out]);rcases b with _|_
   ·have HN:=hid (show netF s.data.toList=none by rw[HNI.out];rfl);have hc0:=YR.out.cellAt 0 (by simp);have hc1:=YR.out.cellAt 1 (by simp);have hf0:=YR.out.frozen 0;have hf1:=YR.out.frozen 1;go_wp2;obtain⟨z0,z1⟩:=zhl YR.out (.int .i64 0) (.slice none 0 0);exact bodyPost_ret (v:=.tuple #[.agg #[.int .i64 0,.slice none 0 0],.bool false]) (by simp[results,results178,go_sem,hc0,hc1]) rfl ⟨.inr ⟨HN.out,rfl⟩,(HBr.out.setCell lr _).setCell lr _⟩
   ·have cy0:=HY.out.cellAt 0 (by simp);have cy1:=HY.out.cellAt 1 (by simp);simp only[ly] at cy0 cy1;have HOKC:=hid (zfh A' r.length c' wr.heap.size g ⟨st,l⟩ wr (HS.out.reads lr) lr (by omega) cy0 cy1);clear cy0 cy1
    go_wp2_with fail
    refine HOKC.out.mono ?_;rintro e w5 ⟨rfl,b5⟩;have H5:=hid (zac HBr.out b5 lr);have S5:=hid (HS.out.on b5);have Y5:=hid (HY.out.on b5);have YR5:=hid (YR.out.on b5);clear b5;rcases hok:okNt ⟨st,l⟩ with _|_
    ·have HN:=hid (show netF s.data.toList=none by rw[HNI.out,hok];rfl);clear hok;have hc0:=YR5.out.cellAt 0 (by simp);have hc1:=YR5.out.cellAt 1 (by simp);have hf0:=YR5.out.frozen 0;have hf1:=YR5.out.frozen 1;go_wp2;obtain⟨z0,z1⟩:=zhl YR5.out (.int .i64 0) (.slice none 0 0);exact bodyPost_ret (v:=.tuple #[.agg #[.int .i64 0,.slice none 0 0],.bool false]) (by simp[results,results178,go_sem,hc0,hc1]) rfl ⟨.inr ⟨HN.out,rfl⟩,(H5.out.setCell lr _).setCell lr _⟩
    ·have HN:=hid (show netF s.data.toList=some ⟨st,l⟩ by rw[HNI.out,hok];rfl);clear hok;have hc0:=YR5.out.cellAt 0 (by simp);have hc1:=YR5.out.cellAt 1 (by simp);have hf0:=YR5.out.frozen 0;have hf1:=YR5.out.frozen 1;have dy0:=Y5.out.cellAt 0 (by simp);have dy1:=Y5.out.cellAt 1 (by simp);simp only[ly] at dy0 dy1;go_wp2;refine bodyPost_ret (v:=.tuple #[.agg #[.int .i64 st,.slice A' r.length c'],.bool true]) ?_ rfl ⟨.inl ⟨⟨st,l⟩,A',r.length,c',HN.out,rfl,?_⟩,(H5.out.setCell lr _).setCell lr _⟩
     ·obtain⟨q0,q1⟩:=zhl YR5.out (.int .i64 st) (.slice A' r.length c');simp[results,results178,go_sem,hc0,hc1]
     ·have h0:=HZ0.out;have:=((S5.out.wide (show w.heap.size+1<=w4.heap.size by omega) lr).setLow (p:=⟨w.heap.size,0,none⟩) (by show w.heap.size<_;omega) (.int .i64 st)).setLow (p:=⟨w.heap.size,1,none⟩) (by show w.heap.size<_;omega) (.slice A' r.length c');exact(this.wide (by omega) lr).low
  obtain⟨v,hv⟩:∃v,r[k]?=some v:=⟨_,List.getElem?_eq_getElem hlt⟩
  have cv:wr.cell? ⟨bw,ow+(k+1),none⟩=some (.string (zab v)):=by
   rw[<-HC4.out k v hv];have hb:=HBW.out k v hv;exact zq2 (HO.out.block bw (by omega) (.inl hb))
  have hvs:(zab v).size<=1048576:=by have:=HPS.out v (by rw[HWS.out];exact List.mem_cons_of_mem _ (List.mem_of_getElem? hv));omega
  have HV:=hid hv
  have HTK:=hid (show∀x,tbR v=some x->tbsR (r.take (k+1)) d0 []=some (ok3 b x,l++ [tb3 x]) by
   intro x hx;rw[List.take_add_one,hv,Option.toList_some,zlX _ _ _ _ _ _ HTB.out,hx])
  clear hv
  go_wp2_with fail
  refine(zcD (zab v) 62 _ hvs).mono ?_;rintro e w5 ⟨A5,m5,d5,rfl,s5,b5⟩;have HR5:=hid (s5.reads lr);have hm5:=zhd (s5.reads lr);rw[zaf] at hm5;have H5:=hid (zac HBr.out b5 lr);have Y5:=hid (HY.out.on b5);have YR5:=hid (YR.out.on b5);have S5:=hid (HS.out.on b5);have O5:=hid (HO.out.trans (Only.of_below b5 _ _));clear s5 b5 cv;by_cases h2:(zao 62 v).length=2;rotate_left
  ·have HN:=hid (zlG HWS.out HV.out (ztR h2));have d1:((m5:Int) !=2)=true:=by rw[bne_iff_ne];omega
   clear h2;have hc0:=YR5.out.cellAt 0 (by simp);have hc1:=YR5.out.cellAt 1 (by simp);have hf0:=YR5.out.frozen 0;have hf1:=YR5.out.frozen 1;go_wp2;obtain⟨z0,z1⟩:=zhl YR5.out (.int .i64 0) (.slice none 0 0);exact bodyPost_ret (v:=.tuple #[.agg #[.int .i64 0,.slice none 0 0],.bool false]) (by simp[results,results178,go_sem,hc0,hc1]) rfl ⟨.inr ⟨HN.out,rfl⟩,(H5.out.setCell lr _).setCell lr _⟩
  obtain⟨va,vr,hva⟩:=len2 h2;obtain⟨g5,o5,rfl,rfl,p0,p1⟩:=zih HR5.out (by rw[zaf];exact hva);have hvas:(zab va).size<=1048576:=by have:=zet (c:=62) (s:=zab v) (x:=va) (by rw[zaf,hva];simp);omega
  have hvrs:(zab vr).size<=1048576:=by have:=zet (c:=62) (s:=zab v) (x:=vr) (by rw[zaf,hva];simp);omega
  have HVA:=hid hva;have P0:=hid p0;clear h2 hm5 hva
  go_wp2_with fail
  refine(zcD (zab vr) 42 _ hvrs).mono ?_;rintro e w6 ⟨A6,m6,d6,rfl,s6,b6⟩;have HR6:=hid (s6.reads lr);have hm6:=zhd (s6.reads lr);rw[zaf] at hm6;have H6:=hid (zac H5.out b6 lr);have Y6:=hid (Y5.out.on b6);have YR6:=hid (YR5.out.on b6);have S6:=hid (S5.out.on b6);have O6:=hid (O5.out.trans (Only.of_below b6 _ _));have p0:=zaa b6 P0.out;clear s6 b6 p1;by_cases h2:(zao 42 vr).length=2;rotate_left
  ·have HN:=hid (zlG HWS.out HV.out (zt9 HVA.out h2));have d1:((m6:Int) !=2)=true:=by rw[bne_iff_ne];omega
   clear h2;have hc0:=YR6.out.cellAt 0 (by simp);have hc1:=YR6.out.cellAt 1 (by simp);have hf0:=YR6.out.frozen 0;have hf1:=YR6.out.frozen 1;go_wp2;obtain⟨z0,z1⟩:=zhl YR6.out (.int .i64 0) (.slice none 0 0);exact bodyPost_ret (v:=.tuple #[.agg #[.int .i64 0,.slice none 0 0],.bool false]) (by simp[results,results178,go_sem,hc0,hc1]) rfl ⟨.inr ⟨HN.out,rfl⟩,(H6.out.setCell lr _).setCell lr _⟩
  obtain⟨vb,vc,hvb⟩:=len2 h2;obtain⟨g6,o6,rfl,rfl,q0,q1⟩:=zih HR6.out (by rw[zaf];exact hvb);have hvbs:(zab vb).size<=1048576:=by have:=zet (c:=42) (s:=zab vr) (x:=vb) (by rw[zaf,hvb];simp);omega
  have hvcs:(zab vc).size<=1048576:=by have:=zet (c:=42) (s:=zab vr) (x:=vc) (by rw[zaf,hvb];simp);omega
  have HTX:=hid (HTK.out _ (ztB HVA.out hvb));clear h2 hm6 hvb
  go_wp2_with fail
  refine(zbX (zab va) _ (by omega)).mono ?_;rintro e w7 ⟨rfl,b7⟩;rw[zaf,zd3 va];obtain⟨v7,hv7⟩:∃q,(zak va).1=q:=⟨_,rfl⟩
  obtain⟨d7,hd7⟩:∃q,zav va=q:=⟨_,rfl⟩
  rw[hv7,hd7];have V7:=hid hv7;have D7:=hid hd7;have H7:=hid (zac H6.out b7 lr);have Y7:=hid (Y6.out.on b7);have S7:=hid (S6.out.on b7);have O7:=hid (O6.out.trans (Only.of_below b7 _ _));replace q0:=zaa b7 q0;replace q1:=zaa b7 q1;replace p0:=zaa b7 p0;clear b7 hv7 hd7
  go_wp2_with fail
  refine(zbX (zab vb) _ (by omega)).mono ?_;rintro e w8 ⟨rfl,b8⟩;rw[zaf,zd3 vb];obtain⟨v8,hv8⟩:∃q,(zak vb).1=q:=⟨_,rfl⟩
  obtain⟨d8,hd8⟩:∃q,zav vb=q:=⟨_,rfl⟩
  rw[hv8,hd8];have V8:=hid hv8;have D8:=hid hd8;have H8:=hid (zac H7.out b8 lr);have Y8:=hid (Y7.out.on b8);have S8:=hid (S7.out.on b8);have O8:=hid (O7.out.trans (Only.of_below b8 _ _));replace q0:=zaa b8 q0;replace q1:=zaa b8 q1;replace p0:=zaa b8 p0;clear b8 hv8 hd8
  go_wp2_with fail
  refine(zbX (zab vc) _ (by omega)).mono ?_;rintro e w9 ⟨rfl,b9⟩;rw[zaf,zd3 vc];obtain⟨v9,hv9⟩:∃q,(zak vc).1=q:=⟨_,rfl⟩
  obtain⟨d9,hd9⟩:∃q,zav vc=q:=⟨_,rfl⟩
  rw[hv9,hd9];have V9:=hid hv9;have D9:=hid hd9;have Y9:=hid (Y8.out.on b9);have S9:=hid (S8.out.on b9);have O9:=hid (O8.out.trans (Only.of_below b9 _ _));replace q0:=zaa b9 q0;replace q1:=zaa b9 q1;replace p0:=zaa b9 p0;clear b9 hv9 hd9
  have HTK2:=hid (show tbsR (r.take (k+1)) d0 []=some (b&&d7&&d8&&d9,l++ [⟨v7,v8,v9⟩]) by
   rw[HTX.out];simp only[ok3,tb3,V7.out,V8.out,V9.out,D7.out,D8.out,D9.out])
  have cy0:=Y9.out.cellAt 0 (by simp);have cy1:=Y9.out.cellAt 1 (by simp);simp only[ly] at cy0 cy1;have hz9:w4.heap.size<=w9.heap.size:=O9.out.size;have HNE:=hid (S9.out.loNe (show g<w4.heap.size by omega));have YL:=hid Y9.out.lt;have hkb:k<=1048576:=by omega
  clear p0 q0 q1 hvs hvas hvrs hvbs hvcs;rcases b with _|_
  ·rw[show(false&&d7&&d8&&d9)=false by simp] at HTK2
   go_wp2_with (at_builtin;refine zat rfl _ _ 26 rfl 101 _ 3 24 underlying26 zcf rfl (by decide) (by decide) S9.out hz9 rfl (zbs ⟨v7,v8,v9⟩) w9.heap.size rfl rfl rfl (zcO _) (by omega) ?_;intro A2 d2 w10 hs10 b10 _ f10 k10;have Y10:=hid (show Blk w10 g 28 #[.int .i64 st,.slice A' k c'] from(f10 g YL.out HNE.out).trans Y9.out);have S10:=hid hs10;have O10:=hid (O9.out.thenBelow b10);have cy0:=Y10.out.cellAt 0 (by simp);have cy1:=Y10.out.cellAt 1 (by simp);have cf0:=Y10.out.frozen 0;have cf1:=Y10.out.frozen 1;clear hs10 b10 f10 k10)
   go_roundw
   case rel=>
    refine⟨k+1,A2,d2,false,l++ [⟨v7,v8,v9⟩],by omega,by go_num,rfl,HTK2.out,?_,?_,?_⟩
    ·have:=Y10.out.set_ 1 (.slice A2 (k+1) d2);simpa using this
    ·have:=S10.out.setLow (p:=⟨g,1,none⟩) (by show g<_;omega) (.slice A2 (k+1) d2);rw[zd5] at this;exact this.low
    ·exact O10.out.setCell lr (Nat.lt_succ_self _) _
   case measure=>simp[RowKit.intOf];omega
  rcases d7 with _|_
  ·rw[show(true&&false&&d8&&d9)=false by simp] at HTK2
   go_wp2_with (at_builtin;refine zat rfl _ _ 26 rfl 101 _ 3 24 underlying26 zcf rfl (by decide) (by decide) S9.out hz9 rfl (zbs ⟨v7,v8,v9⟩) w9.heap.size rfl rfl rfl (zcO _) (by omega) ?_;intro A2 d2 w10 hs10 b10 _ f10 k10;have Y10:=hid (show Blk w10 g 28 #[.int .i64 st,.slice A' k c'] from(f10 g YL.out HNE.out).trans Y9.out);have S10:=hid hs10;have O10:=hid (O9.out.thenBelow b10);have cy0:=Y10.out.cellAt 0 (by simp);have cy1:=Y10.out.cellAt 1 (by simp);have cf0:=Y10.out.frozen 0;have cf1:=Y10.out.frozen 1;clear hs10 b10 f10 k10)
   go_roundw
   case rel=>
    refine⟨k+1,A2,d2,false,l++ [⟨v7,v8,v9⟩],by omega,by go_num,rfl,HTK2.out,?_,?_,?_⟩
    ·have:=Y10.out.set_ 1 (.slice A2 (k+1) d2);simpa using this
    ·have:=S10.out.setLow (p:=⟨g,1,none⟩) (by show g<_;omega) (.slice A2 (k+1) d2);rw[zd5] at this;exact this.low
    ·exact O10.out.setCell lr (Nat.lt_succ_self _) _
   case measure=>simp[RowKit.intOf];omega
  rcases d8 with _|_
  ·rw[show(true&&true&&false&&d9)=false by simp] at HTK2
   go_wp2_with (at_builtin;refine zat rfl _ _ 26 rfl 101 _ 3 24 underlying26 zcf rfl (by decide) (by decide) S9.out hz9 rfl (zbs ⟨v7,v8,v9⟩) w9.heap.size rfl rfl rfl (zcO _) (by omega) ?_;intro A2 d2 w10 hs10 b10 _ f10 k10;have Y10:=hid (show Blk w10 g 28 #[.int .i64 st,.slice A' k c'] from(f10 g YL.out HNE.out).trans Y9.out);have S10:=hid hs10;have O10:=hid (O9.out.thenBelow b10);have cy0:=Y10.out.cellAt 0 (by simp);have cy1:=Y10.out.cellAt 1 (by simp);have cf0:=Y10.out.frozen 0;have cf1:=Y10.out.frozen 1;clear hs10 b10 f10 k10)
   go_roundw
   case rel=>
    refine⟨k+1,A2,d2,false,l++ [⟨v7,v8,v9⟩],by omega,by go_num,rfl,HTK2.out,?_,?_,?_⟩
    ·have:=Y10.out.set_ 1 (.slice A2 (k+1) d2);simpa using this
    ·have:=S10.out.setLow (p:=⟨g,1,none⟩) (by show g<_;omega) (.slice A2 (k+1) d2);rw[zd5] at this;exact this.low
    ·exact O10.out.setCell lr (Nat.lt_succ_self _) _
   case measure=>simp[RowKit.intOf];omega
  rcases d9 with _|_
  ·rw[show(true&&true&&true&&false)=false by simp] at HTK2
   go_wp2_with (at_builtin;refine zat rfl _ _ 26 rfl 101 _ 3 24 underlying26 zcf rfl (by decide) (by decide) S9.out hz9 rfl (zbs ⟨v7,v8,v9⟩) w9.heap.size rfl rfl rfl (zcO _) (by omega) ?_;intro A2 d2 w10 hs10 b10 _ f10 k10;have Y10:=hid (show Blk w10 g 28 #[.int .i64 st,.slice A' k c'] from(f10 g YL.out HNE.out).trans Y9.out);have S10:=hid hs10;have O10:=hid (O9.out.thenBelow b10);have cy0:=Y10.out.cellAt 0 (by simp);have cy1:=Y10.out.cellAt 1 (by simp);have cf0:=Y10.out.frozen 0;have cf1:=Y10.out.frozen 1;clear hs10 b10 f10 k10)
   go_roundw
   case rel=>
    refine⟨k+1,A2,d2,false,l++ [⟨v7,v8,v9⟩],by omega,by go_num,rfl,HTK2.out,?_,?_,?_⟩
    ·have:=Y10.out.set_ 1 (.slice A2 (k+1) d2);simpa using this
    ·have:=S10.out.setLow (p:=⟨g,1,none⟩) (by show g<_;omega) (.slice A2 (k+1) d2);rw[zd5] at this;exact this.low
    ·exact O10.out.setCell lr (Nat.lt_succ_self _) _
   case measure=>simp[RowKit.intOf];omega
  rw[show(true&&true&&true&&true)=true by rfl] at HTK2
  go_wp2_with (at_builtin;refine zat rfl _ _ 26 rfl 101 _ 3 24 underlying26 zcf rfl (by decide) (by decide) S9.out hz9 rfl (zbs ⟨v7,v8,v9⟩) w9.heap.size rfl rfl rfl (zcO _) (by omega) ?_;intro A2 d2 w10 hs10 b10 _ f10 k10;have Y10:=hid (show Blk w10 g 28 #[.int .i64 st,.slice A' k c'] from(f10 g YL.out HNE.out).trans Y9.out);have S10:=hid hs10;have O10:=hid (O9.out.thenBelow b10);have cy0:=Y10.out.cellAt 0 (by simp);have cy1:=Y10.out.cellAt 1 (by simp);have cf0:=Y10.out.frozen 0;have cf1:=Y10.out.frozen 1;clear hs10 b10 f10 k10)
  go_roundw
  case rel=>
   refine⟨k+1,A2,d2,true,l++ [⟨v7,v8,v9⟩],by omega,by go_num,rfl,HTK2.out,?_,?_,?_⟩
   ·have:=Y10.out.set_ 1 (.slice A2 (k+1) d2);simpa using this
   ·have:=S10.out.setLow (p:=⟨g,1,none⟩) (by show g<_;omega) (.slice A2 (k+1) d2);rw[zd5] at this;exact this.low
   ·exact O10.out.setCell lr (Nat.lt_succ_self _) _
  case measure=>simp[RowKit.intOf];omega
end Go.Proofs.YtjalgpioklcbfaaGreatDoor
