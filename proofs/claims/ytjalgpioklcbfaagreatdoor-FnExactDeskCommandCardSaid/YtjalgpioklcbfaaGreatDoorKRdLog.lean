/- What is read of a log, as the program reads it. -/
import Derived.Test.YtjalgpioklcbfaaGreatDoorKRdL
set_option maxHeartbeats 4000000
set_option maxRecDepth 100000
set_option linter.unusedVariables false
set_option linter.unusedSimpArgs false
namespace Go.Proofs.YtjalgpioklcbfaaGreatDoor
open Go.RowKit Go.Lib Go.Proofs.Tryz
theorem zgB:(prog.info? 145).map (fun i=>(i.zero,i.size,i.bytes))=some (some (.agg #[.int .i64 0,.string ⟨#[]⟩,.int .i64 0]),3,32):=by kernel_rfl
theorem zg8(x:En):∀u∈zc7 x,u.oneCell'=true:=by
 intro u hu;simp[zc7] at hu;rcases hu with rfl|rfl|rfl<;>rfl
theorem zfG(l:List En)(x:En):ens (l++ [x])=ens l++zc7 x:=by simp[ens]
def atOf(w:World)(p:Addr):Nat:=match w.cell? p with
 |some (.int _ v)=>v.toNat
 |_=>0
theorem zoM{w:World}{p:Addr}{k:IntKind}{v:Int}(h:w.cell? p=some (.int k v)):atOf w p=v.toNat:=by simp[atOf,h]
theorem ziP (s:ByteArray) (m:Int) (w:World) (hs:s.size <= 1048576) (hm:w.cell? ⟨1,0,none⟩ = some (.int .i64 m)) (ht:TabP w) (hv:SynP w) :
  Calls prog 94 #[.string s] w fun e w'=>∃(A:Option Addr) (n d:Nat),e= .returned (.agg #[.slice A n d,.int .i64 (logR s).stamp,.int .i64 (logR s).at_])/\Sl w' w.heap.size w'.heap.size 145 3 A n d (ens (logR s).list)/\Below w.heap.size w w':=by
 have HT:=hid ht;have HV:=hid hv;have HM:=hid hm;clear ht hv hm;go_enter func94,ntmps94
 go_wp2_with fail
 obtain⟨wq,hwq⟩:∃y,(w.alloc (.cells #[.slice none 0 0,.int .i64 0,.int .i64 0] 150)).alloc (.cells #[.slice none 0 0,.int .i64 0,.int .i64 0] 150)=y:=⟨_,rfl⟩
 have yr:Blk wq w.heap.size 150 #[.slice none 0 0,.int .i64 0,.int .i64 0]:=by rw[<-hwq];exact(Blk.new _ _ _).alloc _
 have yo:Blk wq (w.heap.size+1) 150 #[.slice none 0 0,.int .i64 0,.int .i64 0]:=by rw[<-hwq];have:=Blk.new (w.alloc (.cells #[.slice none 0 0,.int .i64 0,.int .i64 0] 150)) 150 #[.slice none 0 0,.int .i64 0,.int .i64 0];simpa using this
 have bq:Below w.heap.size w wq:=by rw[<-hwq];exact(bal _).alloc (by simp) _
 have hzq:w.heap.size+2<=wq.heap.size:=by rw[<-hwq];simp
 rw[hwq];clear hwq
 go_loopw [] (fun wr=>∃(r:LogR) (A:Option Addr) (n d:Nat) (v0 v1 v2:Value),r.ok/\r.at_<=s.size/\logR s=zbK (zah 10 (s.extract r.at_ s.size)) r/\Blk wr (w.heap.size+1) 150 #[.slice A n d,.int .i64 r.stamp,.int .i64 (r.at_:Int)]/\Blk wr w.heap.size 150 #[v0,v1,v2]/\Sl wr (w.heap.size+2) wr.heap.size 145 3 A n d (ens r.list)/\w.heap.size+2<=wr.heap.size/\Below w.heap.size w wr) (fun wr=>s.size-atOf wr ⟨w.heap.size+1,2,none⟩)
 case atStart=>exact⟨⟨[],0,0⟩,none,0,0,_,_,_,LogR.ok_start,Nat.zero_le _,by rw[zoc];rfl,yo,yr,Sl.nil _ _ _ _ _,hzq,bq⟩
 case round=>
  obtain⟨r,A,n,d,v0,v1,v2,hok,hat,hgo,yo,yr,hsl,hz,hbel⟩:=hrel;have HOK:=hid hok;have hln:r.list.length=n:=by have:=hsl.len;rw[zcQ] at this;omega
  have hn1:n<=1048576:=by have:=hok.len;omega
  have hs0:=hok.stamp0;have hs1:=hok.stamp1;have hb0:(0:Int)<=(r.at_:Int):=by omega
  have hb1:(r.at_:Int)<=(s.size:Int):=by omega
  have hcm:=zaa hbel HM.out;have HAT:=hid (show atOf wr ⟨w.heap.size+1,2,none⟩=r.at_ by rw[zoM (yo.cellAt 2 (by simp))];exact Int.toNat_natCast _);have o0:wr.cell? ⟨w.heap.size+1,0,none⟩=some (.slice A n d):=yo.cellAt 0 (by simp);have o1:wr.cell? ⟨w.heap.size+1,1,none⟩=some (.int .i64 r.stamp):=yo.cellAt 1 (by simp);have o2:wr.cell? ⟨w.heap.size+1,2,none⟩=some (.int .i64 (r.at_:Int)):=yo.cellAt 2 (by simp);rcases zcU 10 (s.extract r.at_ s.size).data.toList with ⟨_,hno⟩|⟨al,rl,he,hna,_⟩
  ·have HL:=hid (show logR s=r by rw[hgo,zdV hno]);obtain⟨s',hs'⟩:∃y,s.extract r.at_ s.size=y:=⟨_,rfl⟩
   have hsz':s'.size<=1048576:=by rw[<-hs',ByteArray.size_extract];omega
   rw[hs'] at hno;clear hgo hok
   go_wp2_with fail
   refine(zoI s' 10 m _ hsz' hcm hno).mono ?_;rintro e w1 ⟨rfl,b1⟩;clear o0 o1 o2;have yo1:=yo.on b1;have yr1:=yr.on b1;have HSL:=hid (hsl.on b1);have HB:=hid (zac hbel b1 lr);clear yo yr hsl hbel b1 hno hcm;have o0:w1.cell? ⟨w.heap.size+1,0,none⟩=some (.slice A n d):=yo1.cellAt 0 (by simp);have o1:w1.cell? ⟨w.heap.size+1,1,none⟩=some (.int .i64 r.stamp):=yo1.cellAt 1 (by simp);have o2:w1.cell? ⟨w.heap.size+1,2,none⟩=some (.int .i64 (r.at_:Int)):=yo1.cellAt 2 (by simp);have z0:w1.cell? ⟨w.heap.size,0,none⟩=some (v0):=yr1.cellAt 0 (by simp);have z1:w1.cell? ⟨w.heap.size,1,none⟩=some (v1):=yr1.cellAt 1 (by simp);have z2:w1.cell? ⟨w.heap.size,2,none⟩=some (v2):=yr1.cellAt 2 (by simp)
   have zf0:=yr1.frozen 0;have zf1:=yr1.frozen 1;have zf2:=yr1.frozen 2;clear yo1 yr1;go_wp2;exact bodyPost_ret (v:=.agg #[.slice A n d,.int .i64 r.stamp,.int .i64 (r.at_:Int)]) (by simp[results,results94,go_sem,z0,z1,z2]) rfl ⟨A,n,d,by rw[HL.out],by rw[HL.out];exact((((HSL.out.setLow (by simp) _).setLow (by simp) _).setLow (by simp) _).low).wide (by omega) lr,((HB.out.setCell lr _).setCell lr _).setCell lr _⟩
  ·have HCUT:=hid (zfi (s:=s.extract r.at_ s.size) (t:=rl) (a:=zab al) (r:=r) (by rw[zaf];exact he) (by rw[zaf];exact hna));have HRC:=hid (zjs (s:=s) (t:=rl) (a:=zab al) hat (by rw[zaf];exact he));have HGO:=hid hgo;obtain⟨s',hs'⟩:∃y,s.extract r.at_ s.size=y:=⟨_,rfl⟩
   have hsz':s'.size<=1048576:=by rw[<-hs',ByteArray.size_extract];omega
   rw[hs'] at he;obtain⟨a,ha⟩:∃y,zab al=y:=⟨_,rfl⟩
   rw[ha] at HCUT HRC;have hda:a.data.toList=al:=by rw[<-ha,zaf]
   rw[<-hda] at he hna;have hasz:a.size<=1048576:=by have:=HRC.out.2;omega
   clear ha hda hgo hok
   go_wp2_with fail
   refine(zqg s' a 10 rl m _ hsz' hcm he hna).mono ?_;rintro e w1 ⟨rfl,b1⟩;clear o0 o1 o2;have yo1:=yo.on b1;have yr1:=yr.on b1;have hsl1:=hsl.on b1;have HB1:=hid (zac hbel b1 lr);replace hcm:=zaa b1 hcm;clear yo yr hsl hbel b1 he hna hs'
   go_wp2_with fail
   refine(zn6 a m _ hasz hcm (zaw HT.out HB1.out) (zbk HV.out HB1.out)).mono ?_;rintro e w2 ⟨x,st,b,rfl,p1,p2,b2⟩;have yo2:=yo1.on b2;have yr2:=yr1.on b2;have hsl2:=hsl1.on b2;have HB2:=hid (zac HB1.out b2 lr);clear yo1 yr1 hsl1 b2 hcm;have yo2':=yo2.alloc (.cells #[.int .i64 x.day,.string x.what,.int .i64 x.val] 145);have o0:(w2.alloc (.cells #[.int .i64 x.day,.string x.what,.int .i64 x.val] 145)).cell? ⟨w.heap.size+1,0,none⟩=some (.slice A n d):=yo2'.cellAt 0 (by simp);have o1:(w2.alloc (.cells #[.int .i64 x.day,.string x.what,.int .i64 x.val] 145)).cell? ⟨w.heap.size+1,1,none⟩=some (.int .i64 r.stamp):=yo2'.cellAt 1 (by simp)
   have o2:(w2.alloc (.cells #[.int .i64 x.day,.string x.what,.int .i64 x.val] 145)).cell? ⟨w.heap.size+1,2,none⟩=some (.int .i64 (r.at_:Int)):=yo2'.cellAt 2 (by simp);clear yo2'
   go_wp2_with fail
   clear o0 o1 o2;obtain⟨wq,hwq⟩:∃y,w2.alloc (.cells #[.int .i64 x.day,.string x.what,.int .i64 x.val] 145)=y:=⟨_,rfl⟩
   have bq:Below w2.heap.size w2 wq:=by rw[<-hwq];exact bal _
   have yx:Blk wq w2.heap.size 145 #[.int .i64 x.day,.string x.what,.int .i64 x.val]:=by rw[<-hwq];exact Blk.new _ _ _
   rw[hwq];clear hwq;have yo3:=yo2.on bq;have yr3:=yr2.on bq;have hsl3:=hsl2.on bq;have HB3:=hid (zac HB2.out bq lr);have hz3:w.heap.size+2<=w2.heap.size:=by have:=(yo2.lt);omega
   clear yo2 yr2 hsl2 bq;rcases b with _|_
   ·have HL:=hid (show logR s=r by rw[HGO.out,HCUT.out,zd4 (p2 rfl)]);clear p1 p2;refine ez (fun W=>Below w.heap.size w W/\Blk W (w.heap.size+1) 150 #[.slice A n d,.int .i64 r.stamp,.int .i64 (r.at_:Int)]/\Blk W w.heap.size 150 #[v0,v1,v2]/\Blk W w2.heap.size 145 #[.int .i64 x.day,.string x.what,.int .i64 x.val]/\Sl W (w.heap.size+2) W.heap.size 145 3 A n d (ens r.list)) ?_ fun hHeld=>?_
    ·exact⟨HB3.out.drew,yo3.drew,yr3.drew,yx.drew,hsl3.drew.low⟩
    refine dq 0 rfl (h:=dq 1 rfl (h:=dq 2 rfl (h:=dr 3 rfl (h:=dr 4 rfl (h:=dr 5 rfl (h:=dr 6 rfl (h:=dr 7 rfl (h:=?_))))))));refine dr 8 rfl (h:=dr 9 rfl (h:=dr 10 rfl (h:=dr 11 rfl (h:=dr 12 rfl (h:=dr 13 rfl (h:=dr 14 rfl (h:=dr 15 rfl (h:=?_))))))));refine dr 16 rfl (h:=dq 17 rfl (h:=dq 18 rfl (h:=dr 19 rfl (h:=dr 20 rfl (h:=dr 21 rfl (h:=dr 22 rfl (h:=dr 23 rfl (h:=?_))))))));refine dr 24 rfl (h:=dq 25 rfl (h:=?_));refine dn ?_;have HB:=hid hHeld.1;have yoE:=hHeld.2.1;have yrE:=hHeld.2.2.1;have HSL:=hid hHeld.2.2.2.2;clear hHeld;change Blk wq _ _ _ at yoE;change Blk wq _ _ _ at yrE;have o0:wq.cell? ⟨w.heap.size+1,0,none⟩=some (.slice A n d):=yoE.cellAt 0 (by simp)
    have o1:wq.cell? ⟨w.heap.size+1,1,none⟩=some (.int .i64 r.stamp):=yoE.cellAt 1 (by simp);have o2:wq.cell? ⟨w.heap.size+1,2,none⟩=some (.int .i64 (r.at_:Int)):=yoE.cellAt 2 (by simp);have z0:wq.cell? ⟨w.heap.size,0,none⟩=some (v0):=yrE.cellAt 0 (by simp);have z1:wq.cell? ⟨w.heap.size,1,none⟩=some (v1):=yrE.cellAt 1 (by simp);have z2:wq.cell? ⟨w.heap.size,2,none⟩=some (v2):=yrE.cellAt 2 (by simp);have zf0:=yrE.frozen 0;have zf1:=yrE.frozen 1;have zf2:=yrE.frozen 2;clear yoE yrE;go_wp2
    exact bodyPost_ret (v:=.agg #[.slice A n d,.int .i64 r.stamp,.int .i64 (r.at_:Int)]) (by simp[results,results94,go_sem,z0,z1,z2]) rfl ⟨A,n,d,by rw[HL.out],by rw[HL.out];exact((((HSL.out.setLow (by simp) _).setLow (by simp) _).setLow (by simp) _).low).wide (by omega) lr,((HB.out.setCell lr _).setCell lr _).setCell lr _⟩
   ·have hl:=p1 rfl;obtain⟨hxg,hxs⟩:=zsj hl;by_cases hn0:n=0
    ·subst hn0;have hday:dayR r.list<=x.day:=by rw[List.length_eq_zero_iff.1 hln,zjf];exact(zdX (zgY hl)).1
     have hg0:decide ((0:Int)<((0:Nat):Int))=false:=by decide
     obtain⟨v,hv⟩:∃y,zbf r.stamp (zau x)=y:=⟨_,rfl⟩
     by_cases hst:v=st
     ·subst hst;have HST:=hid (zew hl hday hv);have HV1:=hid hv;have hq:(v !=v)=false:=by simp
      clear p1 p2 hl hv;refine ez (fun W=>Below w.heap.size w W/\Blk W (w.heap.size+1) 150 #[.slice A 0 d,.int .i64 r.stamp,.int .i64 (r.at_:Int)]/\Blk W w.heap.size 150 #[v0,v1,v2]/\Blk W w2.heap.size 145 #[.int .i64 x.day,.string x.what,.int .i64 x.val]/\Sl W (w.heap.size+2) W.heap.size 145 3 A 0 d (ens r.list)) ?_ fun hHeld=>?_
      ·exact⟨HB3.out.drew,yo3.drew,yr3.drew,yx.drew,hsl3.drew.low⟩
      refine dq 0 rfl (h:=dq 1 rfl (h:=dq 2 rfl (h:=dq 3 rfl (h:=dq 4 rfl (h:=dq 5 rfl (h:=dr 6 rfl (h:=dr 7 rfl (h:=?_))))))));refine dr 8 rfl (h:=dr 9 rfl (h:=dr 10 rfl (h:=dr 11 rfl (h:=dr 12 rfl (h:=dr 13 rfl (h:=dr 14 rfl (h:=dr 15 rfl (h:=?_))))))));refine dq 16 rfl (h:=dq 17 rfl (h:=dq 18 rfl (h:=dq 19 rfl (h:=dq 20 rfl (hy:=by intro w hSw;(try dsimp only at hSw);obtain⟨e0,e1,e2⟩:=zaB hSw.2.1;obtain⟨f0,f1,f2⟩:=zaB hSw.2.2.2.1;go_simp;try with_reducible rfl) (h:=dq 21 rfl (hy:=by intro w hSw;(try dsimp only at hSw);obtain⟨e0,e1,e2⟩:=zaB hSw.2.1;obtain⟨f0,f1,f2⟩:=zaB hSw.2.2.2.1;go_simp;try with_reducible rfl) (h:=dq 23 rfl (h:=?_)))))));refine rd 22 rfl fun K hK=>?_;go_simp
      go_at_call 162
      refine(zdA r.stamp x _ hxg hxs hs0 hs1 (zaw HT.out hHeld.1)).mono ?_;rintro e w5 ⟨rfl,b5⟩
      go_wp2_with fail
      refine ke hK ?_ ?_
      ·exact⟨zac hHeld.1 b5 lr,hHeld.2.1.on b5,hHeld.2.2.1.on b5,hHeld.2.2.2.1.on b5,(hHeld.2.2.2.2.on b5).low⟩
      clear hK K hHeld;intro hHeld;refine dq 24 rfl (h:=dq 25 rfl (h:=?_));refine dn ?_;rw[HV1.out];have HB:=hid hHeld.1;have yoE:=hHeld.2.1;have yrE:=hHeld.2.2.1;have yxE:=hHeld.2.2.2.1;have hslE:=hHeld.2.2.2.2;have hzE:w.heap.size+2<=w5.heap.size:=by have:=yxE.lt;omega
      clear hHeld;have o0:w5.cell? ⟨w.heap.size+1,0,none⟩=some (.slice A 0 d):=yoE.cellAt 0 (by simp);have o1:w5.cell? ⟨w.heap.size+1,1,none⟩=some (.int .i64 r.stamp):=yoE.cellAt 1 (by simp);have o2:w5.cell? ⟨w.heap.size+1,2,none⟩=some (.int .i64 (r.at_:Int)):=yoE.cellAt 2 (by simp);have e0:w5.cell? ⟨w2.heap.size,0,none⟩=some (.int .i64 x.day):=yxE.cellAt 0 (by simp);have e1:w5.cell? ⟨w2.heap.size,1,none⟩=some (.string x.what):=yxE.cellAt 1 (by simp);have e2:w5.cell? ⟨w2.heap.size,2,none⟩=some (.int .i64 x.val):=yxE.cellAt 2 (by simp)
      go_wp2_with (at_builtin;refine ziu rfl _ _ 148 rfl 145 _ 3 32 underlying148 zgB rfl (by decide) (by decide) hslE hzE rfl (zc7 x) w5.heap.size rfl rfl rfl (zg8 x) (by omega) ?_;intro A2 d2 w9 hs9 b9;have yo9:=yoE.below b9 (by omega);have yr9:=yrE.below b9 (by omega);have HS9:=hid hs9;have HB9:=hid (HB.out.trans (b9.mono (by omega)));clear o0 o1 o2 e0 e1 e2 hslE;have o0:w9.cell? ⟨w.heap.size+1,0,none⟩=some (.slice A 0 d):=yo9.cellAt 0 (by simp);have o1:w9.cell? ⟨w.heap.size+1,1,none⟩=some (.int .i64 r.stamp):=yo9.cellAt 1 (by simp);have o2:w9.cell? ⟨w.heap.size+1,2,none⟩=some (.int .i64 (r.at_:Int)):=yo9.cellAt 2 (by simp);have of0:=yo9.frozen 0;have of1:=yo9.frozen 1;have of2:=yo9.frozen 2;have hz9:w.heap.size+2<=w9.heap.size:=by(have:=b9.size;omega);try clear hs9;try clear b9)
      go_roundw
      case rel=>
       obtain⟨k1,k2,k3⟩:=LogR.ok_step HOK.out HST.out;refine⟨⟨r.list++ [x],v,r.at_+a.size+1⟩,A2,0+1,d2,v0,v1,v2,k1,HRC.out.2,?_,?_,((yr9.far (by simp) _).far (by simp) _).far (by simp) _,?_,by simpa using hz9,((HB9.out.setCell (by simp) _).setCell (by simp) _).setCell (by simp) _⟩
       ·rw[HGO.out,HCUT.out,HST.out,HRC.out.1]
       ·have:=((yo9.set_ 0 (.slice A2 (0+1) d2)).set_ 1 (.int .i64 v)).set_ 2 (.int .i64 ((r.at_+a.size+1:Nat):Int));simpa[Int.add_assoc] using this
       ·rw[zfG];exact(((HS9.out.setLow (by simp) _).setLow (by simp) _).setLow (by simp) _).low
      case measure=>
       rw[HAT.out];have:=HRC.out.2;simp[atOf,go_sem,o0,o1,o2];omega
     ·have HL:=hid (show logR s=r by rw[HGO.out,HCUT.out,zeg hl (by rw[hv];exact hst)]);have HV1:=hid hv;have hq:(v !=st)=true:=by simpa using hst
      clear p1 p2 hl hv hst;refine ez (fun W=>Below w.heap.size w W/\Blk W (w.heap.size+1) 150 #[.slice A 0 d,.int .i64 r.stamp,.int .i64 (r.at_:Int)]/\Blk W w.heap.size 150 #[v0,v1,v2]/\Blk W w2.heap.size 145 #[.int .i64 x.day,.string x.what,.int .i64 x.val]/\Sl W (w.heap.size+2) W.heap.size 145 3 A 0 d (ens r.list)) ?_ fun hHeld=>?_
      ·exact⟨HB3.out.drew,yo3.drew,yr3.drew,yx.drew,hsl3.drew.low⟩
      refine dq 0 rfl (h:=dq 1 rfl (h:=dq 2 rfl (h:=dq 3 rfl (h:=dq 4 rfl (h:=dq 5 rfl (h:=dr 6 rfl (h:=dr 7 rfl (h:=?_))))))));refine dr 8 rfl (h:=dr 9 rfl (h:=dr 10 rfl (h:=dr 11 rfl (h:=dr 12 rfl (h:=dr 13 rfl (h:=dr 14 rfl (h:=dr 15 rfl (h:=?_))))))));refine dq 16 rfl (h:=dq 17 rfl (h:=dq 18 rfl (h:=dq 19 rfl (h:=dq 20 rfl (hy:=by intro w hSw;(try dsimp only at hSw);obtain⟨e0,e1,e2⟩:=zaB hSw.2.1;obtain⟨f0,f1,f2⟩:=zaB hSw.2.2.2.1;go_simp;try with_reducible rfl) (h:=dq 21 rfl (hy:=by intro w hSw;(try dsimp only at hSw);obtain⟨e0,e1,e2⟩:=zaB hSw.2.1;obtain⟨f0,f1,f2⟩:=zaB hSw.2.2.2.1;go_simp;try with_reducible rfl) (h:=dq 23 rfl (h:=?_)))))));refine rd 22 rfl fun K hK=>?_;go_simp
      go_at_call 162
      refine(zdA r.stamp x _ hxg hxs hs0 hs1 (zaw HT.out hHeld.1)).mono ?_;rintro e w5 ⟨rfl,b5⟩
      go_wp2_with fail
      refine ke hK ?_ ?_
      ·exact⟨zac hHeld.1 b5 lr,hHeld.2.1.on b5,hHeld.2.2.1.on b5,hHeld.2.2.2.1.on b5,(hHeld.2.2.2.2.on b5).low⟩
      clear hK K hHeld;intro hHeld;refine dq 24 rfl (h:=dq 25 rfl (h:=?_));refine dn ?_;rw[HV1.out];have HB:=hid hHeld.1;have yoE:=hHeld.2.1;have yrE:=hHeld.2.2.1;have HSL:=hid hHeld.2.2.2.2;clear hHeld;have o0:w5.cell? ⟨w.heap.size+1,0,none⟩=some (.slice A 0 d):=yoE.cellAt 0 (by simp);have o1:w5.cell? ⟨w.heap.size+1,1,none⟩=some (.int .i64 r.stamp):=yoE.cellAt 1 (by simp);have o2:w5.cell? ⟨w.heap.size+1,2,none⟩=some (.int .i64 (r.at_:Int)):=yoE.cellAt 2 (by simp);have z0:w5.cell? ⟨w.heap.size,0,none⟩=some (v0):=yrE.cellAt 0 (by simp);have z1:w5.cell? ⟨w.heap.size,1,none⟩=some (v1):=yrE.cellAt 1 (by simp);have z2:w5.cell? ⟨w.heap.size,2,none⟩=some (v2):=yrE.cellAt 2 (by simp)
      have zf0:=yrE.frozen 0;have zf1:=yrE.frozen 1;have zf2:=yrE.frozen 2;clear yoE yrE;go_wp2;exact bodyPost_ret (v:=.agg #[.slice A 0 d,.int .i64 r.stamp,.int .i64 (r.at_:Int)]) (by simp[results,results94,go_sem,z0,z1,z2]) rfl ⟨A,0,d,by rw[HL.out],by rw[HL.out];exact((((HSL.out.setLow (by simp) _).setLow (by simp) _).setLow (by simp) _).low).wide (by omega) lr,((HB.out.setCell lr _).setCell lr _).setCell lr _⟩
    ·obtain⟨j,rfl⟩:∃j,n=j+1:=⟨n-1,by omega⟩
     obtain⟨y,lb,loff,hy,rfl,hlb,hlast,_,_⟩:=zgN (k:=j) (hsl3.reads lr) (by omega)
     have hlo:loff=0:=by
      rcases hsl3.form with ⟨h1,_⟩|⟨g1,cur,h1,_⟩
      ·cases h1
      ·injection h1 with h1;injection h1
     subst hlo;rw[Nat.zero_add] at hlast;have hj0:(0:Int)<=j:=by omega
     have hj1:(j:Int)<(j:Int)+1:=by omega
     have hg0:decide ((0:Int)<(j:Int)+1)=true:=decide_eq_true (by omega)
     have hjw:IntKind.i64.wrap (j:Int)=j:=by
      unfold IntKind.wrap;simp[IntKind.bits,IntKind.signed];omega
     have hdr:dayR r.list=y.day:=zh7 (by rw[hln];exact hy);by_cases hday:y.day<=x.day
     ·have hg1:decide (x.day<y.day)=false:=decide_eq_false (by omega);have hdle:dayR r.list<=x.day:=by omega
      clear hy hdr;obtain⟨v,hv⟩:∃y,zbf r.stamp (zau x)=y:=⟨_,rfl⟩
      by_cases hst:v=st
      ·subst hst;have HST:=hid (zew hl hdle hv);have HV1:=hid hv;have hq:(v !=v)=false:=by simp
       clear p1 p2 hl hv;refine ez (fun W=>Below w.heap.size w W/\Blk W (w.heap.size+1) 150 #[.slice (some ⟨lb,0,none⟩) (j+1) d,.int .i64 r.stamp,.int .i64 (r.at_:Int)]/\Blk W w.heap.size 150 #[v0,v1,v2]/\Blk W w2.heap.size 145 #[.int .i64 x.day,.string x.what,.int .i64 x.val]/\Sl W (w.heap.size+2) W.heap.size 145 3 (some ⟨lb,0,none⟩) (j+1) d (ens r.list)/\W.cell? ⟨lb,j*3,none⟩=some (.int .i64 y.day)) ?_ fun hHeld=>?_
       ·exact⟨HB3.out.drew,yo3.drew,yr3.drew,yx.drew,hsl3.drew.low,hlast⟩
       refine dq 0 rfl (h:=dq 1 rfl (h:=dq 2 rfl (h:=dq 3 rfl (h:=dq 4 rfl (h:=dq 5 rfl (h:=dq 6 rfl (h:=dq 7 rfl (hy:=by intro w hSw;(try dsimp only at hSw);obtain⟨e0,e1,e2⟩:=zaB hSw.2.1;obtain⟨f0,f1,f2⟩:=zaB hSw.2.2.2.1;(have l0:=hSw.2.2.2.2.2);go_simp;try with_reducible rfl) (h:=?_))))))))
       refine dq 8 rfl (h:=dq 9 rfl (h:=dq 10 rfl (h:=dq 11 rfl (h:=dq 12 rfl (hy:=by intro w hSw;(try dsimp only at hSw);obtain⟨e0,e1,e2⟩:=zaB hSw.2.1;obtain⟨f0,f1,f2⟩:=zaB hSw.2.2.2.1;(have l0:=hSw.2.2.2.2.2);go_simp;try with_reducible rfl) (h:=dq 13 rfl (h:=dq 14 rfl (hy:=by intro w hSw;(try dsimp only at hSw);obtain⟨e0,e1,e2⟩:=zaB hSw.2.1;obtain⟨f0,f1,f2⟩:=zaB hSw.2.2.2.1;(have l0:=hSw.2.2.2.2.2);go_simp;try with_reducible rfl) (h:=dq 15 rfl (h:=?_))))))))
       refine dq 16 rfl (h:=dq 17 rfl (h:=dq 18 rfl (h:=dq 19 rfl (h:=dq 20 rfl (hy:=by intro w hSw;(try dsimp only at hSw);obtain⟨e0,e1,e2⟩:=zaB hSw.2.1;obtain⟨f0,f1,f2⟩:=zaB hSw.2.2.2.1;(have l0:=hSw.2.2.2.2.2);go_simp;try with_reducible rfl) (h:=dq 21 rfl (hy:=by intro w hSw;(try dsimp only at hSw);obtain⟨e0,e1,e2⟩:=zaB hSw.2.1;obtain⟨f0,f1,f2⟩:=zaB hSw.2.2.2.1;(have l0:=hSw.2.2.2.2.2);go_simp;try with_reducible rfl) (h:=dq 23 rfl (h:=?_)))))));refine rd 22 rfl fun K hK=>?_;go_simp
       go_at_call 162
       refine(zdA r.stamp x _ hxg hxs hs0 hs1 (zaw HT.out hHeld.1)).mono ?_;rintro e w5 ⟨rfl,b5⟩
       go_wp2_with fail
       refine ke hK ?_ ?_
       ·exact⟨zac hHeld.1 b5 lr,hHeld.2.1.on b5,hHeld.2.2.1.on b5,hHeld.2.2.2.1.on b5,(hHeld.2.2.2.2.1.on b5).low,zaa b5 hHeld.2.2.2.2.2⟩
       clear hK K hHeld;intro hHeld;refine dq 24 rfl (h:=dq 25 rfl (h:=?_));refine dn ?_;rw[HV1.out];have HB:=hid hHeld.1;have yoE:=hHeld.2.1;have yrE:=hHeld.2.2.1;have yxE:=hHeld.2.2.2.1;have hslE:=hHeld.2.2.2.2.1;have hzE:w.heap.size+2<=w5.heap.size:=by have:=yxE.lt;omega
       clear hHeld;have o0:w5.cell? ⟨w.heap.size+1,0,none⟩=some (.slice (some ⟨lb,0,none⟩) (j+1) d):=yoE.cellAt 0 (by simp);have o1:w5.cell? ⟨w.heap.size+1,1,none⟩=some (.int .i64 r.stamp):=yoE.cellAt 1 (by simp);have o2:w5.cell? ⟨w.heap.size+1,2,none⟩=some (.int .i64 (r.at_:Int)):=yoE.cellAt 2 (by simp);have e0:w5.cell? ⟨w2.heap.size,0,none⟩=some (.int .i64 x.day):=yxE.cellAt 0 (by simp);have e1:w5.cell? ⟨w2.heap.size,1,none⟩=some (.string x.what):=yxE.cellAt 1 (by simp);have e2:w5.cell? ⟨w2.heap.size,2,none⟩=some (.int .i64 x.val):=yxE.cellAt 2 (by simp)
       go_wp2_with (at_builtin;refine ziu rfl _ _ 148 rfl 145 _ 3 32 underlying148 zgB rfl (by decide) (by decide) hslE hzE rfl (zc7 x) w5.heap.size rfl rfl rfl (zg8 x) (by omega) ?_;intro A2 d2 w9 hs9 b9;have yo9:=yoE.below b9 (by omega);have yr9:=yrE.below b9 (by omega);have HS9:=hid hs9;have HB9:=hid (HB.out.trans (b9.mono (by omega)));clear o0 o1 o2 e0 e1 e2 hslE;have o0:w9.cell? ⟨w.heap.size+1,0,none⟩=some (.slice (some ⟨lb,0,none⟩) (j+1) d):=yo9.cellAt 0 (by simp);have o1:w9.cell? ⟨w.heap.size+1,1,none⟩=some (.int .i64 r.stamp):=yo9.cellAt 1 (by simp);have o2:w9.cell? ⟨w.heap.size+1,2,none⟩=some (.int .i64 (r.at_:Int)):=yo9.cellAt 2 (by simp);have of0:=yo9.frozen 0;have of1:=yo9.frozen 1;have of2:=yo9.frozen 2;have hz9:w.heap.size+2<=w9.heap.size:=by(have:=b9.size;omega);try clear hs9;try clear b9)
       go_roundw
       case rel=>
        obtain⟨k1,k2,k3⟩:=LogR.ok_step HOK.out HST.out;refine⟨⟨r.list++ [x],v,r.at_+a.size+1⟩,A2,j+1+1,d2,v0,v1,v2,k1,HRC.out.2,?_,?_,((yr9.far (by simp) _).far (by simp) _).far (by simp) _,?_,by simpa using hz9,((HB9.out.setCell (by simp) _).setCell (by simp) _).setCell (by simp) _⟩
        ·rw[HGO.out,HCUT.out,HST.out,HRC.out.1]
        ·have:=((yo9.set_ 0 (.slice A2 (j+1+1) d2)).set_ 1 (.int .i64 v)).set_ 2 (.int .i64 ((r.at_+a.size+1:Nat):Int));simpa[Int.add_assoc] using this
        ·rw[zfG];exact(((HS9.out.setLow (by simp) _).setLow (by simp) _).setLow (by simp) _).low
       case measure=>
        rw[HAT.out];have:=HRC.out.2;simp[atOf,go_sem,o0,o1,o2];omega
      ·have HL:=hid (show logR s=r by rw[HGO.out,HCUT.out,zeg hl (by rw[hv];exact hst)]);have HV1:=hid hv;have hq:(v !=st)=true:=by simpa using hst
       clear p1 p2 hl hv hst;refine ez (fun W=>Below w.heap.size w W/\Blk W (w.heap.size+1) 150 #[.slice (some ⟨lb,0,none⟩) (j+1) d,.int .i64 r.stamp,.int .i64 (r.at_:Int)]/\Blk W w.heap.size 150 #[v0,v1,v2]/\Blk W w2.heap.size 145 #[.int .i64 x.day,.string x.what,.int .i64 x.val]/\Sl W (w.heap.size+2) W.heap.size 145 3 (some ⟨lb,0,none⟩) (j+1) d (ens r.list)/\W.cell? ⟨lb,j*3,none⟩=some (.int .i64 y.day)) ?_ fun hHeld=>?_
       ·exact⟨HB3.out.drew,yo3.drew,yr3.drew,yx.drew,hsl3.drew.low,hlast⟩
       refine dq 0 rfl (h:=dq 1 rfl (h:=dq 2 rfl (h:=dq 3 rfl (h:=dq 4 rfl (h:=dq 5 rfl (h:=dq 6 rfl (h:=dq 7 rfl (hy:=by intro w hSw;(try dsimp only at hSw);obtain⟨e0,e1,e2⟩:=zaB hSw.2.1;obtain⟨f0,f1,f2⟩:=zaB hSw.2.2.2.1;(have l0:=hSw.2.2.2.2.2);go_simp;try with_reducible rfl) (h:=?_))))))))
       refine dq 8 rfl (h:=dq 9 rfl (h:=dq 10 rfl (h:=dq 11 rfl (h:=dq 12 rfl (hy:=by intro w hSw;(try dsimp only at hSw);obtain⟨e0,e1,e2⟩:=zaB hSw.2.1;obtain⟨f0,f1,f2⟩:=zaB hSw.2.2.2.1;(have l0:=hSw.2.2.2.2.2);go_simp;try with_reducible rfl) (h:=dq 13 rfl (h:=dq 14 rfl (hy:=by intro w hSw;(try dsimp only at hSw);obtain⟨e0,e1,e2⟩:=zaB hSw.2.1;obtain⟨f0,f1,f2⟩:=zaB hSw.2.2.2.1;(have l0:=hSw.2.2.2.2.2);go_simp;try with_reducible rfl) (h:=dq 15 rfl (h:=?_))))))))
       refine dq 16 rfl (h:=dq 17 rfl (h:=dq 18 rfl (h:=dq 19 rfl (h:=dq 20 rfl (hy:=by intro w hSw;(try dsimp only at hSw);obtain⟨e0,e1,e2⟩:=zaB hSw.2.1;obtain⟨f0,f1,f2⟩:=zaB hSw.2.2.2.1;(have l0:=hSw.2.2.2.2.2);go_simp;try with_reducible rfl) (h:=dq 21 rfl (hy:=by intro w hSw;(try dsimp only at hSw);obtain⟨e0,e1,e2⟩:=zaB hSw.2.1;obtain⟨f0,f1,f2⟩:=zaB hSw.2.2.2.1;(have l0:=hSw.2.2.2.2.2);go_simp;try with_reducible rfl) (h:=dq 23 rfl (h:=?_)))))));refine rd 22 rfl fun K hK=>?_;go_simp
       go_at_call 162
       refine(zdA r.stamp x _ hxg hxs hs0 hs1 (zaw HT.out hHeld.1)).mono ?_;rintro e w5 ⟨rfl,b5⟩
       go_wp2_with fail
       refine ke hK ?_ ?_
       ·exact⟨zac hHeld.1 b5 lr,hHeld.2.1.on b5,hHeld.2.2.1.on b5,hHeld.2.2.2.1.on b5,(hHeld.2.2.2.2.1.on b5).low,zaa b5 hHeld.2.2.2.2.2⟩
       clear hK K hHeld;intro hHeld;refine dq 24 rfl (h:=dq 25 rfl (h:=?_));refine dn ?_;rw[HV1.out];have HB:=hid hHeld.1;have yoE:=hHeld.2.1;have yrE:=hHeld.2.2.1;have HSL:=hid hHeld.2.2.2.2.1;clear hHeld;have o0:w5.cell? ⟨w.heap.size+1,0,none⟩=some (.slice (some ⟨lb,0,none⟩) (j+1) d):=yoE.cellAt 0 (by simp);have o1:w5.cell? ⟨w.heap.size+1,1,none⟩=some (.int .i64 r.stamp):=yoE.cellAt 1 (by simp);have o2:w5.cell? ⟨w.heap.size+1,2,none⟩=some (.int .i64 (r.at_:Int)):=yoE.cellAt 2 (by simp);have z0:w5.cell? ⟨w.heap.size,0,none⟩=some (v0):=yrE.cellAt 0 (by simp);have z1:w5.cell? ⟨w.heap.size,1,none⟩=some (v1):=yrE.cellAt 1 (by simp)
       have z2:w5.cell? ⟨w.heap.size,2,none⟩=some (v2):=yrE.cellAt 2 (by simp);have zf0:=yrE.frozen 0;have zf1:=yrE.frozen 1;have zf2:=yrE.frozen 2;clear yoE yrE;go_wp2;exact bodyPost_ret (v:=.agg #[.slice (some ⟨lb,0,none⟩) (j+1) d,.int .i64 r.stamp,.int .i64 (r.at_:Int)]) (by simp[results,results94,go_sem,z0,z1,z2]) rfl ⟨some ⟨lb,0,none⟩,j+1,d,by rw[HL.out],by rw[HL.out];exact((((HSL.out.setLow (by simp) _).setLow (by simp) _).setLow (by simp) _).low).wide (by omega) lr,((HB.out.setCell lr _).setCell lr _).setCell lr _⟩
     ·have hg1:decide (x.day<y.day)=true:=decide_eq_true (by omega);have HL:=hid (show logR s=r by rw[HGO.out,HCUT.out,zgq hl (by omega)]);clear p1 p2 hl hy hdr;refine ez (fun W=>Below w.heap.size w W/\Blk W (w.heap.size+1) 150 #[.slice (some ⟨lb,0,none⟩) (j+1) d,.int .i64 r.stamp,.int .i64 (r.at_:Int)]/\Blk W w.heap.size 150 #[v0,v1,v2]/\Blk W w2.heap.size 145 #[.int .i64 x.day,.string x.what,.int .i64 x.val]/\Sl W (w.heap.size+2) W.heap.size 145 3 (some ⟨lb,0,none⟩) (j+1) d (ens r.list)/\W.cell? ⟨lb,j*3,none⟩=some (.int .i64 y.day)) ?_ fun hHeld=>?_
      ·exact⟨HB3.out.drew,yo3.drew,yr3.drew,yx.drew,hsl3.drew.low,hlast⟩
      refine dq 0 rfl (h:=dq 1 rfl (h:=dq 2 rfl (h:=dq 3 rfl (h:=dq 4 rfl (h:=dq 5 rfl (h:=dq 6 rfl (h:=dq 7 rfl (hy:=by intro w hSw;(try dsimp only at hSw);obtain⟨e0,e1,e2⟩:=zaB hSw.2.1;obtain⟨f0,f1,f2⟩:=zaB hSw.2.2.2.1;(have l0:=hSw.2.2.2.2.2);go_simp;try with_reducible rfl) (h:=?_))))))))
      refine dq 8 rfl (h:=dq 9 rfl (h:=dq 10 rfl (h:=dq 11 rfl (h:=dq 12 rfl (hy:=by intro w hSw;(try dsimp only at hSw);obtain⟨e0,e1,e2⟩:=zaB hSw.2.1;obtain⟨f0,f1,f2⟩:=zaB hSw.2.2.2.1;(have l0:=hSw.2.2.2.2.2);go_simp;try with_reducible rfl) (h:=dq 13 rfl (h:=dq 14 rfl (hy:=by intro w hSw;(try dsimp only at hSw);obtain⟨e0,e1,e2⟩:=zaB hSw.2.1;obtain⟨f0,f1,f2⟩:=zaB hSw.2.2.2.1;(have l0:=hSw.2.2.2.2.2);go_simp;try with_reducible rfl) (h:=dq 15 rfl (h:=?_))))))));refine dq 16 rfl (h:=dq 17 rfl (h:=dq 18 rfl (h:=dr 19 rfl (h:=dr 20 rfl (h:=dr 21 rfl (h:=dr 22 rfl (h:=dr 23 rfl (h:=?_))))))));refine dr 24 rfl (h:=dq 25 rfl (h:=?_));refine dn ?_;have HB:=hid hHeld.1;have yoE:=hHeld.2.1
      have yrE:=hHeld.2.2.1;have HSL:=hid hHeld.2.2.2.2.1;clear hHeld;change Blk wq _ _ _ at yoE;change Blk wq _ _ _ at yrE;have o0:wq.cell? ⟨w.heap.size+1,0,none⟩=some (.slice (some ⟨lb,0,none⟩) (j+1) d):=yoE.cellAt 0 (by simp);have o1:wq.cell? ⟨w.heap.size+1,1,none⟩=some (.int .i64 r.stamp):=yoE.cellAt 1 (by simp);have o2:wq.cell? ⟨w.heap.size+1,2,none⟩=some (.int .i64 (r.at_:Int)):=yoE.cellAt 2 (by simp);have z0:wq.cell? ⟨w.heap.size,0,none⟩=some (v0):=yrE.cellAt 0 (by simp);have z1:wq.cell? ⟨w.heap.size,1,none⟩=some (v1):=yrE.cellAt 1 (by simp);have z2:wq.cell? ⟨w.heap.size,2,none⟩=some (v2):=yrE.cellAt 2 (by simp);have zf0:=yrE.frozen 0;have zf1:=yrE.frozen 1;have zf2:=yrE.frozen 2
      clear yoE yrE;go_wp2;exact bodyPost_ret (v:=.agg #[.slice (some ⟨lb,0,none⟩) (j+1) d,.int .i64 r.stamp,.int .i64 (r.at_:Int)]) (by simp[results,results94,go_sem,z0,z1,z2]) rfl ⟨some ⟨lb,0,none⟩,j+1,d,by rw[HL.out],by rw[HL.out];exact((((HSL.out.setLow (by simp) _).setLow (by simp) _).setLow (by simp) _).low).wide (by omega) lr,((HB.out.setCell lr _).setCell lr _).setCell lr _⟩
end Go.Proofs.YtjalgpioklcbfaaGreatDoor
