/- A line of a log, as the reference reads it. -/
import Derived.Test.YtjalgpioklcbfaaGreatDoorMgDesksAH
import Derived.Test.YtjalgpioklcbfaaGreatDoorKRdLog
set_option maxHeartbeats 4000000
set_option maxRecDepth 100000
set_option linter.unusedVariables false
set_option linter.unusedSimpArgs false
namespace Go.Proofs.YtjalgpioklcbfaaGreatDoor
open Go.RowKit Go.Lib Go.Proofs.Tryz
theorem zo1 (lo g:Nat) (s:ByteArray) (r:LogR) (w:World) (h:LRec lo g s w r) (hok:r.ok) (hat:r.at_ <= s.size) (hs:s.size <= 1048576) (hlow:lo <= w.heap.size) :
  Calls prog 224 #[.pointer (some ⟨g,0,none⟩)] w fun e w'=>(∃r',zcs s r=some r'/\e= .returned (.bool true)/\LRec lo g s w' r'/\Below lo w w')\/(zcs s r=none/\e= .returned (.bool false)/\LRec lo g s w' r/\Below lo w w'):=by
 obtain⟨A,n,d,yb,hsl,hne,hlg⟩:=h;have hln:r.list.length=n:=by have:=hsl.len;rw[zcQ] at this;omega
 have hn1:n<=1048576:=by have:=hok.len;omega
 have hs0:=hok.stamp0;have hs1:=hok.stamp1;have HOK:=hid hok;have HNE:=hid hne;have HSL:=hid hsl;clear hok hne hsl;have o0:w.cell? ⟨g,0,none⟩=some (.string s):=yb.cellAt 0 (by simp);have o1:w.cell? ⟨g,1,none⟩=some (.int .i64 (r.at_:Int)):=yb.cellAt 1 (by simp);have o2:w.cell? ⟨g,2,none⟩=some (.int .i64 r.stamp):=yb.cellAt 2 (by simp);have o3:w.cell? ⟨g,3,none⟩=some (.slice A n d):=yb.cellAt 3 (by simp);have hb0:(0:Int)<=(r.at_:Int):=by omega
 go_enter func224,ntmps224;go_wp2
 go_loop [3] (fun i=>∃k:Nat,r.at_<=k/\k<=s.size/\i= .int .i64 k/\(10:UInt8)∉(s.extract r.at_ k).data.toList) (fun i=>s.size-(RowKit.intOf i).toNat)
 case atStart=>exact⟨r.at_,Nat.le_refl _,hat,rfl,zjo s 10 r.at_⟩
 case round=>
  obtain⟨k,hjk,hk,rfl,hno⟩:=hrel;have HN:=hid hno;clear hno;have hjki:(r.at_:Int)<=(k:Int):=by omega
  have hki:(k:Int)<=(s.size:Int):=by omega
  have hk0:(0:Int)<=(k:Int):=by omega
  by_cases hlt:k<s.size
  ·have hlti:(k:Int)<(s.size:Int):=by omega
   by_cases hc:s[k]=10
   ·have hq:((s[k].toNat:Int) !=10)=false:=by rw[hc];rfl
    have HST:=hid (zr0 HN.out hjk hlt hc);have HEX:=hid (zmS hjk hlt hc);clear hc
    go_wp2_with fail
    refine ez (fun W=>Below w.heap.size w W/\Blk W g 213 #[.string s,.int .i64 (r.at_:Int),.int .i64 r.stamp,.slice A n d]) ?_ fun hHeld=>?_
    ·exact⟨(Below.refl _ _).drew,yb.drew⟩
    refine dq 0 rfl (h:=dq 1 rfl (h:=dq 2 rfl (h:=dq 3 rfl (hy:=by intro w hSw;(try dsimp only at hSw);(have e0:=hSw.2.cellAt 0 (by simp));go_simp;try with_reducible rfl) (h:=dq 4 rfl (h:=dq 5 rfl (h:=dq 6 rfl (h:=dq 7 rfl (hy:=by intro w hSw;(try dsimp only at hSw);(have e1:=hSw.2.cellAt 1 (by simp));go_simp;try with_reducible rfl) (h:=?_))))))));refine dq 8 rfl (h:=dq 9 rfl (h:=?_));refine rd 10 rfl fun K hK=>?_;go_simp
    go_at_call 40
    refine(zcD (s.extract r.at_ k) 32 _ (by rw[ByteArray.size_extract];omega)).mono ?_;rintro e w1 ⟨A1,m1,d1,rfl,s1,b1⟩
    go_wp2_with fail
    refine ke hK ?_ ?_
    ·exact⟨zac hHeld.1 b1 lr,hHeld.2.on b1⟩
    clear hK K hHeld;intro hHeld;refine dq 11 rfl (h:=?_);refine dn ?_;have HB1:=hid hHeld.1;have y1:=hHeld.2;clear hHeld o0 o1 o2 o3;obtain⟨line,hline⟩:∃y,s.extract r.at_ k=y:=⟨_,rfl⟩
    have hlsz:line.size<=1048576:=by rw[<-hline,ByteArray.size_extract];omega
    have hlk:r.at_+line.size=k:=by rw[<-hline,ByteArray.size_extract];omega
    rw[hline] at HST HEX s1;by_cases h4:(zah 32 line).length=4
    ·obtain⟨a,b,c,dd,he⟩:=zoR h4;obtain⟨za,zb,zc,zd⟩:=zjJ he;rw[he] at s1;obtain⟨rfl,sg,rfl,c0,c1,c2,c3⟩:=zfX s1;clear s1 c3
     go_wp2_with fail
     refine(zbX a _ (by omega)).mono ?_;rintro e w2 ⟨rfl,b2⟩;replace c1:=zaa b2 c1;replace c2:=zaa b2 c2;have y2:=y1.on b2;have HB2:=hid (zac HB1.out b2 lr);clear b2 c0 y1
     go_wp2_with fail
     refine(zbX c _ (by omega)).mono ?_;rintro e w3 ⟨rfl,b3⟩;replace c1:=zaa b3 c1;have y3:=y2.on b3;have HB3:=hid (zac HB2.out b3 lr);clear b3 c2 y2;have x1:=zbE a.data.toList;have x3:=zbE c.data.toList;obtain⟨n1,hn1'⟩:∃v,(zak a.data.toList).1=v:=⟨_,rfl⟩
     obtain⟨n3,hn3'⟩:∃v,(zak c.data.toList).1=v:=⟨_,rfl⟩
     have hxg:En.good ⟨n1,b,n3⟩:=⟨⟨by simp only;omega,by simp only;omega⟩,by simp only;omega,⟨by simp only;omega,by simp only;omega⟩⟩
     have hxs:En.small ⟨n1,b,n3⟩:=by unfold En.small;simp only;omega
     rcases d1:zav a.data.toList with _|_
     ·have r1:(zak a.data.toList).2=false:=by rw[zbd d1]
      obtain⟨q3,r3⟩:∃v,(zak c.data.toList).2=v:=⟨_,rfl⟩
      have HL:=hid (show zcs s r=none by rw[HST.out];exact zfr he (zkJ d1));simp only[hn1',hn3',r1,r3] at x1 x3⊢;clear hn1' hn3' h4
      go_wp2_with fail
      obtain⟨wq,hwq⟩:∃y,w3.alloc (.cells #[.int .i64 n1,.string b,.int .i64 n3] 145)=y:=⟨_,rfl⟩
      have bq:Below w3.heap.size w3 wq:=by rw[<-hwq];exact bal _
      have yx:Blk wq w3.heap.size 145 #[.int .i64 n1,.string b,.int .i64 n3]:=by rw[<-hwq];exact Blk.new _ _ _
      rw[hwq];clear hwq;have y4:=y3.on bq;have HB4:=hid (zac HB3.out bq lr);have hgb:g<w3.heap.size:=y3.lt;obtain⟨wb,hwb⟩:∃y,w3.heap.size=y:=⟨_,rfl⟩
      rw[hwb] at yx hgb⊢;clear bq c1 y3 hwb;refine ez (fun W=>Below w.heap.size w W/\Blk W g 213 #[.string s,.int .i64 (r.at_:Int),.int .i64 r.stamp,.slice A n d]/\Blk W wb 145 #[.int .i64 n1,.string b,.int .i64 n3]) ?_ fun hHeld=>?_
      ·exact⟨HB4.out.drew,y4.drew,yx.drew⟩
      refine dq 0 rfl (h:=dq 1 rfl (h:=dq 2 rfl (h:=dr 3 rfl (h:=dr 4 rfl (h:=dq 5 rfl (h:=dq 6 rfl (h:=dr 7 rfl (h:=?_))))))));refine dr 8 rfl (h:=dq 9 rfl (h:=dq 10 rfl (h:=dr 11 rfl (h:=dr 12 rfl (h:=dr 13 rfl (h:=dr 14 rfl (h:=dr 15 rfl (h:=?_))))))));refine dq 16 rfl (h:=?_);refine dn ?_;go_wp2;go_ret;exact .inr ⟨HL.out,rfl,⟨A,n,d,hHeld.2.1,(HSL.out.on hHeld.1).low,HNE.out,hlg⟩,hHeld.1.mono hlow⟩
     ·have r1:(zak a.data.toList).2=true:=by rw[zbi d1]
      rcases d3:zav c.data.toList with _|_
      ·have r3:(zak c.data.toList).2=false:=by rw[zbd d3]
       have HL:=hid (show zcs s r=none by rw[HST.out];exact zfr he (zkK d3));simp only[hn1',hn3',r1,r3] at x1 x3⊢;clear hn1' hn3' h4
       go_wp2_with fail
       obtain⟨wq,hwq⟩:∃y,w3.alloc (.cells #[.int .i64 n1,.string b,.int .i64 n3] 145)=y:=⟨_,rfl⟩
       have bq:Below w3.heap.size w3 wq:=by rw[<-hwq];exact bal _
       have yx:Blk wq w3.heap.size 145 #[.int .i64 n1,.string b,.int .i64 n3]:=by rw[<-hwq];exact Blk.new _ _ _
       rw[hwq];clear hwq;have y4:=y3.on bq;have HB4:=hid (zac HB3.out bq lr);have hgb:g<w3.heap.size:=y3.lt;obtain⟨wb,hwb⟩:∃y,w3.heap.size=y:=⟨_,rfl⟩
       rw[hwb] at yx hgb⊢;clear bq c1 y3 hwb;refine ez (fun W=>Below w.heap.size w W/\Blk W g 213 #[.string s,.int .i64 (r.at_:Int),.int .i64 r.stamp,.slice A n d]/\Blk W wb 145 #[.int .i64 n1,.string b,.int .i64 n3]) ?_ fun hHeld=>?_
       ·exact⟨HB4.out.drew,y4.drew,yx.drew⟩
       refine dq 0 rfl (h:=dq 1 rfl (h:=dq 2 rfl (h:=dq 3 rfl (h:=dq 4 rfl (h:=dq 5 rfl (h:=dq 6 rfl (h:=dr 7 rfl (h:=?_))))))));refine dr 8 rfl (h:=dq 9 rfl (h:=dq 10 rfl (h:=dr 11 rfl (h:=dr 12 rfl (h:=dr 13 rfl (h:=dr 14 rfl (h:=dr 15 rfl (h:=?_))))))));refine dq 16 rfl (h:=?_);refine dn ?_;go_wp2;go_ret;exact .inr ⟨HL.out,rfl,⟨A,n,d,hHeld.2.1,(HSL.out.on hHeld.1).low,HNE.out,hlg⟩,hHeld.1.mono hlow⟩
      ·have r3:(zak c.data.toList).2=true:=by rw[zbi d3]
       have E1:=zfm d1;have E3:=zfm d3;rw[hn1'] at E1;rw[hn3'] at E3;replace E1:=hid E1;replace E3:=hid E3;rcases hokx:okEn ⟨n1,b,n3⟩ with _|_
       ·have HL:=hid (show zcs s r=none by rw[HST.out];exact zfr he (zkL (by rw[<-E1.out,<-E3.out];exact hokx)));simp only[hn1',hn3',r1,r3] at x1 x3⊢;clear hn1' hn3' h4
        go_wp2_with fail
        obtain⟨wq,hwq⟩:∃y,w3.alloc (.cells #[.int .i64 n1,.string b,.int .i64 n3] 145)=y:=⟨_,rfl⟩
        have bq:Below w3.heap.size w3 wq:=by rw[<-hwq];exact bal _
        have yx:Blk wq w3.heap.size 145 #[.int .i64 n1,.string b,.int .i64 n3]:=by rw[<-hwq];exact Blk.new _ _ _
        rw[hwq];clear hwq;have y4:=y3.on bq;have HB4:=hid (zac HB3.out bq lr);have hgb:g<w3.heap.size:=y3.lt;obtain⟨wb,hwb⟩:∃y,w3.heap.size=y:=⟨_,rfl⟩
        rw[hwb] at yx hgb⊢;clear bq c1 y3 hwb;refine ez (fun W=>Below w.heap.size w W/\Blk W g 213 #[.string s,.int .i64 (r.at_:Int),.int .i64 r.stamp,.slice A n d]/\Blk W wb 145 #[.int .i64 n1,.string b,.int .i64 n3]) ?_ fun hHeld=>?_
        ·exact⟨HB4.out.drew,y4.drew,yx.drew⟩
        refine dq 0 rfl (h:=dq 1 rfl (h:=dq 2 rfl (h:=dq 3 rfl (h:=dq 4 rfl (h:=dq 5 rfl (h:=dq 6 rfl (h:=?_)))))));refine rd 7 rfl fun K hK=>?_;go_simp
        go_at_call 230
        (have hk:=zes ⟨n1,b,n3⟩ wb _ (by simp only;omega) (hHeld.2.2.cellAt 0 (by simp)) (hHeld.2.2.cellAt 1 (by simp)) (hHeld.2.2.cellAt 2 (by simp)))
        rw[hokx] at hk;refine hk.mono ?_;rintro e w5 ⟨rfl,rfl⟩;clear hk
        go_wp2_with fail
        refine ke hK ?_ ?_
        ·exact hHeld
        clear hK K hHeld;intro hHeld;refine dq 8 rfl (h:=dq 9 rfl (h:=dq 10 rfl (h:=dr 11 rfl (h:=dr 12 rfl (h:=dr 13 rfl (h:=dr 14 rfl (h:=dr 15 rfl (h:=?_))))))));refine dq 16 rfl (h:=?_);refine dn ?_;go_wp2;go_ret;exact .inr ⟨HL.out,rfl,⟨A,n,d,hHeld.2.1,(HSL.out.on hHeld.1).low,HNE.out,hlg⟩,hHeld.1.mono hlow⟩
       ·by_cases hday:dayR r.list<=n1
        ·have hg1:decide (n1<dayR r.list)=false:=decide_eq_false (by omega);obtain⟨sp,hsp⟩:∃y,zbf r.stamp (zau ⟨n1,b,n3⟩)=y:=⟨_,rfl⟩
         have hspb:=zdt r.stamp (zau ⟨n1,b,n3⟩);rw[hsp] at hspb;have HSP:=hid hsp;have HT1:=hid (show zbc sp ⟨n1,b,n3⟩≠line++⟨#[10]⟩->zcs s r=none from fun q=>by rw[HST.out];exact zk3 he d1 d3 (by rw[<-E1.out,<-E3.out,hsp];exact q))
         have HT2:=hid (show zbc sp ⟨n1,b,n3⟩=line++⟨#[10]⟩->zcs s r=some ⟨r.list++ [⟨n1,b,n3⟩],sp,k+1⟩ from fun q=>by
          have e9:=zlg (r:=r) he d1 d3 (by rw[<-E1.out,<-E3.out];exact hokx) (by rw[<-E1.out];exact hday) (by rw[<-E1.out,<-E3.out,hsp];exact q);rw[HST.out,e9,<-E1.out,<-E3.out,hsp,hlk])
         have hwsz:=zdN hokx;have hok1:=hid hokx;clear hsp;simp only[hn1',hn3',r1,r3] at x1 x3⊢;clear hn1' hn3' h4
         go_wp2_with fail
         obtain⟨wq,hwq⟩:∃y,w3.alloc (.cells #[.int .i64 n1,.string b,.int .i64 n3] 145)=y:=⟨_,rfl⟩
         have bq:Below w3.heap.size w3 wq:=by rw[<-hwq];exact bal _
         have yx:Blk wq w3.heap.size 145 #[.int .i64 n1,.string b,.int .i64 n3]:=by rw[<-hwq];exact Blk.new _ _ _
         rw[hwq];clear hwq;have y4:=y3.on bq;have HB4:=hid (zac HB3.out bq lr);have hgb:g<w3.heap.size:=y3.lt;obtain⟨wb,hwb⟩:∃y,w3.heap.size=y:=⟨_,rfl⟩
         rw[hwb] at yx hgb⊢;clear bq c1 y3 hwb;refine ez (fun W=>Below w.heap.size w W/\Blk W g 213 #[.string s,.int .i64 (r.at_:Int),.int .i64 r.stamp,.slice A n d]/\Blk W wb 145 #[.int .i64 n1,.string b,.int .i64 n3]) ?_ fun hHeld=>?_
         ·exact⟨HB4.out.drew,y4.drew,yx.drew⟩
         refine dq 0 rfl (h:=dq 1 rfl (h:=dq 2 rfl (h:=dq 3 rfl (h:=dq 4 rfl (h:=dq 5 rfl (h:=dq 6 rfl (h:=?_)))))));refine rd 7 rfl fun K hK=>?_;go_simp
         go_at_call 230
         (have hk:=zes ⟨n1,b,n3⟩ wb _ (by simp only;omega) (hHeld.2.2.cellAt 0 (by simp)) (hHeld.2.2.cellAt 1 (by simp)) (hHeld.2.2.cellAt 2 (by simp)))
         rw[hokx] at hk;refine hk.mono ?_;rintro e w5 ⟨rfl,rfl⟩;clear hk
         go_wp2_with fail
         refine ke hK ?_ ?_
         ·exact hHeld
         clear hK K hHeld;intro hHeld;refine dq 8 rfl (h:=dq 9 rfl (h:=dq 10 rfl (h:=dq 11 rfl (h:=dq 12 rfl (hy:=by intro w hSw;(try dsimp only at hSw);(have f0:=hSw.2.2.cellAt 0 (by simp));go_simp;try with_reducible rfl) (h:=dq 13 rfl (h:=?_))))));refine rd 14 rfl fun K hK=>?_;go_simp
         go_at_call 231
         refine(zeW lo g s r _ ⟨A,n,d,hHeld.2.1,(HSL.out.on hHeld.1).low,HNE.out,hlg⟩ HOK.out (by omega)).mono ?_;rintro e w6 ⟨rfl,m6,rfl⟩
         go_wp2_with fail
         refine ke hK ?_ ?_
         ·exact⟨zan HB4.out _,y4.drewN _,yx.drewN _⟩
         clear hK K hHeld;intro hHeld;refine dq 15 rfl (h:=dq 16 rfl (h:=?_));refine dn ?_;have y5:=hHeld.2.1;have yx5:=hHeld.2.2;have HB5:=hid hHeld.1;clear hHeld y4 yx
         go_wp2_with fail
         refine ez (fun W=>Below w.heap.size w W/\Blk W g 213 #[.string s,.int .i64 (r.at_:Int),.int .i64 r.stamp,.slice A n d]/\Blk W wb 145 #[.int .i64 n1,.string b,.int .i64 n3]) ?_ fun hHeld=>?_
         ·exact⟨HB5.out.drew,y5.drew,yx5.drew⟩
         refine dq 0 rfl (h:=dq 1 rfl (h:=dq 2 rfl (h:=dq 3 rfl (hy:=by intro w hSw;(try dsimp only at hSw);(have e2:=hSw.2.1.cellAt 2 (by simp));go_simp;try with_reducible rfl) (h:=?_))));refine rd 4 rfl fun K hK=>?_;go_simp
         go_at_call 176
         refine(zfL ⟨n1,b,n3⟩ wb _ hxg hxs (hHeld.2.2.cellAt 0 (by simp)) (hHeld.2.2.cellAt 1 (by simp)) (hHeld.2.2.cellAt 2 (by simp))).mono ?_;rintro e w7 ⟨rfl,b7⟩
         go_wp2_with fail
         refine ke hK ?_ ?_
         ·exact⟨zac hHeld.1 b7 lr,hHeld.2.1.on b7,hHeld.2.2.on b7⟩
         clear hK K hHeld;intro hHeld;refine rd 5 rfl fun K hK=>?_;go_simp
         go_at_call 233
         refine(zhQ r.stamp (zau ⟨n1,b,n3⟩) _ hs0 hs1 (by omega)).mono ?_;rintro e w8 ⟨rfl,rfl⟩
         go_wp2_with fail
         refine ke hK ?_ ?_
         ·exact hHeld
         clear hK K hHeld;intro hHeld;refine dq 6 rfl (h:=?_);refine dn ?_;have y8:=hHeld.2.1;have yx8:=hHeld.2.2;have HB8:=hid hHeld.1;clear hHeld y5 yx5;rw[HSP.out]
         go_wp2_with fail
         have hk2:(k:Int)+1<=(s.size:Int):=by omega
         have hk3:(r.at_:Int)<=(k:Int)+1:=by omega
         have hkw:IntKind.i64.wrap ((k:Int)+1)=(k:Int)+1:=by
          unfold IntKind.wrap;simp[IntKind.bits,IntKind.signed];omega
         have hkt:((k:Int)+1).toNat=k+1:=by omega
         by_cases htx:zbc sp ⟨n1,b,n3⟩=line++⟨#[10]⟩
         ·have HL:=hid (HT2.out htx);have hq3:((zbc sp ⟨n1,b,n3⟩).toList==(s.extract r.at_ (k+1)).toList)=true:=by rw[HEX.out,htx];exact beq_self_eq_true _
          clear htx;refine ez (fun W=>Below w.heap.size w W/\Blk W g 213 #[.string s,.int .i64 (r.at_:Int),.int .i64 r.stamp,.slice A n d]/\Blk W wb 145 #[.int .i64 n1,.string b,.int .i64 n3]) ?_ fun hHeld=>?_
          ·exact⟨HB8.out.drew,y8.drew,yx8.drew⟩
          refine dq 0 rfl (h:=dq 2 rfl (h:=dq 3 rfl (h:=dq 4 rfl (h:=dq 5 rfl (hy:=by intro w hSw;(try dsimp only at hSw);(have e0:=hSw.2.1.cellAt 0 (by simp));go_simp;try with_reducible rfl) (h:=dq 6 rfl (h:=dq 7 rfl (h:=dq 8 rfl (h:=?_))))))));refine dq 9 rfl (hy:=by intro w hSw;(try dsimp only at hSw);(have e1:=hSw.2.1.cellAt 1 (by simp));go_simp;try with_reducible rfl) (h:=dq 10 rfl (h:=dq 11 rfl (h:=dq 12 rfl (h:=?_))));refine rd 1 rfl fun K hK=>?_;go_simp
          go_at_call 232
          refine(zgv sp ⟨n1,b,n3⟩ wb _ hok1.out hspb.1 hspb.2 (hHeld.2.2.cellAt 0 (by simp)) (hHeld.2.2.cellAt 1 (by simp)) (hHeld.2.2.cellAt 2 (by simp))).mono ?_;rintro e w9 ⟨rfl,b9⟩
          go_wp2_with fail
          refine ke hK ?_ ?_
          ·exact⟨zac hHeld.1 b9 lr,hHeld.2.1.on b9,hHeld.2.2.on b9⟩
          clear hK K hHeld;intro hHeld;refine dq 13 rfl (h:=?_);refine dn ?_;have y9:=hHeld.2.1;have yx9:=hHeld.2.2;have HB9:=hid hHeld.1;clear hHeld y8 yx8;clear HT1 HT2;have hg9:g<w9.heap.size:=y9.lt;have hsl9:=(HSL.out.on HB9.out).low;have hz9:lo<=w9.heap.size:=by have:=HB9.out.size;omega
          have o3:w9.cell? ⟨g,3,none⟩=some (.slice A n d):=y9.cellAt 3 (by simp);have e0:w9.cell? ⟨wb,0,none⟩=some (.int .i64 n1):=yx9.cellAt 0 (by simp);have e1:w9.cell? ⟨wb,1,none⟩=some (.string b):=yx9.cellAt 1 (by simp);have e2:w9.cell? ⟨wb,2,none⟩=some (.int .i64 n3):=yx9.cellAt 2 (by simp)
          go_wp2_with fail
          refine ez (fun _=>True) ?_ fun hHeld=>?_
          ·trivial
          refine dq 0 rfl (h:=dq 1 rfl (h:=dq 2 rfl (h:=dq 3 rfl (h:=?_))));refine wpAnyH_ready (rs:=[4,5]) (by kernel_rfl) (by simp) ?_;refine AllReadyH.cons rfl (fun K hK=>?_) ?_
          ·skip
           go_simp;refine ke hK trivial fun _=>?_;clear hK K;refine rd 5 rfl fun K hK=>?_;go_simp;refine ke hK trivial fun _=>?_;clear hK K;refine rd 6 rfl fun K hK=>?_;go_simp;refine ke hK trivial fun _=>?_;clear hK K;refine rd 7 rfl fun K hK=>?_;refine zg1 rfl _ _ 148 rfl 145 _ 3 32 underlying148 zgB rfl (by decide) (by decide) hsl9.drew hz9 rfl (zc7 ⟨n1,b,n3⟩) w9.heap.size rfl rfl rfl (zg8 _) (by omega) ?_;intro A2 d2 w10 hs10 b10 f10 k10;refine ke hK trivial fun _=>?_;clear hK K;refine dq 8 rfl (h:=dq 9 rfl (h:=?_));refine rd 10 rfl fun K hK=>?_;have y10:Blk w10 g 213 #[.string s,.int .i64 (r.at_:Int),.int .i64 r.stamp,.slice A n d]:=(f10 g hg9 HNE.out).trans y9
           have p1:w10.cell? ⟨g,1,none⟩=some (.int .i64 (r.at_:Int)):=y10.cellAt 1 (by simp);have p2:w10.cell? ⟨g,2,none⟩=some (.int .i64 r.stamp):=y10.cellAt 2 (by simp);have p3:w10.cell? ⟨g,3,none⟩=some (.slice A n d):=y10.cellAt 3 (by simp);have pf1:=y10.frozen 1;have pf2:=y10.frozen 2;have pf3:=y10.frozen 3;go_simp;refine hK.out _ _ ?_ (fun hNew=>?_)
           ·trivial
           clear hK K hHeld;clear hNew
           try simp only[Act.put,ly]
           refine dn ?_;have hne10:∀ad,A2=some ad->ad.block≠g:=k10 g hg9 HNE.out;go_wp2;go_ret;refine .inl ⟨_,HL.out,rfl,⟨A2,n+1,d2,?_,?_,hne10,hlg⟩,((((HB9.out.mono hlow).drew.trans b10).setCell hlg _).setCell hlg _).setCell hlg _⟩
           ·have q9:=((y10.set_ 3 (.slice A2 (n+1) d2)).set_ 2 (.int .i64 sp)).set_ 1 (.int .i64 ((k+1:Nat):Int));simpa using q9
           ·rw[zfG];exact(((hs10.setNe hne10 _).setNe hne10 _).setNe hne10 _).low
          refine AllReadyH.cons rfl (fun K hK=>?_) ?_
          ·skip
           go_simp;refine ke hK trivial fun _=>?_;clear hK K;refine wpAnyH_ready (rs:=[4,6]) (by kernel_rfl) (by simp) ?_;refine AllReadyH.cons rfl (fun K hK=>?_) ?_
           ·skip
            go_simp;refine ke hK trivial fun _=>?_;clear hK K;refine rd 6 rfl fun K hK=>?_;go_simp;refine ke hK trivial fun _=>?_;clear hK K;refine rd 7 rfl fun K hK=>?_;refine zg1 rfl _ _ 148 rfl 145 _ 3 32 underlying148 zgB rfl (by decide) (by decide) hsl9.drew hz9 rfl (zc7 ⟨n1,b,n3⟩) w9.heap.size rfl rfl rfl (zg8 _) (by omega) ?_;intro A2 d2 w10 hs10 b10 f10 k10;refine ke hK trivial fun _=>?_;clear hK K;refine dq 8 rfl (h:=dq 9 rfl (h:=?_));refine rd 10 rfl fun K hK=>?_;have y10:Blk w10 g 213 #[.string s,.int .i64 (r.at_:Int),.int .i64 r.stamp,.slice A n d]:=(f10 g hg9 HNE.out).trans y9;have p1:w10.cell? ⟨g,1,none⟩=some (.int .i64 (r.at_:Int)):=y10.cellAt 1 (by simp)
            have p2:w10.cell? ⟨g,2,none⟩=some (.int .i64 r.stamp):=y10.cellAt 2 (by simp);have p3:w10.cell? ⟨g,3,none⟩=some (.slice A n d):=y10.cellAt 3 (by simp);have pf1:=y10.frozen 1;have pf2:=y10.frozen 2;have pf3:=y10.frozen 3;go_simp;refine hK.out _ _ ?_ (fun hNew=>?_)
            ·trivial
            clear hK K hHeld;clear hNew
            try simp only[Act.put,ly]
            refine dn ?_;have hne10:∀ad,A2=some ad->ad.block≠g:=k10 g hg9 HNE.out;go_wp2;go_ret;refine .inl ⟨_,HL.out,rfl,⟨A2,n+1,d2,?_,?_,hne10,hlg⟩,((((HB9.out.mono hlow).drew.trans b10).setCell hlg _).setCell hlg _).setCell hlg _⟩
            ·have q9:=((y10.set_ 3 (.slice A2 (n+1) d2)).set_ 2 (.int .i64 sp)).set_ 1 (.int .i64 ((k+1:Nat):Int));simpa using q9
            ·rw[zfG];exact(((hs10.setNe hne10 _).setNe hne10 _).setNe hne10 _).low
           refine AllReadyH.cons rfl (fun K hK=>?_) ?_
           ·skip
            go_simp;refine ke hK trivial fun _=>?_;clear hK K;refine rd 4 rfl fun K hK=>?_;go_simp;refine ke hK trivial fun _=>?_;clear hK K;refine rd 7 rfl fun K hK=>?_;refine zg1 rfl _ _ 148 rfl 145 _ 3 32 underlying148 zgB rfl (by decide) (by decide) hsl9.drew hz9 rfl (zc7 ⟨n1,b,n3⟩) w9.heap.size rfl rfl rfl (zg8 _) (by omega) ?_;intro A2 d2 w10 hs10 b10 f10 k10;refine ke hK trivial fun _=>?_;clear hK K;refine dq 8 rfl (h:=dq 9 rfl (h:=?_));refine rd 10 rfl fun K hK=>?_;have y10:Blk w10 g 213 #[.string s,.int .i64 (r.at_:Int),.int .i64 r.stamp,.slice A n d]:=(f10 g hg9 HNE.out).trans y9;have p1:w10.cell? ⟨g,1,none⟩=some (.int .i64 (r.at_:Int)):=y10.cellAt 1 (by simp)
            have p2:w10.cell? ⟨g,2,none⟩=some (.int .i64 r.stamp):=y10.cellAt 2 (by simp);have p3:w10.cell? ⟨g,3,none⟩=some (.slice A n d):=y10.cellAt 3 (by simp);have pf1:=y10.frozen 1;have pf2:=y10.frozen 2;have pf3:=y10.frozen 3;go_simp;refine hK.out _ _ ?_ (fun hNew=>?_)
            ·trivial
            clear hK K hHeld;clear hNew
            try simp only[Act.put,ly]
            refine dn ?_;have hne10:∀ad,A2=some ad->ad.block≠g:=k10 g hg9 HNE.out;go_wp2;go_ret;refine .inl ⟨_,HL.out,rfl,⟨A2,n+1,d2,?_,?_,hne10,hlg⟩,((((HB9.out.mono hlow).drew.trans b10).setCell hlg _).setCell hlg _).setCell hlg _⟩
            ·have q9:=((y10.set_ 3 (.slice A2 (n+1) d2)).set_ 2 (.int .i64 sp)).set_ 1 (.int .i64 ((k+1:Nat):Int));simpa using q9
            ·rw[zfG];exact(((hs10.setNe hne10 _).setNe hne10 _).setNe hne10 _).low
           exact AllReadyH.nil
          exact AllReadyH.nil
         ·have HL:=hid (HT1.out htx);have hq3:((zbc sp ⟨n1,b,n3⟩).toList==(s.extract r.at_ (k+1)).toList)=false:=by rw[HEX.out,beq_eq_false_iff_ne,ne_eq,Go.ByteArray.toList_eq,Go.ByteArray.toList_eq];exact fun q=>htx (zdn q)
          clear htx;refine ez (fun W=>Below w.heap.size w W/\Blk W g 213 #[.string s,.int .i64 (r.at_:Int),.int .i64 r.stamp,.slice A n d]/\Blk W wb 145 #[.int .i64 n1,.string b,.int .i64 n3]) ?_ fun hHeld=>?_
          ·exact⟨HB8.out.drew,y8.drew,yx8.drew⟩
          refine dq 0 rfl (h:=dq 2 rfl (h:=dq 3 rfl (h:=dq 4 rfl (h:=dq 5 rfl (hy:=by intro w hSw;(try dsimp only at hSw);(have e0:=hSw.2.1.cellAt 0 (by simp));go_simp;try with_reducible rfl) (h:=dq 6 rfl (h:=dq 7 rfl (h:=dq 8 rfl (h:=?_))))))));refine dq 9 rfl (hy:=by intro w hSw;(try dsimp only at hSw);(have e1:=hSw.2.1.cellAt 1 (by simp));go_simp;try with_reducible rfl) (h:=dq 10 rfl (h:=dq 11 rfl (h:=dq 12 rfl (h:=?_))));refine rd 1 rfl fun K hK=>?_;go_simp
          go_at_call 232
          refine(zgv sp ⟨n1,b,n3⟩ wb _ hok1.out hspb.1 hspb.2 (hHeld.2.2.cellAt 0 (by simp)) (hHeld.2.2.cellAt 1 (by simp)) (hHeld.2.2.cellAt 2 (by simp))).mono ?_;rintro e w9 ⟨rfl,b9⟩
          go_wp2_with fail
          refine ke hK ?_ ?_
          ·exact⟨zac hHeld.1 b9 lr,hHeld.2.1.on b9,hHeld.2.2.on b9⟩
          clear hK K hHeld;intro hHeld;refine dq 13 rfl (h:=?_);refine dn ?_;go_wp2;go_ret;exact .inr ⟨HL.out,rfl,⟨A,n,d,hHeld.2.1,(HSL.out.on hHeld.1).low,HNE.out,hlg⟩,hHeld.1.mono hlow⟩
        ·have hg1:decide (n1<dayR r.list)=true:=decide_eq_true (by omega);have HL:=hid (show zcs s r=none by rw[HST.out];exact zlf he (by rw[<-E1.out];exact hday));simp only[hn1',hn3',r1,r3] at x1 x3⊢;clear hn1' hn3' h4
         go_wp2_with fail
         obtain⟨wq,hwq⟩:∃y,w3.alloc (.cells #[.int .i64 n1,.string b,.int .i64 n3] 145)=y:=⟨_,rfl⟩
         have bq:Below w3.heap.size w3 wq:=by rw[<-hwq];exact bal _
         have yx:Blk wq w3.heap.size 145 #[.int .i64 n1,.string b,.int .i64 n3]:=by rw[<-hwq];exact Blk.new _ _ _
         rw[hwq];clear hwq;have y4:=y3.on bq;have HB4:=hid (zac HB3.out bq lr);have hgb:g<w3.heap.size:=y3.lt;obtain⟨wb,hwb⟩:∃y,w3.heap.size=y:=⟨_,rfl⟩
         rw[hwb] at yx hgb⊢;clear bq c1 y3 hwb;refine ez (fun W=>Below w.heap.size w W/\Blk W g 213 #[.string s,.int .i64 (r.at_:Int),.int .i64 r.stamp,.slice A n d]/\Blk W wb 145 #[.int .i64 n1,.string b,.int .i64 n3]) ?_ fun hHeld=>?_
         ·exact⟨HB4.out.drew,y4.drew,yx.drew⟩
         refine dq 0 rfl (h:=dq 1 rfl (h:=dq 2 rfl (h:=dq 3 rfl (h:=dq 4 rfl (h:=dq 5 rfl (h:=dq 6 rfl (h:=?_)))))));refine rd 7 rfl fun K hK=>?_;go_simp
         go_at_call 230
         (have hk:=zes ⟨n1,b,n3⟩ wb _ (by simp only;omega) (hHeld.2.2.cellAt 0 (by simp)) (hHeld.2.2.cellAt 1 (by simp)) (hHeld.2.2.cellAt 2 (by simp)))
         rw[hokx] at hk;refine hk.mono ?_;rintro e w5 ⟨rfl,rfl⟩;clear hk
         go_wp2_with fail
         refine ke hK ?_ ?_
         ·exact hHeld
         clear hK K hHeld;intro hHeld;refine dq 8 rfl (h:=dq 9 rfl (h:=dq 10 rfl (h:=dq 11 rfl (h:=dq 12 rfl (hy:=by intro w hSw;(try dsimp only at hSw);(have f0:=hSw.2.2.cellAt 0 (by simp));go_simp;try with_reducible rfl) (h:=dq 13 rfl (h:=?_))))));refine rd 14 rfl fun K hK=>?_;go_simp
         go_at_call 231
         refine(zeW lo g s r _ ⟨A,n,d,hHeld.2.1,(HSL.out.on hHeld.1).low,HNE.out,hlg⟩ HOK.out (by omega)).mono ?_;rintro e w6 ⟨rfl,m6,rfl⟩
         go_wp2_with fail
         refine ke hK ?_ ?_
         ·exact⟨zan HB4.out _,y4.drewN _,yx.drewN _⟩
         clear hK K hHeld;intro hHeld;refine dq 15 rfl (h:=dq 16 rfl (h:=?_));refine dn ?_;go_wp2;go_ret;exact .inr ⟨HL.out,rfl,⟨A,n,d,hHeld.2.1,(HSL.out.on hHeld.1).low,HNE.out,hlg⟩,hHeld.1.mono hlow⟩
    ·have HL:=hid (show zcs s r=none by rw[HST.out,zoH h4]);have hm1:=s1.len;simp only[strs,List.length_map,Nat.mul_one] at hm1;have hm4:((m1:Int) !=4)=true:=by rw[bne_iff_ne];omega
     clear s1 h4;go_wp2;go_ret;exact .inr ⟨HL.out,rfl,⟨A,n,d,y1,(HSL.out.on HB1.out).low,HNE.out,hlg⟩,HB1.out.mono hlow⟩
   ·have hq:((s[k].toNat:Int) !=10)=true:=by
     rw[bne_iff_ne];intro e;exact hc (by rw[<-UInt8.toNat_inj];exact Int.ofNat_inj.1 e)
    have HN2:=hid (zpd HN.out hjk hlt hc);clear hc;go_wp2
    go_round
    case rel=>exact⟨k+1,by omega,by omega,by go_num,HN2.out⟩
    case measure=>simp[RowKit.intOf];omega
  ·obtain rfl:k=s.size:=by omega
   have HST:=hid (zhe HN.out);have hkk:¬((s.size:Int)<(s.size:Int)):=by omega
   go_wp2;go_ret;exact .inr ⟨HST.out,rfl,⟨A,n,d,yb,HSL.out,HNE.out,hlg⟩,Below.refl _ _⟩
end Go.Proofs.YtjalgpioklcbfaaGreatDoor
