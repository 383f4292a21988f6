/- A line of a log, as the program reads it. -/
import Derived.Test.YtjalgpioklcbfaaGreatDoorMgDesksAG
set_option maxHeartbeats 4000000
set_option maxRecDepth 100000
set_option linter.unusedVariables false
set_option linter.unusedSimpArgs false
namespace Go.Proofs.YtjalgpioklcbfaaGreatDoor
open Go.RowKit Go.Lib Go.Proofs.Tryz
theorem zjJ{line a b c d:ByteArray}(h:zah 32 line=[a,b,c,d]):a.size<=line.size/\b.size<=line.size/\c.size<=line.size/\d.size<=line.size:=by
 have h1:=congrArg List.length (zlw h);simp only[List.length_append,List.length_cons,za8] at h1;omega
theorem zfX{w:World}{lo hi n k:Nat}{A:Option Addr}{a b c d:ByteArray}(h:Sl w lo hi 9 1 A n k (strs [a,b,c,d])):n=4/\∃g,A=some ⟨g,0,none⟩/\w.cell? ⟨g,0,none⟩=some (.string a)/\w.cell? ⟨g,1,none⟩=some (.string b)/\w.cell? ⟨g,2,none⟩=some (.string c)/\w.cell? ⟨g,3,none⟩=some (.string d):=by
 have hn:=h.len;simp[strs] at hn;subst hn;obtain⟨g,rfl,_,_,_⟩:=h.lt (by omega);exact⟨rfl,g,rfl,h.cellAt 0 (by omega),h.cellAt 1 (by omega),h.cellAt 2 (by omega),h.cellAt 3 (by omega)⟩
theorem zfm{s:List UInt8}(h:zav s=true):(zak s).1=numS s:=by rw[zbi h]
theorem zn6 (s:ByteArray) (m:Int) (w:World) (hs:s.size <= 1048576) (hm:w.cell? ⟨1,0,none⟩ = some (.int .i64 m)) (ht:TabP w) (hv:SynP w) :
  Calls prog 161 #[.string s] w fun e w'=>∃(x:En) (st:Int) (b:Bool),e= .returned (.tuple #[.agg #[.int .i64 x.day,.string x.what,.int .i64 x.val],.int .i64 st,.bool b])/\(b=true->zbt s=some (x,st))/\(b=false->zbt s=none)/\Below w.heap.size w w':=by
 have HT:=hid ht;have HV:=hid hv;have hw0:(w.alloc (.cells #[.int .i64 0,.string ⟨#[]⟩,.int .i64 0] 145)).cell? ⟨1,0,none⟩=some (.int .i64 m):=zaa (bal _) hm;have b0:Below w.heap.size w (w.alloc (.cells #[.int .i64 0,.string ⟨#[]⟩,.int .i64 0] 145)):=bal _;have y0:=Blk.new w 145 #[.int .i64 0,.string ⟨#[]⟩,.int .i64 0];clear ht hv;by_cases h4:(zah 32 s).length=4
 ·obtain⟨a,b,c,d,he⟩:=zoR h4;obtain⟨za,zb,zc,zd⟩:=zjJ he;rcases d1:zav a.data.toList with _|_
  ·have r1:(zak a.data.toList).2=false:=by rw[zbd d1]
   obtain⟨q3,r3⟩:∃v,(zak c.data.toList).2=v:=⟨_,rfl⟩
   obtain⟨q4,r4⟩:∃v,(zak d.data.toList).2=v:=⟨_,rfl⟩
   have HO:=hid (show zbt s=none by rw[zbT he];exact zkJ d1);go_enter func161,ntmps161
   go_wp2_with fail
   refine(zcE s 32 m _ hs hw0).mono ?_;rintro e w1 ⟨A,n,k,rfl,s1,b1⟩;have y1:=y0.on b1;have HB1:=hid (zac b0 b1 lr);clear b1 b0 hw0 hm;rw[he] at s1;obtain⟨rfl,g,rfl,c0,c1,c2,c3⟩:=zfX s1;clear s1
   go_wp2_with fail
   refine(za7 a _ (by omega) (zaw HT.out HB1.out) (zbk HV.out HB1.out)).mono ?_;rintro e w2 ⟨rfl,b2⟩;replace c1:=zaa b2 c1;replace c2:=zaa b2 c2;replace c3:=zaa b2 c3;have y2:=y1.on b2;have HB2:=hid (zac HB1.out b2 lr);clear b2 c0 y1
   go_wp2_with fail
   refine(za7 c _ (by omega) (zaw HT.out HB2.out) (zbk HV.out HB2.out)).mono ?_;rintro e w3 ⟨rfl,b3⟩;replace c1:=zaa b3 c1;replace c3:=zaa b3 c3;have y3:=y2.on b3;have HB3:=hid (zac HB2.out b3 lr);clear b3 c2 y2
   go_wp2_with fail
   refine(za7 d _ (by omega) (zaw HT.out HB3.out) (zbk HV.out HB3.out)).mono ?_;rintro e w4 ⟨rfl,b4⟩;replace c1:=zaa b4 c1;have y4:=y3.on b4;have HB4:=hid (zac HB3.out b4 lr);clear b4 c3 y3;have x1:=zbE a.data.toList;have x3:=zbE c.data.toList;obtain⟨n1,hn1⟩:∃v,(zak a.data.toList).1=v:=⟨_,rfl⟩
   obtain⟨n3,hn3⟩:∃v,(zak c.data.toList).1=v:=⟨_,rfl⟩
   obtain⟨n4,hn4⟩:∃v,(zak d.data.toList).1=v:=⟨_,rfl⟩
   simp only[hn1,hn3,hn4,r1,r3,r4] at x1 x3⊢;clear hn1 hn3 hn4
   go_wp2_with fail
   obtain⟨wq,hwq⟩:∃y,w4.alloc (.cells #[.int .i64 n1,.string b,.int .i64 n3] 145)=y:=⟨_,rfl⟩
   have bq:Below w4.heap.size w4 wq:=by rw[<-hwq];exact bal _
   have yq:Blk wq w4.heap.size 145 #[.int .i64 n1,.string b,.int .i64 n3]:=by rw[<-hwq];exact Blk.new _ _ _
   rw[hwq];clear hwq;have yr:=y4.on bq;have HQ:=hid (zac HB4.out bq lr);have hne:w4.heap.size≠w.heap.size:=by have:=y4.lt;omega
   clear bq c1 y4
   go_wp2_with fail
   refine ez (fun W=>Below w.heap.size w W/\Blk W w4.heap.size 145 #[.int .i64 n1,.string b,.int .i64 n3]/\∃v0 v1 v2,Blk W w.heap.size 145 #[v0,v1,v2]) ?_ fun hHeld=>?_
   ·exact⟨HQ.out.drew,yq.drew,⟨_,_,_,yr.drew⟩⟩
   refine dq 0 rfl (hy:=by intro w hSw;(try dsimp only at hSw);obtain⟨e0,e1,e2⟩:=zaB hSw.2.1;go_simp;try with_reducible rfl) (h:=dq 1 rfl (h:=dq 2 rfl (h:=dq 3 rfl (h:=dr 4 rfl (h:=dq 5 rfl (h:=dq 6 rfl (h:=dr 7 rfl (h:=?_))))))));refine dq 8 rfl (h:=dq 9 rfl (h:=dr 10 rfl (h:=dr 11 rfl (h:=dq 12 rfl (h:=?_)))));refine rd 13 rfl fun K hK=>?_;obtain⟨v0,v1,v2,hv⟩:=hHeld.2.2;have hc0:=hv.cellAt 0 (by simp);have hc1:=hv.cellAt 1 (by simp);have hc2:=hv.cellAt 2 (by simp);have hf0:=hv.frozen 0;have hf1:=hv.frozen 1;have hf2:=hv.frozen 2
   (try simp only[World.cell?_drew,World.frozen?_drew] at hc0 hc1 hc2 hf0 hf1 hf2)
   go_simp;refine ke hK ?_ ?_
   ·exact⟨((hHeld.1.setCell lr _).setCell lr _).setCell lr _,((hHeld.2.1.far hne _).far hne _).far hne _,by obtain⟨v0,v1,v2,hv⟩:=hHeld.2.2;exact⟨_,_,_,((hv.set_ 0 _).set_ 1 _).set_ 2 _⟩⟩
   clear hK K hHeld;intro hHeld;refine dq 14 rfl (h:=dq 15 rfl (h:=?_));refine dn ?_;go_wp2;exact bodyPost_ret (v:=.tuple #[.agg #[.int .i64 n1,.string b,.int .i64 n3],.int .i64 n4,.bool false]) (by simp[results,results161,go_sem,hc0,hc1,hc2]) rfl ⟨⟨n1,b,n3⟩,n4,false,rfl,(fun h=>by cases h),(fun _=>HO.out),hHeld.1⟩
  ·have r1:(zak a.data.toList).2=true:=by rw[zbi d1]
   rcases d3:zav c.data.toList with _|_
   ·have r3:(zak c.data.toList).2=false:=by rw[zbd d3]
    obtain⟨q4,r4⟩:∃v,(zak d.data.toList).2=v:=⟨_,rfl⟩
    have HO:=hid (show zbt s=none by rw[zbT he];exact zkK d3);go_enter func161,ntmps161
    go_wp2_with fail
    refine(zcE s 32 m _ hs hw0).mono ?_;rintro e w1 ⟨A,n,k,rfl,s1,b1⟩;have y1:=y0.on b1;have HB1:=hid (zac b0 b1 lr);clear b1 b0 hw0 hm;rw[he] at s1;obtain⟨rfl,g,rfl,c0,c1,c2,c3⟩:=zfX s1;clear s1
    go_wp2_with fail
    refine(za7 a _ (by omega) (zaw HT.out HB1.out) (zbk HV.out HB1.out)).mono ?_;rintro e w2 ⟨rfl,b2⟩;replace c1:=zaa b2 c1;replace c2:=zaa b2 c2;replace c3:=zaa b2 c3;have y2:=y1.on b2;have HB2:=hid (zac HB1.out b2 lr);clear b2 c0 y1
    go_wp2_with fail
    refine(za7 c _ (by omega) (zaw HT.out HB2.out) (zbk HV.out HB2.out)).mono ?_;rintro e w3 ⟨rfl,b3⟩;replace c1:=zaa b3 c1;replace c3:=zaa b3 c3;have y3:=y2.on b3;have HB3:=hid (zac HB2.out b3 lr);clear b3 c2 y2
    go_wp2_with fail
    refine(za7 d _ (by omega) (zaw HT.out HB3.out) (zbk HV.out HB3.out)).mono ?_;rintro e w4 ⟨rfl,b4⟩;replace c1:=zaa b4 c1;have y4:=y3.on b4;have HB4:=hid (zac HB3.out b4 lr);clear b4 c3 y3;have x1:=zbE a.data.toList;have x3:=zbE c.data.toList;obtain⟨n1,hn1⟩:∃v,(zak a.data.toList).1=v:=⟨_,rfl⟩
    obtain⟨n3,hn3⟩:∃v,(zak c.data.toList).1=v:=⟨_,rfl⟩
    obtain⟨n4,hn4⟩:∃v,(zak d.data.toList).1=v:=⟨_,rfl⟩
    simp only[hn1,hn3,hn4,r1,r3,r4] at x1 x3⊢;clear hn1 hn3 hn4
    go_wp2_with fail
    obtain⟨wq,hwq⟩:∃y,w4.alloc (.cells #[.int .i64 n1,.string b,.int .i64 n3] 145)=y:=⟨_,rfl⟩
    have bq:Below w4.heap.size w4 wq:=by rw[<-hwq];exact bal _
    have yq:Blk wq w4.heap.size 145 #[.int .i64 n1,.string b,.int .i64 n3]:=by rw[<-hwq];exact Blk.new _ _ _
    rw[hwq];clear hwq;have yr:=y4.on bq;have HQ:=hid (zac HB4.out bq lr);have hne:w4.heap.size≠w.heap.size:=by have:=y4.lt;omega
    clear bq c1 y4
    go_wp2_with fail
    refine ez (fun W=>Below w.heap.size w W/\Blk W w4.heap.size 145 #[.int .i64 n1,.string b,.int .i64 n3]/\∃v0 v1 v2,Blk W w.heap.size 145 #[v0,v1,v2]) ?_ fun hHeld=>?_
    ·exact⟨HQ.out.drew,yq.drew,⟨_,_,_,yr.drew⟩⟩
    refine dq 0 rfl (hy:=by intro w hSw;(try dsimp only at hSw);obtain⟨e0,e1,e2⟩:=zaB hSw.2.1;go_simp;try with_reducible rfl) (h:=dq 1 rfl (h:=dq 2 rfl (h:=dq 3 rfl (h:=dq 4 rfl (h:=dq 5 rfl (h:=dq 6 rfl (h:=dr 7 rfl (h:=?_))))))));refine dq 8 rfl (h:=dq 9 rfl (h:=dr 10 rfl (h:=dr 11 rfl (h:=dq 12 rfl (h:=?_)))));refine rd 13 rfl fun K hK=>?_;obtain⟨v0,v1,v2,hv⟩:=hHeld.2.2;have hc0:=hv.cellAt 0 (by simp);have hc1:=hv.cellAt 1 (by simp);have hc2:=hv.cellAt 2 (by simp);have hf0:=hv.frozen 0;have hf1:=hv.frozen 1;have hf2:=hv.frozen 2
    (try simp only[World.cell?_drew,World.frozen?_drew] at hc0 hc1 hc2 hf0 hf1 hf2)
    go_simp;refine ke hK ?_ ?_
    ·exact⟨((hHeld.1.setCell lr _).setCell lr _).setCell lr _,((hHeld.2.1.far hne _).far hne _).far hne _,by obtain⟨v0,v1,v2,hv⟩:=hHeld.2.2;exact⟨_,_,_,((hv.set_ 0 _).set_ 1 _).set_ 2 _⟩⟩
    clear hK K hHeld;intro hHeld;refine dq 14 rfl (h:=dq 15 rfl (h:=?_));refine dn ?_;go_wp2;exact bodyPost_ret (v:=.tuple #[.agg #[.int .i64 n1,.string b,.int .i64 n3],.int .i64 n4,.bool false]) (by simp[results,results161,go_sem,hc0,hc1,hc2]) rfl ⟨⟨n1,b,n3⟩,n4,false,rfl,(fun h=>by cases h),(fun _=>HO.out),hHeld.1⟩
   ·have r3:(zak c.data.toList).2=true:=by rw[zbi d3]
    rcases d4:zav d.data.toList with _|_
    ·have r4:(zak d.data.toList).2=false:=by rw[zbd d4]
     have HO:=hid (show zbt s=none by rw[zbT he];exact zqt d4);go_enter func161,ntmps161
     go_wp2_with fail
     refine(zcE s 32 m _ hs hw0).mono ?_;rintro e w1 ⟨A,n,k,rfl,s1,b1⟩;have y1:=y0.on b1;have HB1:=hid (zac b0 b1 lr);clear b1 b0 hw0 hm;rw[he] at s1;obtain⟨rfl,g,rfl,c0,c1,c2,c3⟩:=zfX s1;clear s1
     go_wp2_with fail
     refine(za7 a _ (by omega) (zaw HT.out HB1.out) (zbk HV.out HB1.out)).mono ?_;rintro e w2 ⟨rfl,b2⟩;replace c1:=zaa b2 c1;replace c2:=zaa b2 c2;replace c3:=zaa b2 c3;have y2:=y1.on b2;have HB2:=hid (zac HB1.out b2 lr);clear b2 c0 y1
     go_wp2_with fail
     refine(za7 c _ (by omega) (zaw HT.out HB2.out) (zbk HV.out HB2.out)).mono ?_;rintro e w3 ⟨rfl,b3⟩;replace c1:=zaa b3 c1;replace c3:=zaa b3 c3;have y3:=y2.on b3;have HB3:=hid (zac HB2.out b3 lr);clear b3 c2 y2
     go_wp2_with fail
     refine(za7 d _ (by omega) (zaw HT.out HB3.out) (zbk HV.out HB3.out)).mono ?_;rintro e w4 ⟨rfl,b4⟩;replace c1:=zaa b4 c1;have y4:=y3.on b4;have HB4:=hid (zac HB3.out b4 lr);clear b4 c3 y3;have x1:=zbE a.data.toList;have x3:=zbE c.data.toList;obtain⟨n1,hn1⟩:∃v,(zak a.data.toList).1=v:=⟨_,rfl⟩
     obtain⟨n3,hn3⟩:∃v,(zak c.data.toList).1=v:=⟨_,rfl⟩
     obtain⟨n4,hn4⟩:∃v,(zak d.data.toList).1=v:=⟨_,rfl⟩
     simp only[hn1,hn3,hn4,r1,r3,r4] at x1 x3⊢;clear hn1 hn3 hn4
     go_wp2_with fail
     obtain⟨wq,hwq⟩:∃y,w4.alloc (.cells #[.int .i64 n1,.string b,.int .i64 n3] 145)=y:=⟨_,rfl⟩
     have bq:Below w4.heap.size w4 wq:=by rw[<-hwq];exact bal _
     have yq:Blk wq w4.heap.size 145 #[.int .i64 n1,.string b,.int .i64 n3]:=by rw[<-hwq];exact Blk.new _ _ _
     rw[hwq];clear hwq;have yr:=y4.on bq;have HQ:=hid (zac HB4.out bq lr);have hne:w4.heap.size≠w.heap.size:=by have:=y4.lt;omega
     clear bq c1 y4
     go_wp2_with fail
     refine ez (fun W=>Below w.heap.size w W/\Blk W w4.heap.size 145 #[.int .i64 n1,.string b,.int .i64 n3]/\∃v0 v1 v2,Blk W w.heap.size 145 #[v0,v1,v2]) ?_ fun hHeld=>?_
     ·exact⟨HQ.out.drew,yq.drew,⟨_,_,_,yr.drew⟩⟩
     refine dq 0 rfl (hy:=by intro w hSw;(try dsimp only at hSw);obtain⟨e0,e1,e2⟩:=zaB hSw.2.1;go_simp;try with_reducible rfl) (h:=dq 1 rfl (h:=dq 2 rfl (h:=dq 3 rfl (h:=dq 4 rfl (h:=dq 5 rfl (h:=dq 6 rfl (h:=dq 7 rfl (h:=?_))))))));refine dq 8 rfl (h:=dq 9 rfl (h:=dr 10 rfl (h:=dr 11 rfl (h:=dq 12 rfl (h:=?_)))));refine rd 13 rfl fun K hK=>?_;obtain⟨v0,v1,v2,hv⟩:=hHeld.2.2;have hc0:=hv.cellAt 0 (by simp);have hc1:=hv.cellAt 1 (by simp);have hc2:=hv.cellAt 2 (by simp);have hf0:=hv.frozen 0;have hf1:=hv.frozen 1;have hf2:=hv.frozen 2
     (try simp only[World.cell?_drew,World.frozen?_drew] at hc0 hc1 hc2 hf0 hf1 hf2)
     go_simp;refine ke hK ?_ ?_
     ·exact⟨((hHeld.1.setCell lr _).setCell lr _).setCell lr _,((hHeld.2.1.far hne _).far hne _).far hne _,by obtain⟨v0,v1,v2,hv⟩:=hHeld.2.2;exact⟨_,_,_,((hv.set_ 0 _).set_ 1 _).set_ 2 _⟩⟩
     clear hK K hHeld;intro hHeld;refine dq 14 rfl (h:=dq 15 rfl (h:=?_));refine dn ?_;go_wp2;exact bodyPost_ret (v:=.tuple #[.agg #[.int .i64 n1,.string b,.int .i64 n3],.int .i64 n4,.bool false]) (by simp[results,results161,go_sem,hc0,hc1,hc2]) rfl ⟨⟨n1,b,n3⟩,n4,false,rfl,(fun h=>by cases h),(fun _=>HO.out),hHeld.1⟩
    ·have r4:(zak d.data.toList).2=true:=by rw[zbi d4]
     have HO:=hid (show okEn ⟨numS a.data.toList,b,numS c.data.toList⟩=true->zbt s=some (⟨numS a.data.toList,b,numS c.data.toList⟩,numS d.data.toList) from fun h=>by rw[zbT he];exact zf9 d1 d3 d4 h);have HP:=hid (show okEn ⟨numS a.data.toList,b,numS c.data.toList⟩=false->zbt s=none from fun h=>by rw[zbT he];exact zkL h);have E1:=hid (zfm d1);have E3:=hid (zfm d3);have E4:=hid (zfm d4);go_enter func161,ntmps161
     go_wp2_with fail
     refine(zcE s 32 m _ hs hw0).mono ?_;rintro e w1 ⟨A,n,k,rfl,s1,b1⟩;have y1:=y0.on b1;have HB1:=hid (zac b0 b1 lr);clear b1 b0 hw0 hm;rw[he] at s1;obtain⟨rfl,g,rfl,c0,c1,c2,c3⟩:=zfX s1;clear s1
     go_wp2_with fail
     refine(za7 a _ (by omega) (zaw HT.out HB1.out) (zbk HV.out HB1.out)).mono ?_;rintro e w2 ⟨rfl,b2⟩;replace c1:=zaa b2 c1;replace c2:=zaa b2 c2;replace c3:=zaa b2 c3;have y2:=y1.on b2;have HB2:=hid (zac HB1.out b2 lr);clear b2 c0 y1
     go_wp2_with fail
     refine(za7 c _ (by omega) (zaw HT.out HB2.out) (zbk HV.out HB2.out)).mono ?_;rintro e w3 ⟨rfl,b3⟩;replace c1:=zaa b3 c1;replace c3:=zaa b3 c3;have y3:=y2.on b3;have HB3:=hid (zac HB2.out b3 lr);clear b3 c2 y2
     go_wp2_with fail
     refine(za7 d _ (by omega) (zaw HT.out HB3.out) (zbk HV.out HB3.out)).mono ?_;rintro e w4 ⟨rfl,b4⟩;replace c1:=zaa b4 c1;have y4:=y3.on b4;have HB4:=hid (zac HB3.out b4 lr);clear b4 c3 y3;have x1:=zbE a.data.toList;have x3:=zbE c.data.toList;obtain⟨n1,hn1⟩:∃v,(zak a.data.toList).1=v:=⟨_,rfl⟩
     obtain⟨n3,hn3⟩:∃v,(zak c.data.toList).1=v:=⟨_,rfl⟩
     obtain⟨n4,hn4⟩:∃v,(zak d.data.toList).1=v:=⟨_,rfl⟩
     simp only[hn1,hn3,hn4,r1,r3,r4] at x1 x3⊢;have HN1:=hid hn1;have HN3:=hid hn3;have HN4:=hid hn4;clear hn1 hn3 hn4;replace HO:=hid (show okEn ⟨n1,b,n3⟩=true->zbt s=some (⟨n1,b,n3⟩,n4) by rw[<-HN1.out,<-HN3.out,<-HN4.out,E1.out,E3.out,E4.out];exact HO.out);replace HP:=hid (show okEn ⟨n1,b,n3⟩=false->zbt s=none by rw[<-HN1.out,<-HN3.out,E1.out,E3.out];exact HP.out);have hxg:En.good ⟨n1,b,n3⟩:=⟨⟨by simp only;omega,by simp only;omega⟩,by simp only;omega,⟨by simp only;omega,by simp only;omega⟩⟩
     have hxs:En.small ⟨n1,b,n3⟩:=by unfold En.small;simp only;omega
     clear E1 E3 E4
     go_wp2_with fail
     obtain⟨wq,hwq⟩:∃y,w4.alloc (.cells #[.int .i64 n1,.string b,.int .i64 n3] 145)=y:=⟨_,rfl⟩
     have bq:Below w4.heap.size w4 wq:=by rw[<-hwq];exact bal _
     have yq:Blk wq w4.heap.size 145 #[.int .i64 n1,.string b,.int .i64 n3]:=by rw[<-hwq];exact Blk.new _ _ _
     rw[hwq];clear hwq;have yr:=y4.on bq;have HQ:=hid (zac HB4.out bq lr);have hne:w4.heap.size≠w.heap.size:=by have:=y4.lt;omega
     clear bq c1 y4
     go_wp2_with fail
     refine ez (fun W=>Below w.heap.size w W/\Blk W w4.heap.size 145 #[.int .i64 n1,.string b,.int .i64 n3]/\∃v0 v1 v2,Blk W w.heap.size 145 #[v0,v1,v2]) ?_ fun hHeld=>?_
     ·exact⟨HQ.out.drew,yq.drew,⟨_,_,_,yr.drew⟩⟩
     refine dq 0 rfl (hy:=by intro w hSw;(try dsimp only at hSw);obtain⟨e0,e1,e2⟩:=zaB hSw.2.1;go_simp;try with_reducible rfl) (h:=dq 1 rfl (h:=dq 2 rfl (h:=dq 3 rfl (h:=dq 4 rfl (h:=dq 5 rfl (h:=dq 6 rfl (h:=dq 7 rfl (h:=?_))))))));refine dq 8 rfl (h:=dq 9 rfl (h:=dq 10 rfl (hy:=by intro w hSw;(try dsimp only at hSw);obtain⟨e0,e1,e2⟩:=zaB hSw.2.1;go_simp;try with_reducible rfl) (h:=?_)));refine rd 11 rfl fun K hK=>?_;go_simp
     go_at_call 223
     refine(zcj ⟨n1,b,n3⟩ _ hxg hxs).mono ?_;rintro e w5 ⟨rfl,b5⟩
     go_wp2_with fail
     refine ke hK ?_ ?_
     ·exact⟨zac hHeld.1 b5 lr,hHeld.2.1.on b5,by obtain⟨v0,v1,v2,hv⟩:=hHeld.2.2;exact⟨v0,v1,v2,hv.on b5⟩⟩
     clear hK K hHeld;intro hHeld;refine dq 12 rfl (h:=?_);refine rd 13 rfl fun K hK=>?_;obtain⟨v0,v1,v2,hv⟩:=hHeld.2.2;have hc0:=hv.cellAt 0 (by simp);have hc1:=hv.cellAt 1 (by simp);have hc2:=hv.cellAt 2 (by simp);have hf0:=hv.frozen 0;have hf1:=hv.frozen 1;have hf2:=hv.frozen 2
     (try simp only[World.cell?_drew,World.frozen?_drew] at hc0 hc1 hc2 hf0 hf1 hf2)
     go_simp;refine ke hK ?_ ?_
     ·exact⟨((hHeld.1.setCell lr _).setCell lr _).setCell lr _,((hHeld.2.1.far hne _).far hne _).far hne _,by obtain⟨v0,v1,v2,hv⟩:=hHeld.2.2;exact⟨_,_,_,((hv.set_ 0 _).set_ 1 _).set_ 2 _⟩⟩
     clear hK K hHeld;intro hHeld;refine dq 14 rfl (h:=dq 15 rfl (h:=?_));refine dn ?_;go_wp2;exact bodyPost_ret (v:=.tuple #[.agg #[.int .i64 n1,.string b,.int .i64 n3],.int .i64 n4,.bool (okEn ⟨n1,b,n3⟩)]) (by simp[results,results161,go_sem,hc0,hc1,hc2]) rfl ⟨⟨n1,b,n3⟩,n4,(okEn ⟨n1,b,n3⟩),rfl,HO.out,HP.out,hHeld.1⟩
 ·have HO:=hid (ziN h4);go_enter func161,ntmps161
  go_wp2_with fail
  refine(zcE s 32 m _ hs hw0).mono ?_;rintro e w1 ⟨A,n,k,rfl,s1,b1⟩;have y1:=y0.on b1;have HB1:=hid (zac b0 b1 lr);clear b1 b0 hw0 hm;have hn:=s1.len;simp only[strs,List.length_map,Nat.mul_one] at hn;have hn4:((n:Int) !=4)=true:=by rw[bne_iff_ne];omega
  have hc0:=y1.cellAt 0 (by simp);have hc1:=y1.cellAt 1 (by simp);have hc2:=y1.cellAt 2 (by simp);have hf0:=y1.frozen 0;have hf1:=y1.frozen 1;have hf2:=y1.frozen 2;clear s1 y1;go_wp2;exact bodyPost_ret (v:=.tuple #[.agg #[.int .i64 0,.string ⟨#[]⟩,.int .i64 0],.int .i64 0,.bool false]) (by simp[results,results161,go_sem,hc0,hc1,hc2]) rfl ⟨⟨0,⟨#[]⟩,0⟩,0,false,rfl,(fun h=>by cases h),(fun _=>HO.out),((HB1.out.setCell lr _).setCell lr _).setCell lr _⟩
end Go.Proofs.YtjalgpioklcbfaaGreatDoor
