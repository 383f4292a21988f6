/- Steps of the proof. -/
import Derived.Test.YtjalgpioklcbfaaGreatDoorKMkE
import Derived.Test.YtjalgpioklcbfaaGreatDoorKWyP
set_option maxHeartbeats 4000000
set_option maxRecDepth 100000
set_option linter.unusedVariables false
set_option linter.unusedSimpArgs false
namespace Go.Proofs.YtjalgpioklcbfaaGreatDoor
section
open Go.RowKit Go.Lib Go.Proofs.Tryz
def net0:Nt:=⟨3,[⟨0,1,30⟩,⟨1,2,20⟩,⟨2,0,40⟩]⟩
def zgK:Dk:=⟨net0,[3,2,4],[],⟨#[]⟩⟩
def txt0:ByteArray:=⟨#[51,58,32,48,62,49,42,51,48,32,49,62,50,42,50,48,32,50,62,48,42,52,48]⟩
theorem zlI:netF txt0.data.toList=some net0:=by
 rw[show txt0.data.toList=ntL net0 by decide+kernel];exact zlH (by decide+kernel)
theorem zrb:netV txt0=net0:=zdr zlI
theorem OwnD.sizes{w:World}{lo hi:Nat}{h:DkH}{d:Dk}{rh:List RnH}(o:OwnD w lo hi h d rh):d.net.tubes.length=h.n1/\d.times.length=h.n2/\d.runs.length=h.n3:=by
 have h1:=o.tubes.len;have h2:=o.times.len;rw[zea] at h1;rw[za4] at h2;exact⟨by omega,by omega,o.runs.len⟩
theorem zb0 {u:World} {g:Nat} {t:TypeId} {a b c d e:Value} (y:Blk u g t #[a,b,c,d,e]) (v0 v1 v2 v3 v4:Value) :
  Blk (((((u.setCell ⟨g,0,none⟩ v0).setCell ⟨g,1,none⟩ v1).setCell ⟨g,2,none⟩ v2).setCell ⟨g,3,none⟩ v3).setCell ⟨g,4,none⟩ v4) g t #[v0,v1,v2,v3,v4]/\(((((u.setCell ⟨g,0,none⟩ v0).setCell ⟨g,1,none⟩ v1).setCell ⟨g,2,none⟩ v2).setCell ⟨g,3,none⟩ v3).setCell ⟨g,4,none⟩ v4).heap.size=u.heap.size/\Only g (g+1) u (((((u.setCell ⟨g,0,none⟩ v0).setCell ⟨g,1,none⟩ v1).setCell ⟨g,2,none⟩ v2).setCell ⟨g,3,none⟩ v3).setCell ⟨g,4,none⟩ v4):=by
 refine⟨?_,by simp[World.setCell],?_⟩
 ·have:=((((y.set_ 0 v0).set_ 1 v1).set_ 2 v2).set_ 3 v3).set_ 4 v4;simpa using this
 ·exact(((((Only.refl g (g+1) u).setCell (p:=⟨g,0,none⟩) lr (Nat.lt_succ_self _) v0).setCell (p:=⟨g,1,none⟩) lr (Nat.lt_succ_self _) v1).setCell (p:=⟨g,2,none⟩) lr (Nat.lt_succ_self _) v2).setCell (p:=⟨g,3,none⟩) lr (Nat.lt_succ_self _) v3).setCell (p:=⟨g,4,none⟩) lr (Nat.lt_succ_self _) v4
theorem Sl.keepOnly{w w':World}{lo hi lo' hi' size n c:Nat}{t:TypeId}{A:Option Addr}{xs:List Value}(h:Sl w lo hi t size A n c xs)(ho:Only lo' hi' w w')(hd:hi<=lo'\/hi'<=lo):Sl w' lo hi t size A n c xs:=h.apart ho hd
theorem zpL(w:World):Calls prog 39 #[] w fun e w'=>∃h:DkH,e= .returned (.agg #[.int .i64 3,.slice h.A1 h.n1 h.c1,.slice h.A2 h.n2 h.c2,.slice h.A3 h.n3 h.c3,.string ⟨#[]⟩])/\OwnD w' w.heap.size w'.heap.size h zgK []/\Below w.heap.size w w':=by
 go_enter func39,ntmps39
 go_upto_region 1 with fail
 obtain⟨u0,hu0⟩:∃y,w.alloc (.cells #[.int .i64 0,.slice none 0 0,.slice none 0 0,.slice none 0 0,.string ⟨#[]⟩] 32)=y:=⟨_,rfl⟩
 have y0:Blk u0 w.heap.size 32 #[.int .i64 0,.slice none 0 0,.slice none 0 0,.slice none 0 0,.string ⟨#[]⟩]:=by rw[<-hu0];exact Blk.new _ _ _
 have b0:Below w.heap.size w u0:=by rw[<-hu0];exact bal _
 have z0:u0.heap.size=w.heap.size+1:=by rw[<-hu0];simp
 rw[hu0];clear hu0
 go_upto_region 2 with fail
 obtain⟨u1,hu1,z1,k1,k2,b1⟩:=zcW u0 #[.int .i64 0,.int .i64 1,.int .i64 30,.int .i64 1,.int .i64 2,.int .i64 20,.int .i64 2,.int .i64 0,.int .i64 40] #[.int .i64 3,.slice (some ⟨w.heap.size+1,0,none⟩) 3 3] 101 28;rw[<-hu1];rw[z0] at k1 k2;have y1:=y0.on b1;have B1:=hid (zac b0 b1 lr);have c0:=k2.cellAt 0 (by simp);have c1:=k2.cellAt 1 (by simp);simp only[ly] at c0 c1;obtain⟨d0,d1,d2,d3,d4⟩:=zaq y1;obtain⟨f0,f1,f2,f3,f4⟩:=zbF y1;have K1:=hid k1;have Y1:=hid y1;clear hu1 y0 y1 b0 b1 k1 k2;go_wp2;obtain⟨q1,q2,q3⟩:=zb0 Y1.out (.int .i64 3) (.slice (some ⟨w.heap.size+1,0,none⟩) 3 3) (.slice (some ⟨w.heap.size+1+1+1,0,none⟩) 3 3) (.slice none 0 0) (.string ⟨#[]⟩);have bv:=zbN B1.out q3 lr lr
 have kv:=K1.out.keepOnly q3 (.inr lr);obtain⟨v,hv⟩:∃y,(((((u1.setCell ⟨w.heap.size,0,none⟩ (.int .i64 3)).setCell ⟨w.heap.size,1,none⟩ (.slice (some ⟨w.heap.size+1,0,none⟩) 3 3)).setCell ⟨w.heap.size,2,none⟩ (.slice (some ⟨w.heap.size+1+1+1,0,none⟩) 3 3)).setCell ⟨w.heap.size,3,none⟩ (.slice none 0 0)).setCell ⟨w.heap.size,4,none⟩ (.string ⟨#[]⟩))=y:=⟨_,rfl⟩
 rw[hv] at q1 q2 bv kv⊢;clear hv q3;have hvz:v.heap.size=w.heap.size+1+1+1:=by omega
 have yn:=Blk.new v 2 #[.int .i64 3,.int .i64 2,.int .i64 4];rw[hvz] at yn;have ya:=(q1.alloc (.cells #[.int .i64 3,.int .i64 2,.int .i64 4] 2))
 have yt:=(kv.alloc (.cells #[.int .i64 3,.int .i64 2,.int .i64 4] 2))
 have yb:=bv.alloc (by omega) (.cells #[.int .i64 3,.int .i64 2,.int .i64 4] 2);have yz:(v.alloc (.cells #[.int .i64 3,.int .i64 2,.int .i64 4] 2)).heap.size=w.heap.size+1+1+1+1:=by simp[hvz]
 have g0:=ya.cellAt 0 (by simp);have g1:=ya.cellAt 1 (by simp);have g2:=ya.cellAt 2 (by simp);have g3:=ya.cellAt 3 (by simp);have g4:=ya.cellAt 4 (by simp);obtain⟨z,hz⟩:∃y,v.alloc (.cells #[.int .i64 3,.int .i64 2,.int .i64 4] 2)=y:=⟨_,rfl⟩
 rw[hz] at g0 g1 g2 g3 g4 yn ya yt yb yz⊢;refine bodyPost_ret (v:=.agg #[.int .i64 3,.slice (some ⟨w.heap.size+1,0,none⟩) 3 3,.slice (some ⟨w.heap.size+1+1+1,0,none⟩) 3 3,.slice none 0 0,.string ⟨#[]⟩]) (by simp[results,results39,go_sem,g0,g1,g2,g3,g4]) rfl ⟨⟨some ⟨w.heap.size+1,0,none⟩,3,3,some ⟨w.heap.size+1+1+1,0,none⟩,3,3,none,0,0⟩,rfl,⟨?_,?_,OwnR.nil _ _ _,?_,?_,?_⟩,yb⟩
 ·exact Sl.of_blk (xs:=tbs net0.tubes) yt (by omega) (by rw[yz];omega) rfl (by show 3<=maxLen;decide)
 ·exact Sl.of_blk (xs:=ints [3,2,4]) yn (by omega) (by rw[yz];omega) rfl (by show 3<=maxLen;decide)
 ·rintro b ⟨_,h1,rfl⟩ ⟨_,h2,h3⟩;injection h1 with h1;injection h2 with h2;subst h1 h2;simp only at h3;omega
 ·rintro b _ (hb|⟨i,x,hx,_⟩)
  ·exact zb4 hb
  ·simp at hx
 ·rintro b _ (hb|⟨i,x,hx,_⟩)
  ·exact zb4 hb
  ·simp at hx
theorem zjM(m:Int)(w:World)(hm:w.cell? ⟨1,0,none⟩=some (.int .i64 m))(ht:TabP w)(hs:SynP w):Calls prog 8 #[] w fun e w'=>∃h:DkH,e= .returned (.agg #[.int .i64 3,.slice h.A1 h.n1 h.c1,.slice h.A2 h.n2 h.c2,.slice h.A3 h.n3 h.c3,.string ⟨#[]⟩])/\OwnD w' w.heap.size w'.heap.size h zgK []/\Below w.heap.size w w':=by
 go_enter func8,ntmps8
 go_upto_region 1 with fail
 obtain⟨u0,hu0⟩:∃y,w.alloc (.cells #[.int .i64 0,.slice none 0 0,.slice none 0 0,.slice none 0 0,.string ⟨#[]⟩] 32)=y:=⟨_,rfl⟩
 have y0:Blk u0 w.heap.size 32 #[.int .i64 0,.slice none 0 0,.slice none 0 0,.slice none 0 0,.string ⟨#[]⟩]:=by rw[<-hu0];exact Blk.new _ _ _
 have b0:Below w.heap.size w u0:=by rw[<-hu0];exact bal _
 have z0:u0.heap.size=w.heap.size+1:=by rw[<-hu0];simp
 rw[hu0];clear hu0;have B0:=hid b0;have Y0:=hid y0;have HM:=hid (zaa b0 hm);have HT:=hid (zaw ht b0);have HS:=hid (zbk hs b0);clear hm ht hs b0 y0
 go_wp2_with fail
 refine(zgh txt0 m u0 (by decide) HM.out HT.out HS.out).mono ?_;rintro e w1 ⟨A,n,c,rfl,s1,b1⟩;rw[zrb] at s1⊢;rw[zlI,show net0.sta=3 from rfl];rw[show(some net0).isSome=true from rfl];have B1:=hid (zac B0.out b1 lr);have Y1:=hid (Y0.out.on b1);have S1:=hid s1;have zz1:u0.heap.size<=w1.heap.size:=b1.size;clear b1 s1
 go_upto_region 2 with fail
 obtain⟨u1,hu1⟩:∃y,w1.alloc (.cells #[.int .i64 3,.slice A n c] 28)=y:=⟨_,rfl⟩
 have k1:Blk u1 w1.heap.size 28 #[.int .i64 3,.slice A n c]:=by rw[<-hu1];exact Blk.new _ _ _
 have b1:Below w1.heap.size w1 u1:=by rw[<-hu1];exact bal _
 have z1:u1.heap.size=w1.heap.size+1:=by rw[<-hu1];simp
 rw[hu1];have y1:=Y1.out.on b1;have B2:=hid (zac B1.out b1 lr);have Y2:=hid y1;have S2:=hid (S1.out.on b1);have c0:=k1.cellAt 0 (by simp);have c1:=k1.cellAt 1 (by simp);have d0:=y1.cellAt 0 (by simp);have d1:=y1.cellAt 1 (by simp);have d2:=y1.cellAt 2 (by simp);have d3:=y1.cellAt 3 (by simp);have d4:=y1.cellAt 4 (by simp);simp only[ly] at c0 c1 d0 d1 d2 d3 d4;obtain⟨f0,f1,f2,f3,f4⟩:=zbF y1;have yl:=y1.lt;have Z1:=hid z1;have Z0:=hid z0;clear hu1 k1 b1 y1 z1 z0;go_wp2;have z0:=Z0.out;have z1:=Z1.out;obtain⟨q1,q2,q3⟩:=zb0 Y2.out (.int .i64 3) (.slice A n c) (.slice (some ⟨u1.heap.size,0,none⟩) 3 3) (.slice none 0 0) (.string ⟨#[]⟩);have bv:=zbN B2.out q3 lr lr
 have sv:=S2.out.apart q3 (.inr (by omega));obtain⟨v,hv⟩:∃y,(((((u1.setCell ⟨w.heap.size,0,none⟩ (.int .i64 3)).setCell ⟨w.heap.size,1,none⟩ (.slice A n c)).setCell ⟨w.heap.size,2,none⟩ (.slice (some ⟨u1.heap.size,0,none⟩) 3 3)).setCell ⟨w.heap.size,3,none⟩ (.slice none 0 0)).setCell ⟨w.heap.size,4,none⟩ (.string ⟨#[]⟩))=y:=⟨_,rfl⟩
 rw[hv] at q1 q2 bv sv⊢;clear hv q3;have yn:=Blk.new v 2 #[.int .i64 3,.int .i64 2,.int .i64 4];rw[q2] at yn;have ya:=(q1.alloc (.cells #[.int .i64 3,.int .i64 2,.int .i64 4] 2))
 have yt:=sv.on ((Below.refl v.heap.size v).alloc lr (.cells #[.int .i64 3,.int .i64 2,.int .i64 4] 2));have yb:=bv.alloc (by omega) (.cells #[.int .i64 3,.int .i64 2,.int .i64 4] 2);have yz:(v.alloc (.cells #[.int .i64 3,.int .i64 2,.int .i64 4] 2)).heap.size=u1.heap.size+1:=by simp[q2]
 have g0:=ya.cellAt 0 (by simp);have g1:=ya.cellAt 1 (by simp);have g2:=ya.cellAt 2 (by simp);have g3:=ya.cellAt 3 (by simp);have g4:=ya.cellAt 4 (by simp);obtain⟨z,hz⟩:∃y,v.alloc (.cells #[.int .i64 3,.int .i64 2,.int .i64 4] 2)=y:=⟨_,rfl⟩
 rw[hz] at g0 g1 g2 g3 g4 yn ya yt yb yz⊢;refine bodyPost_ret (v:=.agg #[.int .i64 3,.slice A n c,.slice (some ⟨u1.heap.size,0,none⟩) 3 3,.slice none 0 0,.string ⟨#[]⟩]) (by simp[results,results8,go_sem,g0,g1,g2,g3,g4]) rfl ⟨⟨A,n,c,some ⟨u1.heap.size,0,none⟩,3,3,none,0,0⟩,rfl,⟨?_,?_,OwnR.nil _ _ _,?_,?_,?_⟩,yb⟩
 ·exact yt.wide (by omega) (by omega)
 ·exact Sl.of_blk (xs:=ints [3,2,4]) yn (by omega) (by rw[yz];omega) rfl (by show 3<=maxLen;decide)
 ·rintro b hb ⟨_,h2,h3⟩;have:=sv.inB_lt hb;injection h2 with h2;subst h2;simp only at h3;omega
 ·rintro b _ (hb|⟨i,x,hx,_⟩)
  ·exact zb4 hb
  ·simp at hx
 ·rintro b _ (hb|⟨i,x,hx,_⟩)
  ·exact zb4 hb
  ·simp at hx
theorem zen{l:List Int}{i:Nat}(h:i<l.length):l[i]?=some (at0 l (i:Int)):=by
 unfold at0;rw[Int.toNat_natCast,List.getD_eq_getElem?_getD,List.getElem?_eq_getElem h];rfl
theorem Blk.intAt{w:World}{g:Nat}{l:List Int}(h:Blk w g 2 (ints l).toArray){i:Nat}(hi:i<l.length):w.cell? ⟨g,i,none⟩=some (.int .i64 (at0 l (i:Int))):=by
 rw[h.cell,List.getElem?_toArray];exact zeK (zen hi)
theorem zid{L:List Int}{t:Tb}(h:at0 L t.to_<0):zar L t=L:=by unfold zar;rw[if_pos h]
theorem zie{L:List Int}{t:Tb}(h:¬at0 L t.to_<0)(h2:¬at0 L t.from_<0)(h3:¬at0 L t.to_+t.len<at0 L t.from_):zar L t=L:=by unfold zar;rw[if_neg h,if_neg (by omega)]
theorem zf4{L:List Int}{t:Tb}(h:¬at0 L t.to_<0)(h2:at0 L t.from_<0\/at0 L t.to_+t.len<at0 L t.from_):zar L t=L.set t.from_.toNat (at0 L t.to_+t.len):=by unfold zar;rw[if_neg h,if_pos h2]
theorem zjI{l:List Tb}{k:Nat}{t:Tb}(h:l[k]?=some t)(x:List Int):(l.take (k+1)).foldl zar x=zar ((l.take k).foldl zar x) t:=by
 rw[List.take_add_one,h,Option.toList_some,List.foldl_append];rfl
theorem zqE(l:List Tb)(x:List Int):(l.foldl zar x).length=x.length:=zei l x
theorem zmo (A:Option Addr) (n c B:Nat) (x:Nt) (to_:Nat) (w:World) (h:zad w B 3 A n (tbs x.tubes)) (hB:B <= w.heap.size) (ho:okNt x = true) (h1:(to_:Int) < x.sta) :
  Calls prog 144 #[.agg #[.int .i64 x.sta,.slice A n c],.int .i64 (to_:Int),.int .i64 (-1)] w fun e w'=>∃g,e= .returned (.slice (some ⟨g,0,none⟩) x.sta.toNat x.sta.toNat)/\Blk w' g 2 (ints (farF x to_)).toArray/\w.heap.size<=g/\Below w.heap.size w w':=by
 obtain⟨k1,k2,k3,k4⟩:=zbx ho;obtain⟨s,hs⟩:=Int.eq_ofNat_of_zero_le (show 0<=x.sta by omega);have hs':x.sta.toNat=s:=by omega
 have HF:=hid (show farF x to_=zaA x.tubes s (far0 s to_) by unfold farF;rw[hs']);have HX4:=hid k4;rw[hs'] at HX4;rw[hs',hs];have hln:x.tubes.length=n:=zbW h;have HL:=hid hln;have hn24:n<=24:=by omega
 have hs10:s<=10:=by omega
 have hs2:2<=s:=by omega
 have hto:to_<s:=by omega
 have hx24:=hid k3;obtain⟨W,hW,y0,hb⟩:∃W,W=w.alloc (.cells #[.int .i64 (s:Int),.slice A n c] 28)/\Blk W w.heap.size 28 #[.int .i64 (s:Int),.slice A n c]/\Below w.heap.size w W:=⟨_,rfl,Blk.new _ _ _,bal _⟩
 have HW:=hid hW;have HB0:=hid hb;have HY0:=hid y0;have HR:=hid h;clear hW hb y0 h k4 k3 k1 k2 hs hs' hln ho h1;go_enter func144,ntmps144
 go_upto_region 1 with fail
 rw[<-HW.out];obtain⟨u1,hu1⟩:∃y,W.alloc (.cells #[.int .i64 (-1)] 2)=y:=⟨_,rfl⟩
 have yv:Blk u1 W.heap.size 2 #[.int .i64 (-1)]:=by rw[<-hu1];exact Blk.new _ _ _
 have bu1:Below W.heap.size W u1:=by rw[<-hu1];exact bal _
 have cW:=(HY0.out.on bu1).cellAt 0 (by simp);simp only[List.getElem_toArray,List.getElem_cons_zero] at cW
 go_wp2_with fail
 refine(zoA s W.heap.size 1 (-1) u1 (by omega) (by omega) (yv.cellAt 0 (by simp))).mono ?_;rintro e w2 ⟨rfl,y2,b2⟩;obtain⟨g,hg⟩:∃q,u1.heap.size=q:=⟨_,rfl⟩
 have hgW:W.heap.size<g:=by rw[<-hg];exact yv.lt
 rw[hg] at y2⊢;have HB2:=hid (zac (zac HB0.out bu1 lr) b2 lr);have HY2:=hid ((HY0.out.on bu1).on b2);have H2:=hid y2;have c2:=y2.intAt (i:=to_) (by simpa using hto);have f2:=y2.frozen to_;have hwg:w.heap.size<g:=by have:=HY0.out.lt;omega
 have HWG:=hid hwg;clear hu1 yv bu1 cW y2 b2 hg;have hto0:(0:Int)<=to_:=by omega
 have hts:(to_:Int)<s:=by omega
 go_upto_region 3 with fail
 obtain⟨w3,hw3⟩:∃y,w2.setCell ⟨g,to_,none⟩ (.int .i64 0)=y:=⟨_,rfl⟩
 have y3:Blk w3 g 2 (ints (far0 s to_)).toArray:=by
  rw[<-hw3];exact zdI H2.out to_ 0
 have o3:Only g (g+1) w2 w3:=by rw[<-hw3];exact(Only.refl g (g+1) w2).setCell (p:=⟨g,to_,none⟩) lr (Nat.lt_succ_self _) _
 rw[hw3];have HB3:=hid (zbN HB2.out o3 (by omega) lr);have HY3:=hid (HY2.out.keepOnly o3 (.inl hwg));have H3:=hid y3;have hlab0:=zgO (n:=s) (l:=x.tubes) hto0 hts;have HLAB:=hid hlab0;clear hw3 y3 o3 c2 f2 hlab0;have cs:=HY3.out.cellAt 0 (by simp);simp only[List.getElem_toArray,List.getElem_cons_zero] at cs
 go_wp2_with fail
 go_loopw [20] (fun i wr=>∃k:Nat,k<=s/\i= .int .i64 k/\Blk wr g 2 (ints (zaA x.tubes k (far0 s to_))).toArray/\Only g (g+1) w3 wr) (fun i _=>s-(RowKit.intOf i).toNat)
 case atStart=>exact⟨0,Nat.zero_le _,rfl,H3.out,Only.refl _ _ _⟩
 case round=>
  obtain⟨k,hk,rfl,hy,ho⟩:=hrel;have HY:=hid hy;have HO:=hid ho;have HBr:=hid (zbN HB3.out ho (by have:=HWG.out;omega) lr);have HYb:=hid (HY3.out.keepOnly ho (.inl HWG.out));clear hy ho cs;by_cases hlt:k<s
  ·have hk0:(0:Int)<=k:=by omega
   have hks:(k:Int)<s:=by omega
   have hks':(k:Int)<=10:=by omega
   have cA:=HYb.out.cellAt 1 (by simp);simp only[ly] at cA;have hnat:=HLAB.out;have HLk:=hid (Lab.iter hto0 HX4.out k HLAB.out);have HBk:=hid (zfJ (l:=x.tubes) hto0 hts HX4.out hx24.out k);obtain⟨L,hL⟩:∃L,zaA x.tubes k (far0 s to_)=L:=⟨_,rfl⟩
   have HEL:=hid hL;rw[hL] at HY HLk HBk;clear hL hnat
   go_wp2_with fail
   go_loopw [25] (fun i wq=>∃j:Nat,j<=n/\i= .int .i64 j/\Blk wq g 2 (ints ((x.tubes.take j).foldl zar L)).toArray/\Only g (g+1) wr wq) (fun i _=>n-(RowKit.intOf i).toNat)
   case atStart=>exact⟨0,Nat.zero_le _,rfl,by simpa using HY.out,Only.refl _ _ _⟩
   case round=>
    rename World=>wq
    obtain⟨j,hj,rfl,hy,ho⟩:=hrel;have HQ:=hid hy;have HOq:=hid ho;have HBq:=hid (zbN HBr.out ho (by have:=HWG.out;omega) lr);clear hy ho cA;by_cases hjt:j<n
    ·obtain⟨t,b,off,he,rfl,hb,q0,q1,q2⟩:=zdD (HR.out.on hB HBq.out) hjt;obtain⟨t1,t2,t3,t4,t5,t6,t7⟩:=HX4.out t (List.mem_of_getElem? he);obtain⟨a,ha⟩:=Int.eq_ofNat_of_zero_le t1;obtain⟨d,hd⟩:=Int.eq_ofNat_of_zero_le t3;have hac:a<s:=by omega
     have hdc:d<s:=by omega
     have HLq:=hid (zgg hto0 HX4.out (x.tubes.take j) L (fun t ht=>List.mem_of_mem_take ht) HLk.out);have HBl:=hid (zgS (x.tubes.take j) L (48000*k) HLk.out.len (fun t ht=>HX4.out t (List.mem_of_mem_take ht)) HBk.out (by omega));have HST:=hid (zjI (x:=L) he);obtain⟨M,hM⟩:∃M,(x.tubes.take j).foldl zar L=M:=⟨_,rfl⟩
     rw[hM] at HQ HLq HBl HST;have hML:M.length=s:=HLq.out.len;have va:=HQ.out.intAt (i:=a) (by omega);have vd:=HQ.out.intAt (i:=d) (by omega);have fa:=HQ.out.frozen a;have ba:=HBl.out a (by omega);have bd:=HBl.out d (by omega);have sd:=HLq.out.sign d (by omega);have htk:(x.tubes.take j).length<=24:=by rw[List.length_take];have:=hx24.out;omega
     have HEA:=hid ha;have HED:=hid hd;rw[ha] at q0;rw[hd] at q1;obtain⟨pa,hpa⟩:∃q,at0 M (a:Int)=q:=⟨_,rfl⟩
     obtain⟨pd,hpd⟩:∃q,at0 M (d:Int)=q:=⟨_,rfl⟩
     rw[hpa] at va ba;rw[hpd] at vd bd sd;have HPA:=hid hpa;have HPD:=hid hpd;obtain⟨ln,hln⟩:∃q,t.len=q:=⟨_,rfl⟩
     have HLN:=hid hln;rw[hln] at q2 t6 t7;have hj0:(0:Int)<=j:=by omega
     have hjn:(j:Int)<n:=by omega
     have hjm:((j:Int)==-1)=false:=by rw[beq_eq_false_iff_ne];omega
     have ha0:(0:Int)<=a:=by omega
     have has:(a:Int)<s:=by omega
     have hd0:(0:Int)<=d:=by omega
     have hds:(d:Int)<s:=by omega
     have hpdb:pd<=1000000:=by omega
     have hpdm:-1<=pd:=by omega
     clear he ha hd hM hML hpa hpd hln t1 t2 t3 t4 t5 bd ba sd htk
     go_upto_region 8 with fail
     obtain⟨u,hu⟩:∃y,wq.alloc (.cells #[.int .i64 (a:Int),.int .i64 (d:Int),.int .i64 ln] 101)=y:=⟨_,rfl⟩
     have yu:Blk u wq.heap.size 101 #[.int .i64 (a:Int),.int .i64 (d:Int),.int .i64 ln]:=by rw[<-hu];exact Blk.new _ _ _
     have bu:Below wq.heap.size wq u:=by rw[<-hu];exact bal _
     rw[hu];have p0:=yu.cellAt 0 (by simp);have p1:=yu.cellAt 1 (by simp);have p2:=yu.cellAt 2 (by simp);simp only[ly] at p0 p1 p2;replace va:=zaa bu va;replace vd:=zaa bu vd;have HOu:=hid (HOq.out.trans (Only.of_below bu _ _));have HQu:=hid (HQ.out.on bu);have fau:=HQu.out.frozen a;clear hu bu q0 q1 q2 fa yu;by_cases hp:pd<0
     ·have hpt:decide (pd<0)=true:=decide_eq_true hp;have HK:=hid (show zar M t=M from zid (by rw[HED.out,HPD.out];omega));go_wp2
      go_roundw
      case rel=>exact⟨j+1,by omega,by go_num,by rw[HST.out,HK.out];exact HQu.out,HOu.out⟩
      case measure=>simp[RowKit.intOf];omega
     ·have hpt:decide (pd<0)=false:=decide_eq_false hp
      have hwr:IntKind.i64.wrap (pd+ln)=pd+ln:=by
       unfold IntKind.wrap;simp[IntKind.bits,IntKind.signed];omega
      go_wp2_with fail
      go_quiet (fail)
      rename_i nq;obtain⟨v,hv⟩:∃y,u.drewN nq=y:=⟨_,rfl⟩
      have HQv:=hid (show Blk v g 2 (ints M).toArray by rw[<-hv];exact HQu.out);have HOv:=hid (show Only g (g+1) wr v by rw[<-hv];exact HOu.out.drewN _);change (u.drewN nq).cell? _=_ at p0;rw[hv] at p0;change (u.drewN nq).cell? _=_ at p1;rw[hv] at p1;change (u.drewN nq).cell? _=_ at p2;rw[hv] at p2;change (u.drewN nq).cell? _=_ at va;rw[hv] at va;change (u.drewN nq).cell? _=_ at vd;rw[hv] at vd;change (u.drewN nq).frozen? _=_ at fau;rw[hv] at fau;rw[hv];clear hv;by_cases hpa:pa<0
      ·have hat:decide (pa<0)=true:=decide_eq_true hpa;have HK:=hid (show zar M t=M.set a (pd+ln) by rw[zf4 (by rw[HED.out,HPD.out];omega) (by rw[HEA.out,HED.out,HPA.out,HPD.out,HLN.out];omega),HED.out,HPD.out,HLN.out,HEA.out];rfl);go_wp2
       go_roundw
       case rel=>exact⟨j+1,by omega,by go_num,by rw[HST.out,HK.out];exact zdI HQv.out a _,HOv.out.setCell (p:=⟨g,a,none⟩) lr (Nat.lt_succ_self _) _⟩
       case measure=>simp[RowKit.intOf];omega
      ·have hat:decide (pa<0)=false:=decide_eq_false hpa;by_cases hlt2:pd+ln<pa
       ·have hbt:decide (pd+ln<pa)=true:=decide_eq_true hlt2;have HK:=hid (show zar M t=M.set a (pd+ln) by rw[zf4 (by rw[HED.out,HPD.out];omega) (by rw[HEA.out,HED.out,HPA.out,HPD.out,HLN.out];omega),HED.out,HPD.out,HLN.out,HEA.out];rfl);go_wp2
        go_roundw
        case rel=>exact⟨j+1,by omega,by go_num,by rw[HST.out,HK.out];exact zdI HQv.out a _,HOv.out.setCell (p:=⟨g,a,none⟩) lr (Nat.lt_succ_self _) _⟩
        case measure=>simp[RowKit.intOf];omega
       ·have hbt:decide (pd+ln<pa)=false:=decide_eq_false hlt2;have HK:=hid (show zar M t=M from zie (by rw[HED.out,HPD.out];omega) (by rw[HEA.out,HPA.out];omega) (by rw[HEA.out,HED.out,HPA.out,HPD.out,HLN.out];omega));go_wp2
        go_roundw
        case rel=>exact⟨j+1,by omega,by go_num,by rw[HST.out,HK.out];exact HQv.out,HOv.out⟩
        case measure=>simp[RowKit.intOf];omega
    ·obtain rfl:j=n:=by omega
     have HFL:=hid (show(x.tubes.take j).foldl zar L=zaA x.tubes (k+1) (far0 s to_) by
      rw[<-HL.out,List.take_length,zc0,HEL.out];rfl)
     go_wp2
     go_roundw
     case rel=>exact⟨k+1,by omega,by go_num,by rw[<-HFL.out];exact HQ.out,HO.out.trans HOq.out⟩
     case measure=>simp[RowKit.intOf];omega
  ·obtain rfl:k=s:=by omega
   go_wp2;go_ret;exact⟨g,rfl,by rw[HF.out];exact HY.out,by have:=HWG.out;omega,HBr.out⟩
end
section
open Go.RowKit
def hdr(m g:Nat):Value:=.slice (some ⟨g,0,none⟩) m m
def hdrs(m:Nat)(gs:List Nat):List Value:=gs.map (hdr m)
theorem zoq(m:Nat)(gs:List Nat):(hdrs m gs).length=gs.length:=by simp[hdrs]
theorem zsb{m k g:Nat}{gs:List Nat}(h:gs[k]?=some g):(hdrs m gs)[k]?=some (.slice (some ⟨g,0,none⟩) m m):=by simp[hdrs,h,hdr]
structure Mat (w:World) (lo hi m:Nat) (t:TypeId) (gs:List Nat) (R:Nat->List Int):Prop where
 nodup:gs.Nodup
 row:∀(k g:Nat),gs[k]?=some g->lo<=g/\g<hi/\(R k).length=m/\Blk w g t (ints (R k)).toArray
section
variable {w w':World}{lo hi lo' hi' m:Nat}{t:TypeId}{gs:List Nat}{R R':Nat->List Int}
theorem Mat.nil(w:World)(lo hi m:Nat)(t:TypeId)(R:Nat->List Int):Mat w lo hi m t [] R:=⟨List.nodup_nil,fun k g h=>by simp at h⟩
theorem Mat.keep(h:Mat w lo hi m t gs R)(hk:∀g,g∈gs->w'.heap[g]?=w.heap[g]?):Mat w' lo hi m t gs R:=
 ⟨h.nodup,fun k g hg=>by obtain⟨a,b,c,d⟩:=h.row k g hg;exact⟨a,b,c,(hk g (List.mem_of_getElem? hg)).trans d⟩⟩
theorem Mat.mem(h:Mat w lo hi m t gs R){g:Nat}(hg:g∈gs):lo<=g/\g<hi/\g<w.heap.size:=by
 obtain⟨k,hk,rfl⟩:=List.mem_iff_getElem.1 hg;obtain⟨a,b,_,d⟩:=h.row k _ (List.getElem?_eq_getElem hk);exact⟨a,b,d.lt⟩
theorem Mat.on(h:Mat w lo hi m t gs R)(hb:Below w.heap.size w w'):Mat w' lo hi m t gs R:=h.keep fun g hg=>hb.block g (h.mem hg).2.2
theorem Mat.wide(h:Mat w lo hi m t gs R)(h1:lo'<=lo)(h2:hi<=hi'):Mat w lo' hi' m t gs R:=
 ⟨h.nodup,fun k g hg=>by obtain⟨a,b,c,d⟩:=h.row k g hg;exact⟨by omega,by omega,c,d⟩⟩
theorem Mat.snoc(h:Mat w lo hi m t gs R){g:Nat}(hg:g∉gs)(h1:lo<=g)(h2:g<hi)(hm:(R gs.length).length=m)(hb:Blk w g t (ints (R gs.length)).toArray):Mat w lo hi m t (gs++ [g]) R:=by
 refine⟨?_,fun k g' hk=>?_⟩
 ·rw[List.nodup_append];refine⟨h.nodup,by simp,?_⟩;intro a ha b hb' e;simp at hb';subst hb' e;exact hg ha
 ·by_cases e:k<gs.length
  ·rw[List.getElem?_append_left e] at hk;exact h.row k g' hk
  ·rw[List.getElem?_append_right (by omega)] at hk
   have hk0:k-gs.length=0:=by
    rcases Nat.eq_zero_or_pos (k-gs.length) with h0|h0
    ·exact h0
    ·rw[List.getElem?_eq_none (by simp;omega)] at hk;cases hk
   rw[hk0] at hk;simp at hk;subst hk;obtain rfl:k=gs.length:=by omega
   exact⟨h1,h2,hm,hb⟩
end
def Sq(w:World)(lo hi m:Nat)(t tt:TypeId)(A:Option Addr)(n c:Nat)(gs:List Nat)(R:Nat->List Int):Prop:=
 Sl w lo hi tt 1 A n c (hdrs m gs)/\Mat w lo hi m t gs R/\∀ad,A=some ad->ad.block∉gs
section
variable {w w':World}{lo hi lo' hi' m n c:Nat}{t tt:TypeId}{A:Option Addr}{gs:List Nat}{R R':Nat->List Int}
theorem Sq.on(h:Sq w lo hi m t tt A n c gs R)(hb:Below w.heap.size w w'):Sq w' lo hi m t tt A n c gs R:=⟨h.1.on hb,h.2.1.on hb,h.2.2⟩
theorem Sq.len(h:Sq w lo hi m t tt A n c gs R):gs.length=n:=by have:=h.1.len;rw[zoq] at this;omega
theorem Sq.head(h:Sq w lo hi m t tt A n c gs R){k:Nat}(hk:k<n):∃go g,A=some ⟨go,0,none⟩/\gs[k]?=some g/\w.cell? ⟨go,k,none⟩=some (.slice (some ⟨g,0,none⟩) m m)/\lo<=g/\g<hi/\g<w.heap.size/\go<w.heap.size:=by
 obtain⟨go,rfl,_,_,hlt⟩:=h.1.lt (by omega);have hg:gs[k]?=some (gs[k]'(by rw[h.len];exact hk)):=List.getElem?_eq_getElem _;obtain⟨a,b,_,d⟩:=h.2.1.row k _ hg;exact⟨go,_,rfl,hg,by rw[h.1.cellAt k (by omega)];exact zsb hg,a,b,d.lt,hlt⟩
end
end
section
open Go.RowKit Go.Lib Go.Proofs.Tryz
def zb9:List ByteArray:=[⟨#[101,110,116,101,114]⟩,⟨#[102,114,101,101]⟩,⟨#[108,111,103]⟩,⟨#[110,101,116]⟩,⟨#[113,117,101,117,101]⟩,⟨#[114,117,110]⟩,⟨#[114,117,110,115]⟩,⟨#[115,101,97,114,99,104]⟩,⟨#[115,116,117,99,107]⟩,⟨#[116,105,109,101,115]⟩,⟨#[119,97,121]⟩]
def shp(s:ByteArray):ByteArray:=
 if (s.toList==[110,101,116])=true then ⟨#[43]⟩ else if (s.toList==[116,105,109,101,115])=true then ⟨#[42]⟩ else if (s.toList==[113,117,101,117,101])=true then ⟨#[42]⟩ else if (s.toList==[119,97,121])=true then ⟨#[110,110]⟩ else if (s.toList==[114,117,110])=true then ⟨#[110,42]⟩ else if (s.toList==[115,101,97,114,99,104])=true then ⟨#[110,42]⟩ else if (s.toList==[115,116,117,99,107])=true then ⟨#[110,42]⟩ else if (s.toList==[102,114,101,101])=true then ⟨#[110,110,110]⟩ else if (s.toList==[101,110,116,101,114])=true then ⟨#[110,119,110]⟩ else ⟨#[]⟩
theorem zml (s:ByteArray) (w:World) :
  Calls prog 28 #[.string s] w fun e w'=>e= .returned (.string (shp s))/\w'=w:=by
 rcases e0:(s.toList==[110,101,116]) with _|_;rotate_left
 ·have HO:=hid (show shp s=⟨#[43]⟩ by unfold shp;rw[if_pos e0]);go_enter func28,ntmps28;go_wp2;go_ret;exact⟨by rw[HO.out];rfl,rfl⟩
 rcases e1:(s.toList==[116,105,109,101,115]) with _|_;rotate_left
 ·have HO:=hid (show shp s=⟨#[42]⟩ by unfold shp;rw[if_neg (by rw[e0];decide),if_pos e1]);go_enter func28,ntmps28;go_wp2;go_ret;exact⟨by rw[HO.out];rfl,rfl⟩
 rcases e2:(s.toList==[113,117,101,117,101]) with _|_;rotate_left
 ·have HO:=hid (show shp s=⟨#[42]⟩ by unfold shp;rw[if_neg (by rw[e0];decide),if_neg (by rw[e1];decide),if_pos e2]);go_enter func28,ntmps28;go_wp2;go_ret;exact⟨by rw[HO.out];rfl,rfl⟩
 rcases e3:(s.toList==[119,97,121]) with _|_;rotate_left
 ·have HO:=hid (show shp s=⟨#[110,110]⟩ by unfold shp;rw[if_neg (by rw[e0];decide),if_neg (by rw[e1];decide),if_neg (by rw[e2];decide),if_pos e3]);go_enter func28,ntmps28;go_wp2;go_ret;exact⟨by rw[HO.out];rfl,rfl⟩
 rcases e4:(s.toList==[114,117,110]) with _|_;rotate_left
 ·have HO:=hid (show shp s=⟨#[110,42]⟩ by unfold shp;rw[if_neg (by rw[e0];decide),if_neg (by rw[e1];decide),if_neg (by rw[e2];decide),if_neg (by rw[e3];decide),if_pos e4]);go_enter func28,ntmps28;go_wp2;go_ret;exact⟨by rw[HO.out];rfl,rfl⟩
 rcases e5:(s.toList==[115,101,97,114,99,104]) with _|_;rotate_left
 ·have HO:=hid (show shp s=⟨#[110,42]⟩ by unfold shp;rw[if_neg (by rw[e0];decide),if_neg (by rw[e1];decide),if_neg (by rw[e2];decide),if_neg (by rw[e3];decide),if_neg (by rw[e4];decide),if_pos e5]);go_enter func28,ntmps28;go_wp2;go_ret;exact⟨by rw[HO.out];rfl,rfl⟩
 rcases e6:(s.toList==[115,116,117,99,107]) with _|_;rotate_left
 ·have HO:=hid (show shp s=⟨#[110,42]⟩ by unfold shp;rw[if_neg (by rw[e0];decide),if_neg (by rw[e1];decide),if_neg (by rw[e2];decide),if_neg (by rw[e3];decide),if_neg (by rw[e4];decide),if_neg (by rw[e5];decide),if_pos e6]);go_enter func28,ntmps28;go_wp2;go_ret;exact⟨by rw[HO.out];rfl,rfl⟩
 rcases e7:(s.toList==[102,114,101,101]) with _|_;rotate_left
 ·have HO:=hid (show shp s=⟨#[110,110,110]⟩ by unfold shp;rw[if_neg (by rw[e0];decide),if_neg (by rw[e1];decide),if_neg (by rw[e2];decide),if_neg (by rw[e3];decide),if_neg (by rw[e4];decide),if_neg (by rw[e5];decide),if_neg (by rw[e6];decide),if_pos e7]);go_enter func28,ntmps28;go_wp2;go_ret;exact⟨by rw[HO.out];rfl,rfl⟩
 rcases e8:(s.toList==[101,110,116,101,114]) with _|_;rotate_left
 ·have HO:=hid (show shp s=⟨#[110,119,110]⟩ by unfold shp;rw[if_neg (by rw[e0];decide),if_neg (by rw[e1];decide),if_neg (by rw[e2];decide),if_neg (by rw[e3];decide),if_neg (by rw[e4];decide),if_neg (by rw[e5];decide),if_neg (by rw[e6];decide),if_neg (by rw[e7];decide),if_pos e8]);go_enter func28,ntmps28;go_wp2;go_ret;exact⟨by rw[HO.out];rfl,rfl⟩
 have HO:=hid (show shp s=⟨#[]⟩ by unfold shp;rw[if_neg (by rw[e0];decide),if_neg (by rw[e1];decide),if_neg (by rw[e2];decide),if_neg (by rw[e3];decide),if_neg (by rw[e4];decide),if_neg (by rw[e5];decide),if_neg (by rw[e6];decide),if_neg (by rw[e7];decide),if_neg (by rw[e8];decide)]);go_enter func28,ntmps28;go_wp2;go_ret;exact⟨by rw[HO.out];rfl,rfl⟩
theorem zhn(w:World):Calls prog 32 #[] w fun e w'=>∃A,e= .returned (.slice A 11 11)/\Sl w' w.heap.size w'.heap.size 9 1 A 11 11 (strs zb9)/\Below w.heap.size w w':=by
 go_enter func32,ntmps32;go_wp2;go_ret;exact⟨_,rfl,Sl.of_blk (Blk.new _ _ _) lr (by simp) rfl (by decide),bal _⟩
def cnm:List ByteArray:=[⟨#[111,107]⟩,⟨#[105,110,118,97,108,105,100]⟩,⟨#[114,97,110,103,101]⟩,⟨#[110,111,116,45,102,111,117,110,100]⟩,⟨#[101,120,105,115,116,115]⟩,⟨#[102,117,108,108]⟩,⟨#[115,116,97,116,101]⟩,⟨#[115,121,110,116,97,120]⟩,⟨#[102,111,114,109,97,116]⟩,⟨#[99,108,97,115,104]⟩,⟨#[115,116,117,99,107]⟩]
def CnP(w:World):Prop:=∀(i:Nat) (x:ByteArray),cnm[i]?=some x->w.cell? ⟨0,i,none⟩=some (.string x)
theorem CnP.on{w w':World}(h:CnP w)(hb:Below w.heap.size w w'):CnP w':=fun i x hx=>zaa hb (h i x hx)
theorem zhz(n:Nat)(hn:n<=10)(w:World)(h:CnP w):Calls prog 35 #[.int .i64 (n:Int)] w fun e w'=>e= .returned (.string (cnm.getD n ⟨#[]⟩))/\w'=w:=by
 have he:cnm[n]?=some (cnm.getD n ⟨#[]⟩):=by
  rw[List.getD_eq_getElem?_getD,List.getElem?_eq_getElem (show n<cnm.length by simp[cnm];omega)];rfl
 have c0:=h n _ he;obtain⟨x,hx⟩:∃z,cnm.getD n ⟨#[]⟩=z:=⟨_,rfl⟩
 rw[hx] at c0⊢;have hr:inR (n:Int) 0 10=true:=zam.2 ⟨by omega,by omega⟩;clear he hx h;go_enter func35,ntmps35
 go_wp2_with fail
 refine(zaG _ _ _ _).mono ?_;rintro e w1 ⟨rfl,rfl⟩;rw[hr];go_wp2;go_ret;exact⟨rfl,rfl⟩
def i64b(n:Int):Prop:=-9223372036854775808<=n/\n<=9223372036854775807
def numT(l:List Int):List UInt8:=zaF 32 (l.map itoa)
def zaI(l:List Int):List UInt8:=if l=[] then [45] else numT l
theorem zjq{l:List Int}(hs:∀x∈l,i64b x):(numT l).length<=l.length*21:=by
 have:=zgj 32 20 (l.map itoa) (fun y hy=>by
  rw[List.mem_map] at hy;obtain⟨x,hx,rfl⟩:=hy;exact zaz (hs x hx).1 (hs x hx).2)
 rwa[List.length_map] at this
def numW(l:List Int):List ByteArray:=l.map fun x=>zab (itoa x)
theorem zre{l:List Int}{k:Nat}{x:Int}(h:l[k]?=some x):numW (l.take (k+1))=numW (l.take k)++ [zab (itoa x)]:=by
 simp[numW,List.take_add_one,h]
theorem zrd(l:List Int):zaF 32 ((numW l).map fun s=>s.data.toList)=numT l:=by
 simp[numW,numT,zaf,Function.comp_def]
theorem zkl (A:Option Addr) (n c B:Nat) (l:List Int) (w:World) (h:zad w B 1 A n (ints l)) (hB:B <= w.heap.size) (hn:n <= 1048576) (hs:∀ x ∈ l,i64b x) (ht:TabP w) :
  Calls prog 146 #[.string ⟨#[32]⟩,.slice A n c] w fun e w'=>e= .returned (.string (zab (numT l)))/\Below w.heap.size w w':=by
 have HL:=hid (zai h);have HR:=hid h;have HT:=hid ht;have HSM:=hid hs;have acc0:=Acc.made w 9 1;clear h hs ht;go_enter func146,ntmps146
 go_wp2_with fail
 go_loopw [5,11] (fun o i wr=>∃(k:Nat) (A':Option Addr) (d':Nat),k<=n/\i= .int .i64 (k:Int)/\o= .slice A' k d'/\Acc w.heap.size w.heap.size 9 1 w wr A' k d' (strs (numW (l.take k)))) (fun _ i _=>n-(RowKit.intOf i).toNat)
 case atStart=>exact⟨0,_,_,Nat.zero_le _,rfl,rfl,acc0⟩
 case round=>
  obtain⟨k,A',d',hk,rfl,rfl,hacc⟩:=hrel;have HA:=hid hacc;have HBr:=hid (hacc.below (B:=w.heap.size) lr lr);clear acc0 hacc;have hk0:(0:Int)<=k:=by omega
  by_cases hlt:k<n
  ·obtain⟨x,b,off,he,rfl,hb,c0⟩:=zax (HR.out.on hB HBr.out) hlt;have hx:=HSM.out x (List.mem_of_getElem? he);have HE:=hid (zre he);have hkn:(k:Int)<n:=by omega
   clear he
   go_wp2_with fail
   refine(zaL x wr hx.1 hx.2 (zaw HT.out HBr.out)).mono ?_;rintro e w2 ⟨rfl,b2⟩;have HA2:=hid (HA.out.on b2 lr);clear b2 hx
   go_wp2_with (at_builtin;refine zcH rfl _ _ 24 rfl 9 _ 1 16 underlying24 zbu rfl (by decide) (by decide) HA2.out lr rfl _ rfl [.string (zab (itoa x))] rfl rfl (fun u hu=>by simp at hu;subst hu;rfl) (by omega) ?_;intro A3 d3 w9 hacc2;have HA9:=hid hacc2;clear hacc2)
   go_roundw
   case rel=>exact⟨k+1,A3,d3,by omega,by go_num,rfl,by rw[HE.out,zhf];exact HA9.out⟩
   case measure=>simp[RowKit.intOf];omega
  ·obtain rfl:n=k:=by omega
   have hta:l.take n=l:=by rw[<-HL.out,List.take_length]
   have hsl:=HA.out.sl (lo:=w.heap.size) lr lr;rw[hta] at hsl;have HS:=hid hsl;have HJ:=hid (zrd l);have HJL:=hid (zjq HSM.out);clear hsl hta
   go_wp2_with fail
   refine(ziS 32 A' n d' w.heap.size wr.heap.size (numW l) wr HS.out (by omega) (by rw[HJ.out];have:=HJL.out;have:=HL.out;omega)).mono ?_;rintro e w3 ⟨rfl,b3⟩;have HB3:=hid (zac HBr.out b3 lr);clear b3;rw[HJ.out];go_wp2;go_ret;exact⟨rfl,HB3.out⟩
theorem zcV (A:Option Addr) (n c B:Nat) (l:List Int) (w:World) (h:zad w B 1 A n (ints l)) (hB:B <= w.heap.size) (hn:n <= 1048576) (hs:∀ x ∈ l,i64b x) (ht:TabP w) :
  Calls prog 82 #[.slice A n c] w fun e w'=>e= .returned (.string (zab (zaI l)))/\Below w.heap.size w w':=by
 have hl:=zai h;by_cases h0:n=0
 ·subst h0;have HO:=hid (show zaI l=[45] by unfold zaI;rw[if_pos (List.eq_nil_of_length_eq_zero hl)]);clear h hl;go_enter func82,ntmps82;go_wp2;go_ret;exact⟨by rw[HO.out];rfl,Below.refl _ _⟩
 ·have HO:=hid (show zaI l=numT l by unfold zaI;rw[if_neg (by intro e;rw[e] at hl;simp at hl;omega)]);have HC:=hid (zkl A n c B l w h hB hn hs ht);have hz:((n:Int)==0)=false:=by simpa using h0
  clear h hl;go_enter func82,ntmps82
  go_wp2_with fail
  refine HC.out.mono ?_;rintro e w1 ⟨rfl,b1⟩;go_wp2;go_ret;exact⟨by rw[HO.out];rfl,b1⟩
def itT(x:It):Tb:=⟨x.arr,x.tick,x.cls⟩
def its(l:List It):List Value:=tbs (l.map itT)
theorem zfB{w:World}{B n:Nat}{A:Option Addr}{l:List It}(h:zad w B 3 A n (its l)):l.length=n:=by
 have:=zbW h;rwa[List.length_map] at this
theorem zfw {w:World} {B n k:Nat} {A:Option Addr} {l:List It} (h:zad w B 3 A n (its l)) (hk:k < n) :
  ∃(x:It) (b off:Nat),l[k]?=some x/\A=some ⟨b,off,none⟩/\b<B/\w.cell? ⟨b,off+k*3,none⟩=some (.int .i64 x.arr)/\w.cell? ⟨b,off+k*3+1,none⟩=some (.int .i64 x.tick)/\w.cell? ⟨b,off+k*3+2,none⟩=some (.int .i64 x.cls):=by
 obtain⟨t,b,off,he,h1,h2,c0,c1,c2⟩:=zdD h hk;rw[List.getElem?_map] at he
 cases hx:l[k]? with
 |none=>rw[hx] at he;cases he
 |some x=>
  rw[hx] at he;injection he with he;subst he;exact⟨x,b,off,rfl,h1,h2,c0,c1,c2⟩
theorem zdi(a b:Int)(w:World):Calls prog 212 #[.int .i64 a,.int .i64 b] w fun e w'=>e= .returned (.int .i64 (Lib.compareInt a b))/\w'=w:=Tryz.cmp_Compare_int a b w
def orF(a b:Int):Int:=if a=0 then b else a
theorem zkZ (g:Nat) (a b:Int) (w:World) (h:Blk w g 3 #[.int .i64 a,.int .i64 b]) :
  Calls prog 211 #[.slice (some ⟨g,0,none⟩) 2 2] w fun e w'=>e= .returned (.int .i64 (orF a b))/\w'=w:=by
 have c0:=h.cellAt 0 (by simp);have c1:=h.cellAt 1 (by simp);simp only[ly] at c0 c1;by_cases ha:a=0
 ·have HO:=hid (show orF a b=b by simp[orF,ha]);subst ha;by_cases hb:b=0
  ·subst hb;go_enter func211,ntmps211;go_wp2
   go_loop [8] (fun i=>i= .int .i64 0\/i= .int .i64 1\/i= .int .i64 2) (fun i=>2-(RowKit.intOf i).toNat)
   case atStart=>exact .inl rfl
   case round=>
    rcases hrel with rfl|rfl|rfl
    ·go_wp2
     go_round
     case rel=>exact .inr (.inl rfl)
     case measure=>simp[RowKit.intOf]
    ·go_wp2
     go_round
     case rel=>exact .inr (.inr rfl)
     case measure=>simp[RowKit.intOf]
    ·go_wp2;go_ret;exact⟨za3 HO.out.symm,rfl⟩
  ·have hq:(b !=0)=true:=by simpa using hb
   go_enter func211,ntmps211;go_wp2
   go_loop [8] (fun i=>i= .int .i64 0\/i= .int .i64 1) (fun i=>2-(RowKit.intOf i).toNat)
   case atStart=>exact .inl rfl
   case round=>
    rcases hrel with rfl|rfl
    ·go_wp2
     go_round
     case rel=>exact .inr rfl
     case measure=>simp[RowKit.intOf]
    ·go_wp2;go_ret;exact⟨za3 HO.out.symm,rfl⟩
 ·have HO:=hid (show orF a b=a by simp[orF,ha]);have hq:(a !=0)=true:=by simpa using ha
  go_enter func211,ntmps211;go_wp2
  go_loop [8] (fun i=>i= .int .i64 0) (fun i=>2-(RowKit.intOf i).toNat)
  case atStart=>rfl
  case round=>
   subst hrel;go_wp2;go_ret;exact⟨za3 HO.out.symm,rfl⟩
theorem zpA (A:Option Addr) (n c B:Nat) (l:List Int) (x:Int) (w:World) (h:zad w B 1 A n (ints l)) (hn:n <= 1048576) :
  Calls prog 271 #[.slice A n c,.int .i64 x] w fun e w'=>∃r:Int,e= .returned (.int .i64 r)/\(0<=r↔hasI l x=true)/\w'=w:=by
 have hl:=hid (zai h);go_enter func271,ntmps271;go_wp2
 go_loop [8] (fun i=>∃k:Nat,k<=n/\i= .int .i64 k/\∀j y,j<k->l[j]?=some y->y≠x) (fun i=>n-(RowKit.intOf i).toNat)
 case atStart=>exact⟨0,Nat.zero_le _,rfl,fun j y hj=>by omega⟩
 case round=>
  obtain⟨k,hk,rfl,hall⟩:=hrel;have HA:=hid hall;clear hall;have hk0:(0:Int)<=k:=by omega
  by_cases hlt:k<n
  ·obtain⟨y,b,off,he,rfl,hb,c0⟩:=zax h hlt;have HE:=hid he;have hkn:(k:Int)<n:=by omega
   clear he;by_cases hxy:x=y
   ·have hq:(x==y)=true:=by rw[hxy];simp
    have HO:=hid (show hasI l x=true by unfold hasI;rw[List.any_eq_true];exact⟨y,List.mem_of_getElem? HE.out,by simp[hxy]⟩);clear hxy h;go_wp2;go_ret;exact⟨(k:Int),rfl,⟨fun _=>HO.out,fun _=>hk0⟩,rfl⟩
   ·have hq:(x==y)=false:=by simpa using hxy
    have HX:=hid hxy;clear hxy;go_wp2
    go_round
    case rel=>
     refine⟨k+1,by omega,by go_num,fun j z hj hz=>?_⟩;by_cases e:j=k
     ·subst e;rw[HE.out] at hz;injection hz with hz;rw[<-hz];exact fun h=>HX.out h.symm
     ·exact HA.out j z (by omega) hz
    case measure=>simp[RowKit.intOf];omega
  ·obtain rfl:k=n:=by omega
   have HO:=hid (show¬hasI l x=true by
    unfold hasI;rw[List.any_eq_true];rintro ⟨y,hy,hyx⟩;obtain⟨j,hj,he⟩:=List.getElem_of_mem hy;exact HA.out j y (by have:=hl.out;omega) (by rw[List.getElem?_eq_getElem hj,he]) (by simpa using hyx))
   go_wp2;go_ret;exact⟨-1,rfl,⟨fun h=>by omega,fun h=>absurd h HO.out⟩,rfl⟩
theorem zmk (A:Option Addr) (n c B:Nat) (l:List Int) (x:Int) (w:World) (h:zad w B 1 A n (ints l)) (hn:n <= 1048576) :
  Calls prog 222 #[.slice A n c,.int .i64 x] w fun e w'=>e= .returned (.bool (hasI l x))/\w'=w:=by
 go_enter func222,ntmps222
 go_wp2_with fail
 refine(zpA A n c B l x w h hn).mono ?_;rintro e w1 ⟨r,rfl,hr,rfl⟩
 have HO:=hid (show decide (0<=r)=hasI l x by
  rcases e:hasI l x with _|_
  ·rw[e] at hr;exact decide_eq_false (fun h=>by have:=hr.1 h;cases this)
  ·exact decide_eq_true (hr.2 e))
 clear hr;go_wp2;go_ret;exact⟨zae HO.out,rfl⟩
theorem zkC (x:It) (w:World) :
  Calls prog 220 #[.agg #[.int .i64 x.arr,.int .i64 x.tick,.int .i64 x.cls]] w fun e w'=>e= .returned (.bool (!okIt x))/\Below w.heap.size w w':=by
 obtain⟨W,hW,y0,hb⟩:∃W,W=w.alloc (.cells #[.int .i64 x.arr,.int .i64 x.tick,.int .i64 x.cls] 140)/\Blk W w.heap.size 140 #[.int .i64 x.arr,.int .i64 x.tick,.int .i64 x.cls]/\Below w.heap.size w W:=⟨_,rfl,Blk.new _ _ _,bal _⟩
 have HW:=hid hW;have HB:=hid hb;have c0:=y0.cellAt 0 (by simp);have c1:=y0.cellAt 1 (by simp);have c2:=y0.cellAt 2 (by simp);simp only[ly] at c0 c1 c2;clear hW hb y0;have w1:=fun(v l h:Int)=>zaG v l h W;go_enter func220,ntmps220
 go_upto_region 1 with fail
 rw[<-HW.out];rcases e1:inR x.arr 0 10000 with _|_
 ·have HO:=hid (show okIt x=false by simp[okIt,e1])
  go_wp2_with fail
  have hc:=w1 x.arr 0 10000;rw[e1] at hc;refine hc.mono ?_;rintro e w2 ⟨rfl,rfl⟩;go_wp2;go_ret;exact⟨zae (by rw[HO.out];rfl),HB.out⟩
 go_wp2_with fail
 have hc:=w1 x.arr 0 10000;rw[e1] at hc;refine hc.mono ?_;rintro e w2 ⟨rfl,rfl⟩;rcases e2:inR x.tick 1 1000 with _|_
 ·have HO:=hid (show okIt x=false by simp[okIt,e1,e2])
  go_wp2_with fail
  have hc:=w1 x.tick 1 1000;rw[e2] at hc;refine hc.mono ?_;rintro e w2 ⟨rfl,rfl⟩;go_wp2;go_ret;exact⟨zae (by rw[HO.out];rfl),HB.out⟩
 go_wp2_with fail
 have hc:=w1 x.tick 1 1000;rw[e2] at hc;refine hc.mono ?_;rintro e w2 ⟨rfl,rfl⟩;have HO:=hid (show okIt x=inR x.cls 0 9 by simp[okIt,e1,e2])
 go_wp2_with fail
 have hc:=w1 x.cls 0 9;refine hc.mono ?_;rintro e w2 ⟨rfl,rfl⟩;go_wp2;go_ret;exact⟨zae (by rw[HO.out]),HB.out⟩
theorem zjO (A:Option Addr) (n c:Nat) (l:List It) (B:Nat) (w:World) (h:zad w B 3 A n (its l)) (hB:B <= w.heap.size) (hn:n <= 1048576) :
  Calls prog 270 #[.slice A n c,.func (.func 220) #[] #[]] w fun e w'=>e= .returned (.int .i64 (idxI (fun x=>!okIt x) l))/\Below w.heap.size w w':=by
 have hl:=hid (zfB h);go_enter func270,ntmps270;go_wp2
 go_loopw [8] (fun i wr=>∃k:Nat,k<=n/\i= .int .i64 k/\za0 okIt l k/\Below w.heap.size w wr) (fun i _=>n-(RowKit.intOf i).toNat)
 case atStart=>exact⟨0,Nat.zero_le _,rfl,za0.zero _ _,Below.refl _ _⟩
 case round=>
  obtain⟨k,hk,rfl,hall,hbel⟩:=hrel;have HA:=hid hall;have HB:=hid hbel;clear hall;by_cases hlt:k<n
  ·obtain⟨x,b,off,he,rfl,hb,c0,c1,c2⟩:=zfw (h.on hB hbel) hlt;have HE:=hid he;clear he hbel h
   go_wp2_with fail
   refine(zkC x _).mono ?_;rintro e w1 ⟨rfl,b1⟩;have HF:=hid (zac HB.out b1 lr);clear b1 c0 c1 c2;rcases ho:okIt x with _|_
   ·have HO:=hid (show idxI (fun x=>!okIt x) l=k from zcT HE.out (by simp[ho]) (HA.out.imp fun x hx=>by simp[hx]));go_wp2;go_ret;exact⟨za3 HO.out.symm,HF.out⟩
   ·have HO:=hid ho;go_wp2
    go_roundw
    case rel=>exact⟨k+1,by omega,by go_num,HA.out.step HE.out HO.out,HF.out⟩
    case measure=>simp[RowKit.intOf];omega
  ·obtain rfl:k=n:=by omega
   have HO:=hid (show idxI (fun x=>!okIt x) l=-1 from zdo (HA.out.imp fun x hx=>by simp[hx]) hl.out);go_wp2;go_ret;exact⟨za3 HO.out.symm,HB.out⟩
theorem zh0 (A:Option Addr) (n c:Nat) (l:List It) (B:Nat) (w:World) (h:zad w B 3 A n (its l)) (hB:B <= w.heap.size) (hn:n <= 1048576) :
  Calls prog 219 #[.slice A n c,.func (.func 220) #[] #[]] w fun e w'=>e= .returned (.bool (!l.all okIt))/\Below w.heap.size w w':=by
 have HO:=hid (show decide (0<=idxI (fun x=>!okIt x) l)= !l.all okIt from by rw[zc5];simp[List.any_eq_not_all_not]);have HC:=hid (zjO A n c l B w h hB hn);clear h;go_enter func219,ntmps219
 go_wp2_with fail
 refine HC.out.mono ?_;rintro e w1 ⟨rfl,b1⟩;go_wp2;go_ret;exact⟨zae HO.out,b1⟩
theorem zlk (A:Option Addr) (n c:Nat) (l:List It) (B:Nat) (w:World) (h:zad w B 3 A n (its l)) (hB:B <= w.heap.size) (hn:n <= 1048576) :
  Calls prog 157 #[.slice A n c] w fun e w'=>e= .returned (.bool (okQ l))/\Below w.heap.size w w':=by
 have hl:=zfB h;by_cases h9:n<=12
 ·have hd:decide ((n:Int)<=12)=true:=decide_eq_true (by omega);have HO:=hid (show okQ l=l.all okIt by simp[okQ,hl,h9]);have HC:=hid (zh0 A n c l B w h hB hn);clear h hl;go_enter func157,ntmps157
  go_wp2_with fail
  refine HC.out.mono ?_;rintro e w1 ⟨rfl,b1⟩;go_wp2;go_ret;exact⟨zae (by rw[HO.out];try simp),b1⟩
 ·have hd:decide ((n:Int)<=12)=false:=decide_eq_false (by omega);have HO:=hid (show okQ l=false by simp[okQ,hl,h9]);go_enter func157,ntmps157;go_wp2;go_ret;exact⟨zae HO.out.symm,Below.refl _ _⟩
theorem zeZ (x:It) (g1 g2:Nat) (w:World) (h:w.cell? ⟨g1,0,none⟩ = some (.int .i64 0)) :
  Calls prog 221 #[.agg #[.int .i64 x.arr,.int .i64 x.tick,.int .i64 x.cls],.pointer (some ⟨g1,0,none⟩),.pointer (some ⟨g2,0,none⟩)] w fun e w'=>e= .returned (.int .i64 x.cls)/\Below w.heap.size w w':=by
 obtain⟨W,hW,y0,hb⟩:∃W,W=w.alloc (.cells #[.int .i64 x.arr,.int .i64 x.tick,.int .i64 x.cls] 140)/\Blk W w.heap.size 140 #[.int .i64 x.arr,.int .i64 x.tick,.int .i64 x.cls]/\Below w.heap.size w W:=⟨_,rfl,Blk.new _ _ _,bal _⟩
 have HW:=hid hW;have HB:=hid hb;replace h:=zaa hb h;have c2:=y0.cellAt 2 (by simp);simp only[ly] at c2;clear hW hb y0;go_enter func221,ntmps221
 go_upto_region 1 with fail
 rw[<-HW.out];go_wp2;go_ret;exact⟨rfl,HB.out⟩
theorem zkO {H:Type} {enc:TypeId × Value -> H} {P:Program} {w:World} {base:Nat} {sp:Nat -> Bool} {held:Bool} {fuel:Nat} {t e:TypeId} {n:Nat} {cs:List Value} {zs:List ByteArray} {p:List MemPlace}
  (ht:P.underlying t=some (.array n e)) (he:P.underlying e=some .string) (hce:P.cellsOf e=1) (hct:P.cellsOf t=n)
  (h:DataW.trod enc P w base sp held fuel t cs=some (.agg (zs.map fun z=>.lit (.string z.data.toList)),p)):cs=zs.map fun z=>Value.string z:=by
 cases fuel with
 |zero=>simp[DataW.trod] at h
 |succ fuel=>
  simp only[DataW.trod,ht,hce,hct,Nat.mul_one] at h
  split at h
  ·rename_i hl;obtain⟨xs,hm,hx⟩:=Option.map_eq_some_iff.1 h
   have hxs:xs.map (·.1)=zs.map fun z=>(DataW.lit (.string z.data.toList):DataW H):=by
    have:=congrArg Prod.fst hx;simpa using this
   have hxl:xs.length=n:=by simpa using mapM_length hm
   have hzl:zs.length=n:=by
    have:=congrArg List.length hxs;simp at this;omega
   apply List.ext_getElem?;intro i;by_cases hi:i<n
   ·obtain⟨b,hb,hf⟩:=mapM_at hm i i (by simp[hi]);obtain⟨z,hc,rfl,_⟩:=DataW.trod_string he hf
    have h1:cs[i]?=some (.string z):=by
     have:=congrArg (·[0]?) hc;simpa[List.getElem?_take,List.getElem?_drop] using this
    have h2:(xs.map (·.1))[i]?=some (DataW.lit (.string z.data.toList):DataW H):=by simp[hb]
    rw[hxs] at h2;simp only[List.getElem?_map,Option.map_eq_some_iff,DataW.lit.injEq,Lit.string.injEq] at h2;obtain⟨z',hz',he'⟩:=h2;have:z'=z:=by rw[<-zaM z',<-zaM z,he']
    subst this;simp[h1,hz']
   ·rw[List.getElem?_eq_none (by omega),List.getElem?_eq_none (by simp;omega)]
  ·cases h
theorem zq5 {W:World} {rest:List (String × DataW Unit)}
  (h:laidMet prog (("loop.example/g01046/impl.codeNames", .agg (cnm.map fun z=> .lit (.string z.data.toList)))::rest) W):CnP W:=by
 obtain⟨ps,⟨g',t',cs,fuel,p,q,hg',ht',hvar,hd,_,_⟩,_⟩:=h;have hg:prog.globalNamed "loop.example/g01046/impl.codeNames" =some 0:=by kernel_rfl
 have hty:(prog.globals[0]?).map (·.type)=some 114:=by kernel_rfl
 obtain rfl:=Option.some.inj (hg.symm.trans hg');obtain rfl:=Option.some.inj (hty.symm.trans ht');have hc:=zkO (n:=11) (e:=9) underlying114 underlying9 (by kernel_rfl) (by kernel_rfl) hd;intro i x hx;have hv:W.var? prog "loop.example/g01046/impl.codeNames" =some cs:=hvar;have:=World.var?_cell hg hv i;rw[this];have h2:cs.toList[i]?=some (.string x):=by rw[hc,List.getElem?_map,hx];rfl
 simpa using h2
end
end Go.Proofs.YtjalgpioklcbfaaGreatDoor
