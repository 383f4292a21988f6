/- Steps of the proof. -/
import Derived.Test.YtjalgpioklcbfaaGreatDoorKCnR
set_option linter.unusedVariables false
set_option linter.unusedSimpArgs false
set_option maxHeartbeats 4000000
set_option maxRecDepth 100000
namespace Go.Proofs.YtjalgpioklcbfaaGreatDoor
section
open Go.RowKit Go.Lib
noncomputable def stepR (x:Dk×List ByteArray) (l:ByteArray):Dk×List ByteArray:=if (cmdF x.1 l).code≠0 then (x.1,x.2++ [⟨#[63]⟩]) else ((cmdF x.1 l).dk,x.2++(cmdF x.1 l).lines)
noncomputable def runTo (ls:List ByteArray) (k:Nat):Dk×List ByteArray:=(ls.take k).foldl stepR (zgK,[])
theorem zks(ls:List ByteArray):runTo ls 0=(zgK,[]):=rfl
theorem zkr{ls:List ByteArray}{k:Nat}{l:ByteArray}(h:ls[k]?=some l):runTo ls (k+1)=stepR (runTo ls k) l:=by
 unfold runTo;rw[List.take_add_one,h,Option.toList_some,List.foldl_append]
 rfl
theorem zif{ls:List ByteArray}{k:Nat}{l:ByteArray}(h:ls[k]?=some l)(hc:(cmdF (runTo ls k).1 l).code≠0):runTo ls (k+1)=((runTo ls k).1,(runTo ls k).2++ [⟨#[63]⟩]):=by
 rw[zkr h,stepR,if_pos hc]
theorem zhc{ls:List ByteArray}{k:Nat}{l:ByteArray}(h:ls[k]?=some l)(hc:(cmdF (runTo ls k).1 l).code=0):runTo ls (k+1)=((cmdF (runTo ls k).1 l).dk,(runTo ls k).2++(cmdF (runTo ls k).1 l).lines):=by
 rw[zkr h,stepR,if_neg (by rw[hc];decide)]
theorem zkn:okDk zgK=true:=by
 refine zdW (by decide) (by decide) ?_;have h:logR ⟨#[]⟩=⟨[],0,0⟩:=by unfold logR;exact zdV (by simp)
 exact zgH (by decide) (by rw[h];rfl)
theorem zfU{ls:List ByteArray}(hl:∀l∈ls,l.size<=1048576):∀k,okDk (runTo ls k).1=true/\(runTo ls k).2.length<=4002*k/\∀x∈(runTo ls k).2,x.size<=33554432
 |0=>⟨zkn,by simp[zks],fun x hx=>by simp[zks] at hx⟩
 |k+1=>by
  obtain⟨h1,h2,h3⟩:=zfU hl k
  cases e:ls[k]? with
  |none=>
   have:runTo ls (k+1)=runTo ls k:=by unfold runTo;rw[List.take_add_one,e,Option.toList_none,List.append_nil]
   rw[this];exact⟨h1,by omega,h3⟩
  |some l=>
   obtain⟨g1,g2,g3⟩:=ziy h1 l (hl l (List.mem_of_getElem? e));rcases g1 with g1|g1
   ·rw[zhc e g1];refine⟨(g2 g1).1,?_,fun x hx=>?_⟩
    ·show((runTo ls k).2++(cmdF (runTo ls k).1 l).lines).length<=_;have:=g3.1;rw[List.length_append];omega
    ·have hx:x∈(runTo ls k).2++(cmdF (runTo ls k).1 l).lines:=hx;rw[List.mem_append] at hx;rcases hx with hx|hx
     ·exact h3 x hx
     ·exact g3.2 x hx
   ·rw[zif e (by rw[g1];decide)];refine⟨h1,?_,fun x hx=>?_⟩
    ·show((runTo ls k).2++ [(⟨#[63]⟩:ByteArray)]).length<=_;rw[List.length_append,List.length_singleton];omega
    ·have hx:x∈(runTo ls k).2++ [(⟨#[63]⟩:ByteArray)]:=hx;rw[List.mem_append,List.mem_singleton] at hx;rcases hx with hx|rfl
     ·exact h3 x hx
     ·decide
def catL:List ByteArray->ByteArray
 | []=>⟨#[]⟩
 |x::r=>x++⟨#[10]⟩++catL r
theorem zgu:∀a b:List ByteArray,catL (a++b)=catL a++catL b
 | [],b=>by rw[List.nil_append,catL];apply zdn;rw[zcB];simp
 |x::r,b=>by
  rw[List.cons_append,catL,catL,zgu r b];apply zdn;simp only[zcB,List.append_assoc]
theorem zrK(x:ByteArray):catL [x]=x++⟨#[10]⟩:=by
 rw[catL,catL];apply zdn;rw[zcB,zcB];simp
theorem zq1(a:List ByteArray)(x:ByteArray):catL (a++ [x])=catL a++(x++⟨#[10]⟩):=by rw[zgu,zrK]
theorem zhx{ls:List ByteArray}{k:Nat}{x:ByteArray}(h:ls[k]?=some x):catL (ls.take (k+1))=catL (ls.take k)++(x++⟨#[10]⟩):=by
 rw[List.take_add_one,h,Option.toList_some,zq1]
theorem zlq(m:Nat):∀{ls:List ByteArray},(∀x∈ls,x.size<=m)->(catL ls).size<=(m+1)*ls.length
 | [],_=>Nat.zero_le _
 |x::r,h=>by
  have ih:=zlq m (ls:=r) fun y hy=>h y (List.mem_cons_of_mem _ hy);have hx:=h x List.mem_cons_self;rw[catL,ByteArray.size_append,ByteArray.size_append,List.length_cons,Nat.mul_add];show x.size+1+_<=_;omega
def zcb(s:ByteArray):List ByteArray:=if (zah 10 s).getLast?=some ⟨#[]⟩ then (zah 10 s).take ((zah 10 s).length-1) else zah 10 s
theorem zeB{c:UInt8}{s:ByteArray}:∀x∈zah c s,x.size<=s.size:=by
 have key:∀l:List UInt8,∀x∈zao c l,x.length<=l.length:=by
  intro l
  induction l with
  |nil=>intro x hx;rw[zao,List.mem_singleton] at hx;subst hx;exact Nat.le_refl _
  |cons a r ih=>
   intro x hx;rw[zao] at hx
   split at hx
   ·rcases List.mem_cons.1 hx with rfl|hx
    ·exact Nat.zero_le _
    ·have:=ih x hx;rw[List.length_cons];omega
   ·split at hx
    ·rw[List.mem_singleton] at hx;subst hx;simp
    ·rename_i y t he;rcases List.mem_cons.1 hx with rfl|hx
     ·have:=ih y (by rw[he];exact List.mem_cons_self);rw[List.length_cons,List.length_cons];omega
     ·have:=ih x (by rw[he];exact List.mem_cons_of_mem _ hx);rw[List.length_cons];omega
 intro x hx;unfold zah at hx;obtain⟨l,hl,rfl⟩:=List.mem_map.1 hx;have:=key _ l hl;rw[zaj,<-za8 s];exact this
theorem zfM{s:ByteArray}:∀x∈zcb s,x.size<=s.size:=by
 intro x hx;unfold zcb at hx
 split at hx
 ·exact zeB x (List.mem_of_mem_take hx)
 ·exact zeB x hx
theorem zkf(s:ByteArray):(zcb s).length<=s.size+1:=by
 have hs:=zc2 10 s;have hcnt:s.data.toList.count 10<=s.size:=by rw[<-za8 s];exact List.count_le_length
 unfold zcb
 split
 ·rw[List.length_take];omega
 ·omega
def zeH:ByteArray:=⟨#[101,114,114,111,114,32,102,117,108,108]⟩
noncomputable def outT (s:ByteArray):List ByteArray:=if (zcb s).length<=60 then (runTo (zcb s) (zcb s).length).2 else (runTo (zcb s) 60).2++ [zeH]
noncomputable def runT (s:ByteArray):ByteArray:=catL (outT s)
end
section
open Go.RowKit Go.Lib Go.Proofs.Tryz
theorem ziC:zb9.map (fun y=>y.toList)=[[101,110,116,101,114],[102,114,101,101],[108,111,103],[110,101,116],[113,117,101,117,101],[114,117,110],[114,117,110,115],[115,101,97,114,99,104],[115,116,117,99,107],[116,105,109,101,115],[119,97,121]]:=by simp[zb9,ByteArray.toList_eq]
theorem ziB{s:ByteArray}(h:hasW zb9 s=true):(s.toList==[101,110,116,101,114])=true\/(s.toList==[102,114,101,101])=true\/(s.toList==[108,111,103])=true\/(s.toList==[110,101,116])=true\/(s.toList==[113,117,101,117,101])=true\/(s.toList==[114,117,110])=true\/(s.toList==[114,117,110,115])=true\/(s.toList==[115,101,97,114,99,104])=true\/(s.toList==[115,116,117,99,107])=true\/(s.toList==[116,105,109,101,115])=true\/(s.toList==[119,97,121])=true:=by
 unfold hasW at h;have h2:(zb9.map (fun y=>y.toList)).any (fun y=>s.toList==y)=true:=by rw[List.any_map];exact h
 rw[ziC] at h2;simpa only[List.any_cons,List.any_nil,Bool.or_false,Bool.or_eq_true] using h2
theorem zru{s:ByteArray}(hw:(s.toList==[110,101,116])=true):shp s=⟨#[43]⟩:=by unfold shp;rw[if_pos hw]
theorem znG{s:ByteArray}(hw:(s.toList==[116,105,109,101,115])=true):shp s=⟨#[42]⟩:=by unfold shp;rw[eq_of_beq hw];rfl
theorem znE{s:ByteArray}(hw:(s.toList==[113,117,101,117,101])=true):shp s=⟨#[42]⟩:=by unfold shp;rw[eq_of_beq hw];rfl
theorem zrw{s:ByteArray}(hw:(s.toList==[119,97,121])=true):shp s=⟨#[110,110]⟩:=by unfold shp;rw[eq_of_beq hw];rfl
theorem zrv{s:ByteArray}(hw:(s.toList==[114,117,110])=true):shp s=⟨#[110,42]⟩:=by unfold shp;rw[eq_of_beq hw];rfl
theorem zlQ{s:ByteArray}(hw:(s.toList==[115,101,97,114,99,104])=true):shp s=⟨#[110,42]⟩:=by unfold shp;rw[eq_of_beq hw];rfl
theorem znF{s:ByteArray}(hw:(s.toList==[115,116,117,99,107])=true):shp s=⟨#[110,42]⟩:=by unfold shp;rw[eq_of_beq hw];rfl
theorem zpi{s:ByteArray}(hw:(s.toList==[102,114,101,101])=true):shp s=⟨#[110,110,110]⟩:=by unfold shp;rw[eq_of_beq hw];rfl
theorem znD{s:ByteArray}(hw:(s.toList==[101,110,116,101,114])=true):shp s=⟨#[110,119,110]⟩:=by unfold shp;rw[eq_of_beq hw];rfl
theorem ztN{s:ByteArray}(hw:(s.toList==[108,111,103])=true):shp s=⟨#[]⟩:=by unfold shp;rw[if_neg (by rw[notW hw (by decide)];decide),if_neg (by rw[notW hw (by decide)];decide),if_neg (by rw[notW hw (by decide)];decide),if_neg (by rw[notW hw (by decide)];decide),if_neg (by rw[notW hw (by decide)];decide),if_neg (by rw[notW hw (by decide)];decide),if_neg (by rw[notW hw (by decide)];decide),if_neg (by rw[notW hw (by decide)];decide),if_neg (by rw[notW hw (by decide)];decide)]
theorem zt0{s:ByteArray}(hw:(s.toList==[114,117,110,115])=true):shp s=⟨#[]⟩:=by unfold shp;rw[if_neg (by rw[notW hw (by decide)];decide),if_neg (by rw[notW hw (by decide)];decide),if_neg (by rw[notW hw (by decide)];decide),if_neg (by rw[notW hw (by decide)];decide),if_neg (by rw[notW hw (by decide)];decide),if_neg (by rw[notW hw (by decide)];decide),if_neg (by rw[notW hw (by decide)];decide),if_neg (by rw[notW hw (by decide)];decide),if_neg (by rw[notW hw (by decide)];decide)]
theorem zs2(s:ByteArray):(shp s).size<=3:=by
 unfold shp
 repeat' (first|decide|split)
theorem zdm{sh:ByteArray}(hk:∀j,zbh sh j=110\/zbh sh j=42):∀(ws:List ByteArray) (i:Nat) (acc ns:List Int),zaD sh ws i acc=some ns->ns.length=acc.length+ws.length
 | [],i,acc,ns,h=>by
  rw[zaD] at h;injection h with h;subst h;simp
 |w::r,i,acc,ns,h=>by
  rw[zaD,if_pos (hk i)] at h
  split at h
  ·have:=zdm hk r (i+1) _ ns h;rw[List.length_append,List.length_singleton] at this;rw[List.length_cons];omega
  ·cases h
theorem zsF(c:UInt8)(hc:c=110\/c=42)(j:Nat):zbh ⟨#[c]⟩ j=110\/zbh ⟨#[c]⟩ j=42:=by
 have e:zbh ⟨#[c]⟩ j=c:=by
  show [c].getD (min j 0) 0=c;rw[Nat.min_zero];rfl
 rw[e];exact hc
theorem zeh(a b:UInt8)(ha:a=110\/a=42)(hb:b=110\/b=42)(j:Nat):zbh ⟨#[a,b]⟩ j=110\/zbh ⟨#[a,b]⟩ j=42:=by
 show [a,b].getD (min j 1) 0=110\/[a,b].getD (min j 1) 0=42;rcases(by omega:min j 1=0\/min j 1=1) with e|e<;>rw[e]
 ·exact ha
 ·exact hb
theorem zpE(a b c:UInt8)(ha:a=110\/a=42)(hb:b=110\/b=42)(hc:c=110\/c=42)(j:Nat):zbh ⟨#[a,b,c]⟩ j=110\/zbh ⟨#[a,b,c]⟩ j=42:=by
 show [a,b,c].getD (min j 2) 0=110\/[a,b,c].getD (min j 2) 0=42;rcases(by omega:min j 2=0\/min j 2=1\/min j 2=2) with e|e|e<;>rw[e]
 ·exact ha
 ·exact hb
 ·exact hc
theorem zlJ{a b c:ByteArray}{ns:List Int}(h:zaD ⟨#[110,119,110]⟩ [a,b,c] 0 []=some ns):ns.length=2:=by
 rw[zaD,if_pos (by decide)] at h
 split at h
 ·rw[zaD,if_neg (by decide),zaD,if_pos (by decide)] at h
  split at h
  ·rw[zaD] at h;injection h with h;subst h
   rfl
  ·cases h
 ·cases h
theorem zpC(c:UInt8):∀l:List (List UInt8),(zaF c (l.drop 1)).length<=(zaF c l).length
 | []=>Nat.le_refl _
 | [x]=>Nat.zero_le _
 |x::y::t=>by
  show(zaF c (y::t)).length<=(x++c::zaF c (y::t)).length;rw[List.length_append,List.length_cons];omega
theorem zpc(line:ByteArray):(zaF 32 (((zah 32 line).drop 1).map fun s=>s.data.toList)).length<=line.size:=by
 have e:(zah 32 line).map (fun s=>s.data.toList)=zao 32 line.data.toList:=by
  unfold zah;rw[List.map_map]
  conv=>rhs;rw[<-List.map_id (zao 32 line.data.toList)]
  refine List.map_congr_left fun x _=>?_;show(zab x).data.toList=x;exact zaf x
 rw[List.map_drop,e];refine Nat.le_trans (zpC 32 _) ?_;rw[zcC,za8];exact Nat.le_refl _
structure zsC (ws:List ByteArray) (ns:List Int):Prop where
 has:hasW zb9 (zag ws 0)=true
 fit:¬(ws.length<(shp (zag ws 0)).size+1\/(zci (shp (zag ws 0))=false/\(shp (zag ws 0)).size+1<ws.length))
 num:zaD (shp (zag ws 0)) (ws.drop 1) 0 []=some ns
 join:(zaF 32 ((ws.drop 1).map fun s=>s.data.toList)).length<=1048576
theorem zrY {w:World} {lo g:Nat} {h:DkH} {d:Dk} {rh:List RnH} {WA NA:Option Addr} {wn nn:Nat} {ws:List ByteArray} {ns:List Int} {m:Int} (wc nc:Nat) (x:ExIn w lo g h d rh WA wn ws NA nn ns m) (h0:0 < wn) (hwc:wn <= wc) (hnc:nn <= nc) (k:zsC ws ns) :
  Calls prog 36 #[.pointer (some ⟨g,0,none⟩),.slice WA wn wc,.slice NA nn nc] w fun e w'=>∃LA ln lc,e= .returned (.tuple #[.slice LA ln lc,.int .i64 (execF d ws ns).code])/\∃h' rh',zdO w w' lo g h' (execF d ws ns).dk rh' LA ln lc (execF d ws ns).lines:=by
 have hwn:ws.length=wn:=by have:=x.wsr.1;rw[za6] at this;omega
 have hnn:=zai x.nsr;have hd:(ws.drop 1).length=wn-1:=by rw[List.length_drop,hwn]
 rcases ziB k.has with hw|hw|hw|hw|hw|hw|hw|hw|hw|hw|hw
 ·have e:=znD hw;have hf:=k.fit;have hm:=k.num;rw[e] at hf hm;have hs:(⟨#[110,119,110]⟩:ByteArray).size=3:=rfl;rw[hs,hwn] at hf;have hst:zci ⟨#[110,119,110]⟩=false:=by decide
  rw[hst] at hf;have hw4:wn=4:=by simp at hf;omega
  obtain⟨a,b,c,hl⟩:∃a b c,ws.drop 1=[a,b,c]:=by
   match hq:ws.drop 1,(show(ws.drop 1).length=3 by omega) with
   | [a,b,c],_=>exact⟨a,b,c,rfl⟩
  rw[hl] at hm;have:=zlJ hm;exact zmp wc nc x h0 hw (by omega) (by omega)
 ·have e:=zpi hw;have hf:=k.fit;have hm:=k.num;rw[e] at hf hm;have hs:(⟨#[110,110,110]⟩:ByteArray).size=3:=rfl;rw[hs,hwn] at hf;have hst:zci ⟨#[110,110,110]⟩=false:=by decide
  rw[hst] at hf;have hw4:wn=4:=by simp at hf;omega
  have hq:=zdm (sh:=⟨#[110,110,110]⟩) (zpE 110 110 110 (.inl rfl) (.inl rfl) (.inl rfl)) _ _ _ _ hm;rw[hd,List.length_nil] at hq;exact zmQ wc nc x h0 hw (by omega)
 ·exact zol wc nc x h0 hw
 ·have e:=zru hw;have hf:=k.fit;have hm:=k.num;rw[e] at hf hm;have hs:(⟨#[43]⟩:ByteArray).size=1:=rfl;rw[hs,hwn] at hf;have hw4:2<=wn:=by simp at hf;omega
  exact zom wc nc x h0 hw hwc (by omega) k.join
 ·have e:=znE hw;have hf:=k.fit;have hm:=k.num;rw[e] at hf hm;have hs:(⟨#[42]⟩:ByteArray).size=1:=rfl;rw[hs,hwn] at hf;exact zmq wc nc x h0 hw
 ·have e:=zrv hw;have hf:=k.fit;have hm:=k.num;rw[e] at hf hm;have hs:(⟨#[110,42]⟩:ByteArray).size=2:=rfl;rw[hs,hwn] at hf;have hq:=zdm (sh:=⟨#[110,42]⟩) (zeh 110 42 (.inl rfl) (.inr rfl)) _ _ _ _ hm;rw[hd,List.length_nil] at hq;exact zon wc nc x h0 hw (by omega) hnc
 ·exact zmR wc nc x h0 hw
 ·have e:=zlQ hw;have hf:=k.fit;have hm:=k.num;rw[e] at hf hm;have hs:(⟨#[110,42]⟩:ByteArray).size=2:=rfl;rw[hs,hwn] at hf;have hq:=zdm (sh:=⟨#[110,42]⟩) (zeh 110 42 (.inl rfl) (.inr rfl)) _ _ _ _ hm;rw[hd,List.length_nil] at hq;exact zkR wc nc x h0 hw (by omega) hnc
 ·have e:=znF hw;have hf:=k.fit;have hm:=k.num;rw[e] at hf hm;have hs:(⟨#[110,42]⟩:ByteArray).size=2:=rfl;rw[hs,hwn] at hf;have hq:=zdm (sh:=⟨#[110,42]⟩) (zeh 110 42 (.inl rfl) (.inr rfl)) _ _ _ _ hm;rw[hd,List.length_nil] at hq;exact zmr wc nc x h0 hw (by omega)
 ·have e:=znG hw;have hf:=k.fit;have hm:=k.num;rw[e] at hf hm;have hs:(⟨#[42]⟩:ByteArray).size=1:=rfl;rw[hs,hwn] at hf;exact zms wc nc x h0 hw
 ·have e:=zrw hw;have hf:=k.fit;have hm:=k.num;rw[e] at hf hm;have hs:(⟨#[110,110]⟩:ByteArray).size=2:=rfl;rw[hs,hwn] at hf;have hst:zci ⟨#[110,110]⟩=false:=by decide
  rw[hst] at hf;have hw4:wn=3:=by simp at hf;omega
  have hq:=zdm (sh:=⟨#[110,110]⟩) (zeh 110 110 (.inl rfl) (.inl rfl)) _ _ _ _ hm;rw[hd,List.length_nil] at hq;exact zoo wc nc x h0 hw (by omega)
theorem znN(n:Nat)(hn:n<=10)(w:World):Calls prog 100 #[.int .i64 (n:Int)] w fun e w'=>e= .returned (.string (cnm.getD n ⟨#[]⟩))/\Below w.heap.size w w':=by
 obtain⟨u,hu⟩:∃y,w.alloc (.cells #[.string ⟨#[111,107]⟩,.string ⟨#[105,110,118,97,108,105,100]⟩,.string ⟨#[114,97,110,103,101]⟩,.string ⟨#[110,111,116,45,102,111,117,110,100]⟩,.string ⟨#[101,120,105,115,116,115]⟩,.string ⟨#[102,117,108,108]⟩,.string ⟨#[115,116,97,116,101]⟩,.string ⟨#[115,121,110,116,97,120]⟩,.string ⟨#[102,111,114,109,97,116]⟩,.string ⟨#[99,108,97,115,104]⟩,.string ⟨#[115,116,117,99,107]⟩] 9)=y:=⟨_,rfl⟩
 have yu:Blk u w.heap.size 9 #[.string ⟨#[111,107]⟩,.string ⟨#[105,110,118,97,108,105,100]⟩,.string ⟨#[114,97,110,103,101]⟩,.string ⟨#[110,111,116,45,102,111,117,110,100]⟩,.string ⟨#[101,120,105,115,116,115]⟩,.string ⟨#[102,117,108,108]⟩,.string ⟨#[115,116,97,116,101]⟩,.string ⟨#[115,121,110,116,97,120]⟩,.string ⟨#[102,111,114,109,97,116]⟩,.string ⟨#[99,108,97,115,104]⟩,.string ⟨#[115,116,117,99,107]⟩]:=by rw[<-hu];exact Blk.new _ _ _
 have bu:Below w.heap.size w u:=by rw[<-hu];exact bal _
 have c0:u.cell? ⟨w.heap.size,n,none⟩=some (.string (cnm.getD n ⟨#[]⟩)):=by
  rw[yu.cell];have:n=0\/n=1\/n=2\/n=3\/n=4\/n=5\/n=6\/n=7\/n=8\/n=9\/n=10:=by omega
  rcases this with rfl|rfl|rfl|rfl|rfl|rfl|rfl|rfl|rfl|rfl|rfl<;>rfl
 obtain⟨x,hx⟩:∃z,cnm.getD n ⟨#[]⟩=z:=⟨_,rfl⟩
 rw[hx] at c0⊢;have hr:inR (n:Int) 0 10=true:=zam.2 ⟨by omega,by omega⟩;have HU:=hid hu;have HB:=hid bu;clear hu yu bu hx;go_enter func100,ntmps100
 go_wp2_with fail
 rw[HU.out];refine(za2 _ _ _ _).mono ?_;rintro e w1 ⟨rfl,rfl⟩;rw[hr];go_wp2;go_ret;exact⟨rfl,HB.out⟩
def frmS(s:ByteArray):ByteArray:=
 if (s.toList==[110,101,116])=true then ⟨#[114]⟩ else if (s.toList==[113,117,101,117,101])=true then ⟨#[108]⟩ else if (s.toList==[116,105,109,101,115])=true then ⟨#[108]⟩ else if (s.toList==[114,117,110])=true then ⟨#[110,108]⟩ else if (s.toList==[115,101,97,114,99,104])=true then ⟨#[110,108]⟩ else if (s.toList==[115,116,117,99,107])=true then ⟨#[110,108]⟩ else if (s.toList==[119,97,121])=true then ⟨#[110,110]⟩ else if (s.toList==[102,114,101,101])=true then ⟨#[110,110,110]⟩ else if (s.toList==[101,110,116,101,114])=true then ⟨#[110,120,110]⟩ else if (s.toList==[108,111,103])=true then ⟨#[]⟩ else if (s.toList==[114,117,110,115])=true then ⟨#[]⟩ else ⟨#[45]⟩
theorem zo4 (s:ByteArray) (w:World) :
  Calls prog 101 #[.string s] w fun e w'=>e= .returned (.string (frmS s))/\w'=w:=by
 rcases e0:(s.toList==[110,101,116]) with _|_;rotate_left
 ·have HO:=hid (show frmS s=⟨#[114]⟩ by unfold frmS;rw[if_pos e0]);go_enter func101,ntmps101;go_wp2;go_ret;exact⟨by rw[HO.out];rfl,rfl⟩
 rcases e1:(s.toList==[113,117,101,117,101]) with _|_;rotate_left
 ·have HO:=hid (show frmS s=⟨#[108]⟩ by unfold frmS;rw[if_neg (by rw[e0];decide),if_pos e1]);go_enter func101,ntmps101;go_wp2;go_ret;exact⟨by rw[HO.out];rfl,rfl⟩
 rcases e2:(s.toList==[116,105,109,101,115]) with _|_;rotate_left
 ·have HO:=hid (show frmS s=⟨#[108]⟩ by unfold frmS;rw[if_neg (by rw[e0];decide),if_neg (by rw[e1];decide),if_pos e2]);go_enter func101,ntmps101;go_wp2;go_ret;exact⟨by rw[HO.out];rfl,rfl⟩
 rcases e3:(s.toList==[114,117,110]) with _|_;rotate_left
 ·have HO:=hid (show frmS s=⟨#[110,108]⟩ by unfold frmS;rw[if_neg (by rw[e0];decide),if_neg (by rw[e1];decide),if_neg (by rw[e2];decide),if_pos e3]);go_enter func101,ntmps101;go_wp2;go_ret;exact⟨by rw[HO.out];rfl,rfl⟩
 rcases e4:(s.toList==[115,101,97,114,99,104]) with _|_;rotate_left
 ·have HO:=hid (show frmS s=⟨#[110,108]⟩ by unfold frmS;rw[if_neg (by rw[e0];decide),if_neg (by rw[e1];decide),if_neg (by rw[e2];decide),if_neg (by rw[e3];decide),if_pos e4]);go_enter func101,ntmps101;go_wp2;go_ret;exact⟨by rw[HO.out];rfl,rfl⟩
 rcases e5:(s.toList==[115,116,117,99,107]) with _|_;rotate_left
 ·have HO:=hid (show frmS s=⟨#[110,108]⟩ by unfold frmS;rw[if_neg (by rw[e0];decide),if_neg (by rw[e1];decide),if_neg (by rw[e2];decide),if_neg (by rw[e3];decide),if_neg (by rw[e4];decide),if_pos e5]);go_enter func101,ntmps101;go_wp2;go_ret;exact⟨by rw[HO.out];rfl,rfl⟩
 rcases e6:(s.toList==[119,97,121]) with _|_;rotate_left
 ·have HO:=hid (show frmS s=⟨#[110,110]⟩ by unfold frmS;rw[if_neg (by rw[e0];decide),if_neg (by rw[e1];decide),if_neg (by rw[e2];decide),if_neg (by rw[e3];decide),if_neg (by rw[e4];decide),if_neg (by rw[e5];decide),if_pos e6]);go_enter func101,ntmps101;go_wp2;go_ret;exact⟨by rw[HO.out];rfl,rfl⟩
 rcases e7:(s.toList==[102,114,101,101]) with _|_;rotate_left
 ·have HO:=hid (show frmS s=⟨#[110,110,110]⟩ by unfold frmS;rw[if_neg (by rw[e0];decide),if_neg (by rw[e1];decide),if_neg (by rw[e2];decide),if_neg (by rw[e3];decide),if_neg (by rw[e4];decide),if_neg (by rw[e5];decide),if_neg (by rw[e6];decide),if_pos e7]);go_enter func101,ntmps101;go_wp2;go_ret;exact⟨by rw[HO.out];rfl,rfl⟩
 rcases e8:(s.toList==[101,110,116,101,114]) with _|_;rotate_left
 ·have HO:=hid (show frmS s=⟨#[110,120,110]⟩ by unfold frmS;rw[if_neg (by rw[e0];decide),if_neg (by rw[e1];decide),if_neg (by rw[e2];decide),if_neg (by rw[e3];decide),if_neg (by rw[e4];decide),if_neg (by rw[e5];decide),if_neg (by rw[e6];decide),if_neg (by rw[e7];decide),if_pos e8]);go_enter func101,ntmps101;go_wp2;go_ret;exact⟨by rw[HO.out];rfl,rfl⟩
 rcases e9:(s.toList==[108,111,103]) with _|_;rotate_left
 ·have HO:=hid (show frmS s=⟨#[]⟩ by unfold frmS;rw[if_neg (by rw[e0];decide),if_neg (by rw[e1];decide),if_neg (by rw[e2];decide),if_neg (by rw[e3];decide),if_neg (by rw[e4];decide),if_neg (by rw[e5];decide),if_neg (by rw[e6];decide),if_neg (by rw[e7];decide),if_neg (by rw[e8];decide),if_pos e9]);go_enter func101,ntmps101;go_wp2;go_ret;exact⟨by rw[HO.out];rfl,rfl⟩
 rcases e10:(s.toList==[114,117,110,115]) with _|_;rotate_left
 ·have HO:=hid (show frmS s=⟨#[]⟩ by unfold frmS;rw[if_neg (by rw[e0];decide),if_neg (by rw[e1];decide),if_neg (by rw[e2];decide),if_neg (by rw[e3];decide),if_neg (by rw[e4];decide),if_neg (by rw[e5];decide),if_neg (by rw[e6];decide),if_neg (by rw[e7];decide),if_neg (by rw[e8];decide),if_neg (by rw[e9];decide),if_pos e10]);go_enter func101,ntmps101;go_wp2;go_ret;exact⟨by rw[HO.out];rfl,rfl⟩
 have HO:=hid (show frmS s=⟨#[45]⟩ by unfold frmS;rw[if_neg (by rw[e0];decide),if_neg (by rw[e1];decide),if_neg (by rw[e2];decide),if_neg (by rw[e3];decide),if_neg (by rw[e4];decide),if_neg (by rw[e5];decide),if_neg (by rw[e6];decide),if_neg (by rw[e7];decide),if_neg (by rw[e8];decide),if_neg (by rw[e9];decide),if_neg (by rw[e10];decide)]);go_enter func101,ntmps101;go_wp2;go_ret;exact⟨by rw[HO.out];rfl,rfl⟩
def zaS(f:ByteArray)(n:Nat):Bool:=if (f.data.toList.getLast?==some 114||f.data.toList.getLast?==some 108)=true then decide (f.size<=n) else n==f.size
def zdh:List ByteArray:=[⟨#[114]⟩,⟨#[108]⟩,⟨#[110,108]⟩,⟨#[110,110]⟩,⟨#[110,110,110]⟩,⟨#[110,120,110]⟩,⟨#[]⟩,⟨#[45]⟩]
theorem zo3 (f:ByteArray) (hf:f ∈ zdh) (n:Nat) (w:World) :
  Calls prog 102 #[.string f,.int .i64 (n:Int)] w fun e w'=>e= .returned (.bool (zaS f n))/\w'=w:=by
 simp only[zdh,List.mem_cons,List.not_mem_nil,or_false] at hf;rcases hf with rfl|rfl|rfl|rfl|rfl|rfl|rfl|rfl
 ·have HO:=hid (show zaS ⟨#[114]⟩ n=decide ((1:Int)<=(n:Int)) by unfold zaS;rw[decide_eq_decide.2 (show((1:Int)<=(n:Int))↔1<=n by omega)];rfl);go_enter func102,ntmps102;go_wp2;go_ret;exact⟨zae HO.out.symm,rfl⟩
 ·have HO:=hid (show zaS ⟨#[108]⟩ n=decide ((1:Int)<=(n:Int)) by unfold zaS;rw[decide_eq_decide.2 (show((1:Int)<=(n:Int))↔1<=n by omega)];rfl);go_enter func102,ntmps102;go_wp2;go_ret;exact⟨zae HO.out.symm,rfl⟩
 ·have HO:=hid (show zaS ⟨#[110,108]⟩ n=decide ((2:Int)<=(n:Int)) by unfold zaS;rw[decide_eq_decide.2 (show((2:Int)<=(n:Int))↔2<=n by omega)];rfl);go_enter func102,ntmps102;go_wp2;go_ret;exact⟨zae HO.out.symm,rfl⟩
 ·have HO:=hid (show zaS ⟨#[110,110]⟩ n=((n:Int)==2) by unfold zaS;rw[Bool.eq_iff_iff,beq_iff_eq];show(n==2)=true↔_;rw[beq_iff_eq];omega);go_enter func102,ntmps102;go_wp2;go_ret;exact⟨zae HO.out.symm,rfl⟩
 ·have HO:=hid (show zaS ⟨#[110,110,110]⟩ n=((n:Int)==3) by unfold zaS;rw[Bool.eq_iff_iff,beq_iff_eq];show(n==3)=true↔_;rw[beq_iff_eq];omega);go_enter func102,ntmps102;go_wp2;go_ret;exact⟨zae HO.out.symm,rfl⟩
 ·have HO:=hid (show zaS ⟨#[110,120,110]⟩ n=((n:Int)==3) by unfold zaS;rw[Bool.eq_iff_iff,beq_iff_eq];show(n==3)=true↔_;rw[beq_iff_eq];omega);go_enter func102,ntmps102;go_wp2;go_ret;exact⟨zae HO.out.symm,rfl⟩
 ·have HO:=hid (show zaS ⟨#[]⟩ n=((n:Int)==0) by unfold zaS;rw[Bool.eq_iff_iff,beq_iff_eq];show(n==0)=true↔_;rw[beq_iff_eq];omega);go_enter func102,ntmps102;go_wp2;go_ret;exact⟨zae HO.out.symm,rfl⟩
 ·have HO:=hid (show zaS ⟨#[45]⟩ n=((n:Int)==1) by unfold zaS;rw[Bool.eq_iff_iff,beq_iff_eq];show(n==1)=true↔_;rw[beq_iff_eq];omega);go_enter func102,ntmps102;go_wp2;go_ret;exact⟨zae HO.out.symm,rfl⟩
theorem zbV{c:Prop} [Decidable c]{a b:ByteArray}{l:List ByteArray}(ha:a∈l)(hb:b∈l):(if c then a else b)∈l:=by
 split
 ·exact ha
 ·exact hb
theorem zsa(s:ByteArray):frmS s∈zdh:=by
 unfold frmS;exact zbV (by simp[zdh]) (zbV (by simp[zdh]) (zbV (by simp[zdh]) (zbV (by simp[zdh]) (zbV (by simp[zdh]) (zbV (by simp[zdh]) (zbV (by simp[zdh]) (zbV (by simp[zdh]) (zbV (by simp[zdh]) (zbV (by simp[zdh]) (zbV (by simp[zdh]) (by simp[zdh])))))))))))
theorem zjU:(prog.info? 5).map (fun i=>(i.zero,i.size,i.bytes))=some (some (.int .u8 0),1,1):=by kernel_rfl
theorem zsQ:[(Value.int .u8 10)]=zaU [10]:=rfl
theorem zsR{ls:List ByteArray}(k:Nat):(catL (ls.take k)).size<=(catL ls).size:=by
 conv=>rhs;rw[<-List.take_append_drop k ls,zgu,ByteArray.size_append]
 omega
theorem zhR (A:Option Addr) (n c B:Nat) (ls:List ByteArray) (w:World) (h:zad w B 1 A n (strs ls)) (hB:B <= w.heap.size) (hn:n <= 1048576) (hs:(catL ls).size <= 35184373137408) :
  Calls prog 44 #[.slice A n c] w fun e w'=>e= .returned (.string (catL ls))/\Below w.heap.size w w':=by
 have HR:=hid h;have hlen:ls.length=n:=by have:=h.1;rw[za6] at this;omega
 have HL:=hid hlen;have acc0:=Acc.made w 5 1;have HS:=hid (fun k=>zsR (ls:=ls) k);clear h hlen;go_enter func44,ntmps44
 go_wp2_with fail
 go_loopw [3,4] (fun o i wr=>∃(k:Nat) (g:Nat) (d:Nat),k<=n/\i= .int .i64 (k:Int)/\o= .slice (some ⟨g,0,none⟩) (catL (ls.take k)).size d/\Acc w.heap.size w.heap.size 5 1 w wr (some ⟨g,0,none⟩) (catL (ls.take k)).size d (zaU (catL (ls.take k)).data.toList)) (fun _ i _=>n-(RowKit.intOf i).toNat)
 case atStart=>exact⟨0,_,_,Nat.zero_le _,rfl,rfl,acc0⟩
 case round=>
  obtain⟨k,g,d,hk,rfl,rfl,hacc⟩:=hrel;have HA:=hid hacc;have HBr:=hid (hacc.below (B:=w.heap.size) lr lr);clear acc0 hacc;have hk0:(0:Int)<=k:=by omega
  by_cases hlt:k<n
  ·obtain⟨x,b,off,he,rfl,hb,c0⟩:=zaP (HR.out.on hB HBr.out) hlt;have hkn:(k:Int)<n:=by omega
   have HST:=hid (zhx he);have h1:=HS.out (k+1);rw[HST.out,ByteArray.size_append,ByteArray.size_append] at h1;have hx1:(⟨#[10]⟩:ByteArray).size=1:=rfl;obtain⟨lg,hlg⟩:∃y,catL (ls.take k)=y:=⟨_,rfl⟩
   rw[hlg] at HA h1 HST⊢;have hsm:lg.size+x.size<100000000000000:=by omega
   have hsm2:lg.size+x.size<100000000000000/\(lg.size+x.size+1)*1<=140737488355328:=by omega
   clear he hlg
   go_wp2_with (at_builtin;first|(refine zm6 rfl _ _ 22 9 rfl 5 underlying22 underlying9 zjU HA.out lr rfl x rfl hsm ?_;intro A2 d2 w9 hacc2;have HA9:=hid hacc2;clear hacc2)|(refine ziX rfl _ _ 22 rfl 5 _ 1 1 underlying22 zjU rfl (by decide) HA9.out lr rfl [.int .u8 10] rfl rfl (fun u hu=>by simp at hu;subst hu;rfl) hsm2.1 hsm2.2 ?_;intro A3 d3 w8 hacc3;have HA8:=hid hacc3;clear hacc3))
   go_roundw
   case rel=>
    have h8:=HA8.out;rw[zsQ,zjB] at h8
    obtain⟨g2,rfl⟩:∃g2,A3=some ⟨g2,0,none⟩:=by
     rcases h8.own.2 with ⟨e1,e2⟩|⟨g2,cap,cur,e1,_⟩
     ·omega
     ·injection e1 with e1;exact⟨g2,e1⟩
    refine⟨k+1,g2,d3,by omega,by go_num,?_,?_⟩
    ·rw[HST.out,ByteArray.size_append,ByteArray.size_append,hx1];rfl
    ·rw[HST.out,ByteArray.size_append,ByteArray.size_append,hx1,zcB,zcB];rw[List.append_assoc] at h8;exact h8
   case measure=>simp[RowKit.intOf];omega
  ·obtain rfl:n=k:=by omega
   have HT:=hid (show ls.take n=ls by rw[<-HL.out,List.take_length]);rw[HT.out] at HA⊢;obtain⟨lg,hlg⟩:∃y,catL ls=y:=⟨_,rfl⟩
   rw[hlg] at HA⊢;have HLG:=hid hlg;obtain⟨L,hL⟩:∃L,lg.data.toList=L:=⟨_,rfl⟩
   have hLs:L.length=lg.size:=by rw[<-hL,za8]
   have hcell:∀j (hj:j<L.length),wr.cell? ((⟨g,0,none⟩:Addr).add j)=some (.int .u8 (L[j].toNat:Int)):=fun j hj=>by
    have h9:=(HA.out.sl (lo:=w.heap.size) lr lr).cellAt j (by rw[Nat.mul_one,<-hLs];exact hj);rw[zdE,Nat.zero_add,h9,hL];simp[zaU,hj]
   have hcv:=run_convert_bytes_back (P:=prog) wr 22 9 5 ⟨g,0,none⟩ d L underlying22 underlying5 underlying9 hcell;have hLb:(⟨L.toArray⟩:ByteArray)=lg:=by rw[<-hL]
   rw[hLs,hLb] at hcv;clear hcell hL hLs hLb hlg;go_wp2;go_ret;exact⟨by rw[HLG.out];rfl,HBr.out⟩
end
section
open Go.RowKit Go.Lib Go.Proofs.Tryz
theorem zhZ{d:Dk}(h:okDk d=true):∀r∈d.runs,1<=r.way.length/\r.way.length<=1048576:=by
 intro r hr;obtain⟨k,hk,he⟩:=List.getElem_of_mem hr;have hq:=zbG (zaT h).2.1 (k:=k) (r:=r) (by rw[List.getElem?_eq_getElem hk,he]);have hw:=zaJ hq.1;omega
structure zhv (w w':World) (h':DkH) (d':Dk) (rh':List RnH) (LA:Option Addr) (ln lc:Nat) (lines:List ByteArray):Prop where
 own:OwnD w' w.heap.size w'.heap.size h' d' rh'
 row:Sl w' w.heap.size w'.heap.size 9 1 LA ln lc (strs lines)
 lne:∀b,inB LA b->¬inD h' rh' b
 bel:Below w.heap.size w w'
theorem Sl.cap_ge{w:World}{lo hi size n c:Nat}{t:TypeId}{A:Option Addr}{xs:List Value}(h:Sl w lo hi t size A n c xs):n<=c:=by
 rcases h.form with ⟨_,h1,h2⟩|⟨g,cur,_,_,_,_,hc,_⟩<;>omega
theorem Sl.plainA{w:World}{lo hi size n c:Nat}{t:TypeId}{A:Option Addr}{xs:List Value}(h:Sl w lo hi t size A n c xs):zd6 A:=by
 intro ad had;rcases h.form with ⟨h0,_⟩|⟨g,cur,hg,_⟩
 ·rw[h0] at had;cases had
 ·rw[hg] at had;injection had with had;subst had;rfl
theorem OwnD.nil9(w:World)(lo hi:Nat):OwnD w lo hi ⟨none,0,0,none,0,0,none,0,0⟩ dk00 []:=
 ⟨Sl.nil _ _ _ _ _,Sl.nil _ _ _ _ _,OwnR.nil _ _ _,fun b hb=>absurd hb zb4,fun b hb=>absurd hb zb4,fun b hb=>absurd hb zb4⟩
theorem zix{w v V:World}{lo:Nat}{h':DkH}{d':Dk}{rh':List RnH}{LA:Option Addr}{ln lc:Nat}{lines:List ByteArray}(b:Below w.heap.size w v)(hO:Only (w.heap.size+1) (w.heap.size+1+1) v V)(hlo:w.heap.size+1+1<=lo)(o:OwnD v lo v.heap.size h' d' rh')(s:Sl v lo v.heap.size 9 1 LA ln lc (strs lines))(ne:∀b,inB LA b->¬inD h' rh' b):zhv w V h' d' rh' LA ln lc lines:=by
 have hz:=hO.size;have hb:=b.size;refine⟨?_,(s.apart hO (.inr hlo)).wide (by omega) hz,ne,?_⟩
 ·exact(o.off (S:=fun b=>b=w.heap.size+1) ⟨hO.os,hO.tape,hO.output,hO.size,fun k hk hn=>hO.block k hk (by omega)⟩ (fun b hb e=>by have:=(o.inD_lt hb).1;omega)).wide (by omega) hz
 ·exact b.trans (hO.below (by omega) hb)
theorem zgU{g b:Nat}(h:inB (some (⟨g,0,none⟩:Addr)) b):b=g:=by
 obtain⟨ad,e1,e2⟩:=h;injection e1 with e1;subst e1;exact e2.symm
theorem zje{w v V:World}{lo:Nat}{h':DkH}{d':Dk}{rh':List RnH}{s:ByteArray}(b:Below w.heap.size w v)(hO:Only (w.heap.size+1) (w.heap.size+1+1) (v.alloc (.cells #[.string s] 9)) V)(hlo:w.heap.size+1+1<=lo)(hv:lo<=v.heap.size)(o:OwnD v lo v.heap.size h' d' rh'):zhv w V h' d' rh' (some ⟨v.heap.size,0,none⟩) 1 1 [s]:=by
 have a:Below v.heap.size v (v.alloc (.cells #[.string s] 9)):=bal _;exact zix (zac b a lr) hO hlo ((o.on a).wide lr a.size) (Sl.one9 hv) fun c hc hd=>by have:=zgU hc;have:=(o.inD_lt hd).2;omega
theorem zmD{w v V:World}{lo:Nat}{h':DkH}{d':Dk}{rh':List RnH}{s:ByteArray}(b:Below w.heap.size w v)(hO:Only (w.heap.size+1) (w.heap.size+1+1) v V)(hlo:w.heap.size+1+1<=lo)(o:OwnD v lo v.heap.size h' d' rh'):zhv w (V.alloc (.cells #[.string s] 9)) h' d' rh' (some ⟨V.heap.size,0,none⟩) 1 1 [s]:=by
 have k:=zix (LA:=none) (ln:=0) (lc:=0) (lines:=[]) b hO hlo o (Sl.nil _ _ _ _ _) fun c hc=>absurd hc zb4;have a:Below V.heap.size V (V.alloc (.cells #[.string s] 9)):=bal _;have hz:=k.bel.size;exact⟨(k.own.on a).wide lr a.size,Sl.one9 hz,fun c hc hd=>by have:=zgU hc;have:=(k.own.inD_lt hd).2;omega,zac k.bel a lr⟩
theorem zny{w:World}{lo hi:Nat}{h:DkH}{d:Dk}{rh:List RnH}(o:OwnD w lo hi h d rh)(ok:okDk d=true):DkS h d:=by
 obtain⟨h1,h2,h3⟩:=o.sizes;obtain⟨k1,k2,k3⟩:=zaT ok;have g1:=(zd2 k1).2.1;have g2:=zd8 (zaV k2);have g3:=zbB k2;exact⟨by omega,by omega,by omega,fun k r hk=>(zhZ ok r (List.mem_of_getElem? hk)).2,by have:=(zgI k3).1;omega⟩
theorem zls(w:World)(h:CnP w):Calls prog 35 #[.int .i64 7] w fun e w'=>e= .returned (.string (cnm.getD 7 ⟨#[]⟩))/\w'=w:=zhz 7 (by decide) w h
theorem zmG{w v V:World}(b:Below w.heap.size w v)(hO:Only (w.heap.size+1) (w.heap.size+1+1) v V):zhv w V ⟨none,0,0,none,0,0,none,0,0⟩ dk00 [] none 0 0 []:=
 zix b hO lr (OwnD.nil9 _ _ _) (Sl.nil _ _ _ _ _) fun b hb=>absurd hb zb4
theorem zrL{d:Dk}{line:ByteArray}(h:okDk d=false):cmdF d line=⟨dk00,[],1⟩:=by
 unfold cmdF;simp only;rw[if_pos h]
section
variable {d:Dk}{line s0 sh:ByteArray}{ws:List ByteArray}{ns:List Int}
theorem zq3(h:okDk d=true)(hws:zah 32 line=ws)(h0:zag ws 0=s0)(hh:hasW zb9 s0=false):cmdF d line=⟨dk00,[],7⟩:=by
 subst hws h0;unfold cmdF;simp only;rw[if_neg (by rw[h];decide),if_pos hh]
theorem zrN(h:okDk d=true)(hws:zah 32 line=ws)(h0:zag ws 0=s0)(hsh:shp s0=sh)(hh:hasW zb9 s0=true)(hf:ws.length<sh.size+1\/(zci sh=false/\sh.size+1<ws.length)):cmdF d line=⟨dk00,[],7⟩:=by
 subst hws h0 hsh;unfold cmdF;simp only;rw[if_neg (by rw[h];decide),if_neg (by rw[hh];decide),if_pos hf]
theorem zmF(h:okDk d=true)(hws:zah 32 line=ws)(h0:zag ws 0=s0)(hsh:shp s0=sh)(hh:hasW zb9 s0=true)(hf:¬(ws.length<sh.size+1\/(zci sh=false/\sh.size+1<ws.length)))(hn:zaD sh (ws.drop 1) 0 []=none):cmdF d line=⟨d,[errL 7],0⟩:=by
 subst hws h0 hsh;unfold cmdF;simp only;rw[if_neg (by rw[h];decide),if_neg (by rw[hh];decide),if_neg hf,hn]
theorem zrM(h:okDk d=true)(hws:zah 32 line=ws)(h0:zag ws 0=s0)(hsh:shp s0=sh)(hh:hasW zb9 s0=true)(hf:¬(ws.length<sh.size+1\/(zci sh=false/\sh.size+1<ws.length)))(hn:zaD sh (ws.drop 1) 0 []=some ns)(hc:(execF d ws ns).code≠0):cmdF d line=⟨d,[errL (execF d ws ns).code.toNat],0⟩:=by
 subst hws h0 hsh;unfold cmdF;simp only;rw[if_neg (by rw[h];decide),if_neg (by rw[hh];decide),if_neg hf,hn];simp only;rw[if_pos hc]
theorem zrO(h:okDk d=true)(hws:zah 32 line=ws)(h0:zag ws 0=s0)(hsh:shp s0=sh)(hh:hasW zb9 s0=true)(hf:¬(ws.length<sh.size+1\/(zci sh=false/\sh.size+1<ws.length)))(hn:zaD sh (ws.drop 1) 0 []=some ns)(hc:(execF d ws ns).code=0):cmdF d line=execF d ws ns:=by
 subst hws h0 hsh;unfold cmdF;simp only;rw[if_neg (by rw[h];decide),if_neg (by rw[hh];decide),if_neg hf,hn];simp only;rw[if_neg (by rw[hc];decide)]
theorem zrP(hws:zah 32 line=ws)(h0:zag ws 0=s0)(hsh:shp s0=sh)(hh:hasW zb9 s0=true)(hf:¬(ws.length<sh.size+1\/(zci sh=false/\sh.size+1<ws.length)))(hn:zaD sh (ws.drop 1) 0 []=some ns)(hl:line.size<=1048576):zsC ws ns:=by
 subst hws h0 hsh;exact⟨hh,hf,hn,Nat.le_trans (zpc line) (by omega)⟩
end
theorem suf1(l:List UInt8)(c:UInt8):Lib.hasSuffix l [c]=(l.getLast?==some c):=by
 unfold Lib.hasSuffix;rw[Bool.eq_iff_iff,List.isSuffixOf_iff_suffix,beq_iff_eq];constructor
 ·rintro ⟨t,rfl⟩;simp
 ·intro h;obtain⟨ys,h⟩:=List.getLast?_eq_some_iff.1 h;exact⟨ys,h.symm⟩
theorem zlR(sh:ByteArray):zci sh=(Lib.hasSuffix sh.data.toList [43]||Lib.hasSuffix sh.data.toList [42]):=by
 rw[suf1,suf1];rfl
theorem zrz{sh:ByteArray}(h:zci sh=true):0<sh.size:=by
 rcases Nat.eq_zero_or_pos sh.size with h0|h0
 ·have:sh.data.toList=[]:=List.eq_nil_of_length_eq_zero (by rw[za8];exact h0);unfold zci at h;rw[this] at h
  cases h
 ·exact h0
theorem zsi{sh:ByteArray}{k q:Nat}(hq:min k (sh.size-1)=q)(hl:q<sh.size):zbh sh k=sh[q]:=by
 subst hq;unfold zbh;rw[List.getD_eq_getElem?_getD,List.getElem?_eq_getElem (by rw[za8];exact hl)]
 rfl
theorem zrF(line:ByteArray):(zah 32 line).length<=line.size+1:=by
 have h1:=zc2 32 line;have h2:line.data.toList.count 32<=line.size:=by rw[<-za8 line];exact List.count_le_length
 omega
end
section
open Go.RowKit Go.Lib Go.Proofs.Tryz
structure Says (w:World) (lo g:Nat) (cs:Array Value) (A:Option Addr) (n c:Nat) (ls:List ByteArray):Prop where
 blk:Blk w g 74 cs
 fld:cs[5]?=some (.slice A n c)
 sl:Sl w lo w.heap.size 9 1 A n c (strs ls)
 ne:∀ad,A=some ad->ad.block≠g
theorem Says.on{w w':World}{lo g:Nat}{cs:Array Value}{A:Option Addr}{n c:Nat}{ls:List ByteArray}(h:Says w lo g cs A n c ls)(hb:Below w.heap.size w w'):Says w' lo g cs A n c ls:=
 ⟨h.blk.on hb,h.fld,(h.sl.on hb).low,h.ne⟩
structure Said (w w':World) (lo g:Nat) (cs:Array Value) (A:Option Addr) (n:Nat) (ls:List ByteArray) (A':Option Addr) (c':Nat):Prop where
 says:Says w' lo g (cs.setIfInBounds 5 (.slice A' n c')) A' n c' ls
 off:Off (fun b=>b=g\/inB A b) w w'
 new:∀b,b<w.heap.size->b≠g->¬inB A b->¬inB A' b
theorem zbR (lo g:Nat) (cs:Array Value) (A:Option Addr) (n c:Nat) (ls:List ByteArray) (s:ByteArray) (w:World) (h:Says w lo g cs A n c ls) (hlo:lo <= w.heap.size) (hn:n <= 1048576) :
  Calls prog 43 #[.pointer (some ⟨g,0,none⟩),.string s] w fun e w'=>e= .returned (.tuple #[])/\∃A' c',Said w w' lo g cs A (n+1) (ls++ [s]) A' c':=by
 have c5:w.cell? ⟨g,5,none⟩=some (.slice A n c):=by rw[h.blk.cell,h.fld]
 have HH:=hid h;have HG:=hid h.blk.lt;have HNE:=hid h.ne;have HS:=hid h.sl;have h5:5<cs.size:=(Array.getElem?_eq_some_iff.1 h.fld).1;have H5:=hid h5;clear h h5;go_enter func43,ntmps43
 go_wp2_with (at_builtin;refine zat rfl _ _ 24 rfl 9 _ 1 16 underlying24 zbu rfl (by decide) (by decide) HS.out hlo rfl [.string s] w.heap.size rfl rfl rfl (fun u hu=>by simp at hu;subst hu;rfl) (by omega) ?_;intro A2 d2 w9 hs9 b9 z9 f9 k9;have HS9:=hid hs9;have HO9:=hid (zb5 b9 f9);have HK9:=hid k9;have y9:Blk w9 g 74 cs:=(f9 g HG.out HNE.out).trans HH.out.blk;have HY9:=hid y9;have c59:w9.cell? ⟨g,5,none⟩=some (.slice A n c):=(by rw[y9.cell,HH.out.fld]);have f59:=y9.frozen 5;clear hs9 b9 z9 f9 k9 y9)
 go_end0;refine⟨rfl,A2,d2,⟨HY9.out.set_ 5 _,?_,?_,HK9.out g HG.out HNE.out⟩,?_,?_⟩
 ·rw[Array.getElem?_setIfInBounds_self_of_lt H5.out]
 ·have:=(HS9.out.off ((Off.refl (fun b=>b=g) w9).setCell (p:=⟨g,5,none⟩) rfl (.slice A2 (n+1) d2)) (fun b hb e=>by
   obtain⟨ad,e1,e2⟩:=hb;exact HK9.out g HG.out HNE.out ad e1 (e2.trans e))).low
  rw[show strs (ls++ [s])=strs ls++ [.string s] by simp[strs]];exact this
 ·exact(HO9.out.mono (fun b hb=>.inr hb)).setCell (.inl rfl) _
 ·intro b hb hg hA ⟨ad,e1,e2⟩;exact HK9.out b hb (fun ad' e h=>hA ⟨ad',e,h⟩) ad e1 e2
theorem Said.after{w w1 w':World}{lo g n c':Nat}{cs:Array Value}{A A':Option Addr}{ls:List ByteArray}(b:Below w.heap.size w w1)(h:Said w1 w' lo g cs A n ls A' c'):Said w w' lo g cs A n ls A' c':=
 ⟨h.says,(Off.of_below b _).trans h.off,fun k hk hg hA=>h.new k (Nat.lt_of_lt_of_le hk b.size) hg hA⟩
theorem zmw (lo g:Nat) (cs:Array Value) (A:Option Addr) (n c:Nat) (ls:List ByteArray) (k:Nat) (w:World) (h:Says w lo g cs A n c ls) (hlo:lo <= w.heap.size) (hn:n <= 1048576) (hk:k <= 10) (hk0:k ≠ 0) :
  Calls prog 41 #[.pointer (some ⟨g,0,none⟩),.int .i64 (k:Int)] w fun e w'=>e= .returned (.bool true)/\∃A' c',Said w w' lo g cs A (n+1) (ls++ [errL k]) A' c':=by
 have HN:=hid (znN k hk w);have HE:=hid (show errL k=(⟨#[101,114,114,111,114,32]⟩:ByteArray)++cnm.getD k ⟨#[]⟩ from rfl)
 have hsz:(cnm.getD k ⟨#[]⟩).size<=20:=by
  have:k=0\/k=1\/k=2\/k=3\/k=4\/k=5\/k=6\/k=7\/k=8\/k=9\/k=10:=by omega
  rcases this with rfl|rfl|rfl|rfl|rfl|rfl|rfl|rfl|rfl|rfl|rfl<;>decide
 obtain⟨x,hx⟩:∃z,cnm.getD k ⟨#[]⟩=z:=⟨_,rfl⟩
 rw[hx] at HN HE hsz;have HS:=hid (fun(w1:World) (b:Below w.heap.size w w1)=>zbR lo g cs A n c ls (errL k) w1 (h.on b) (Nat.le_trans hlo b.size) hn);have hki:((k:Int)==0)=false:=by rw[beq_eq_false_iff_ne];omega
 have ov1:¬(9223372036854775807<6+x.size):=by omega
 clear h hx;go_enter func41,ntmps41
 go_wp2_with fail
 refine HN.out.mono ?_;rintro e w1 ⟨rfl,b1⟩;have HB1:=hid b1;clear b1
 go_wp2_with fail
 rw[<-HE.out];refine(HS.out w1 HB1.out).mono ?_;rintro e w2 ⟨rfl,A',c',hs⟩;have HSS:=hid (hs.after HB1.out);clear hs;go_wp2;go_ret;exact⟨rfl,A',c',HSS.out⟩
def rowT(l:List Int)(k:Nat):ByteArray:=if k=0 then ⟨#[45]⟩ else zab (numT (l.take k))
theorem zgW(c:UInt8):∀(l:List (List UInt8)) (x:List UInt8),l≠[]->zaF c (l++ [x])=zaF c l++c::x
 | [y],x,_=>rfl
 |y::z::r,x,_=>by
  rw[List.cons_append,List.cons_append,zaF,<-List.cons_append,zgW c (z::r) x (by simp),zaF,List.append_assoc]
  rfl
theorem zn9{l:List Int}{x:Int}(h:l[0]?=some x):rowT l 1=zab (itoa x):=by
 unfold rowT;rw[if_neg (by decide),List.take_add_one,h]
 rfl
theorem zlO{l:List Int}{k:Nat}{x:Int}(h:l[k]?=some x)(hk:k≠0):rowT l (k+1)=rowT l k++(⟨#[32]⟩++zab (itoa x)):=by
 unfold rowT;rw[if_neg (by omega),if_neg hk,List.take_add_one,h,Option.toList_some,numT,List.map_append,List.map_cons,List.map_nil,zgW,<-numT]
 ·show _=zab (numT (l.take k))++(zab [32]++zab (itoa x));rw[zee,zee]
  rfl
 ·have:=(List.getElem?_eq_some_iff.1 h).1;intro e;have e2:=congrArg List.length e;rw[List.length_map,List.length_take,List.length_nil] at e2;omega
theorem zn8{l:List Int}{n:Nat}(h:l.length=n):rowT l n=zab (zaI l):=by
 unfold rowT zaI;by_cases h0:n=0
 ·subst h0;rw[if_pos rfl,if_pos (List.length_eq_zero_iff.1 h)]
  rfl
 ·rw[if_neg h0,if_neg (by intro e;subst e;exact h0 h.symm),<-h,List.take_length]
theorem zlN{l:List Int}(hs:∀x∈l,i64b x)(k:Nat):(rowT l k).size<=k*21+1:=by
 unfold rowT
 split
 ·show 1<=_;omega
 ·rw[zaj];have h1:=zjq (l:=l.take k) (fun x hx=>hs x (List.mem_of_mem_take hx));have h2:(l.take k).length*21<=k*21:=Nat.mul_le_mul_right _ (by rw[List.length_take];omega);omega
theorem zfy (lo g:Nat) (cs:Array Value) (A:Option Addr) (n c:Nat) (ls:List ByteArray) (R:Option Addr) (m d B:Nat) (l:List Int) (w:World) (h:Says w lo g cs A n c ls) (hr:zad w B 1 R m (ints l)) (hB:B <= w.heap.size) (hlo:lo <= w.heap.size) (hn:n <= 1048576) (hm:m <= 1048576) (hs:∀ x ∈ l,i64b x) :
  Calls prog 181 #[.pointer (some ⟨g,0,none⟩),.slice R m d] w fun e w'=>e= .returned (.tuple #[])/\∃A' c',Said w w' lo g cs A (n+1) (ls++ [zab (zaI l)]) A' c':=by
 have HR:=hid hr;have HL:=hid (zai hr);have HSM:=hid hs;have HSZ:=hid (zlN hs);have HS:=hid (fun(w1:World) (b:Below w.heap.size w w1)=>zbR lo g cs A n c ls (zab (zaI l)) w1 (h.on b) (Nat.le_trans hlo b.size) hn);clear h hr hs;go_enter func181,ntmps181
 go_wp2_with fail
 go_loopw [4,5] (fun o i wr=>∃k:Nat,k<=m/\i= .int .i64 (k:Int)/\o= .string (rowT l k)/\Below w.heap.size w wr) (fun _ i _=>m-(RowKit.intOf i).toNat)
 case atStart=>exact⟨0,Nat.zero_le _,rfl,rfl,Below.refl _ _⟩
 case round=>
  obtain⟨k,hk,rfl,rfl,hbel⟩:=hrel;have HBr:=hid hbel;clear hbel;have hk0:(0:Int)<=k:=by omega
  by_cases hlt:k<m
  ·have hkn:(k:Int)<m:=by omega
   obtain⟨x,b,off,he,rfl,hb,c0⟩:=zax (HR.out.on hB HBr.out) hlt;have hx:=HSM.out x (List.mem_of_getElem? he);have HD:=hid (fun w1=>zbj x w1 hx.1 hx.2);have hil:=zaz hx.1 hx.2;have hsz:=HSZ.out k;by_cases h0:k=0
   ·subst h0;have HST:=hid (zn9 he);obtain⟨rt,hrt⟩:∃z,rowT l 0=z:=⟨_,rfl⟩
    rw[hrt];rw[Nat.add_zero] at c0;clear he hrt hsz
    go_wp2_with fail
    refine(HD.out wr).mono ?_;rintro e w2 ⟨rfl,b2⟩;have HB2:=hid (zac HBr.out b2 lr);rw[<-HST.out];clear b2;go_wp2
    go_roundw
    case rel=>exact⟨1,by omega,by go_num,rfl,HB2.out⟩
    case measure=>simp[RowKit.intOf];omega
   ·have HST:=hid (zlO he h0);have hki:((k:Int)==0)=false:=by rw[beq_eq_false_iff_ne];omega
    obtain⟨it,hit⟩:∃z,zab (itoa x)=z:=⟨_,rfl⟩
    have hits:it.size<=20:=by rw[<-hit,zaj];exact hil
    rw[hit] at HST HD;obtain⟨rt,hrt⟩:∃z,rowT l k=z:=⟨_,rfl⟩
    rw[hrt] at HST hsz⊢;have ov1:¬(9223372036854775807<1+it.size):=by omega
    have ov2:¬(9223372036854775807<rt.size+(1+it.size)):=by omega
    clear he hrt hit hil
    go_wp2_with fail
    refine(HD.out wr).mono ?_;rintro e w2 ⟨rfl,b2⟩;have HB2:=hid (zac HBr.out b2 lr);clear b2;go_wp2
    go_roundw
    case rel=>exact⟨k+1,by omega,by go_num,by rw[HST.out],HB2.out⟩
    case measure=>simp[RowKit.intOf];omega
  ·obtain rfl:k=m:=by omega
   have HE:=hid (zn8 HL.out);rw[HE.out]
   go_wp2_with fail
   refine(HS.out wr HBr.out).mono ?_;rintro e w2 ⟨rfl,A',c',hs⟩;have HSS:=hid (hs.after HBr.out);clear hs;go_wp2;go_end0;exact⟨rfl,A',c',HSS.out⟩
theorem Said.then_{w w1 w2:World}{lo g n1 n2 c1 c2:Nat}{cs:Array Value}{A A1 A2:Option Addr}{ls1 ls2:List ByteArray}(h1:Said w w1 lo g cs A n1 ls1 A1 c1)(h2:Said w1 w2 lo g (cs.setIfInBounds 5 (.slice A1 n1 c1)) A1 n2 ls2 A2 c2):Said w w2 lo g cs A n2 ls2 A2 c2:=by
 have hs:=h2.says;rw[Array.setIfInBounds_setIfInBounds] at hs;refine⟨hs,⟨h2.off.os.trans h1.off.os,h2.off.tape.trans h1.off.tape,h2.off.output.trans h1.off.output,Nat.le_trans h1.off.size h2.off.size,fun k hk hn=>?_⟩,fun b hb hg hA=>h2.new b (Nat.lt_of_lt_of_le hb h1.off.size) hg (h1.new b hb hg hA)⟩;have hg:k≠g:=fun e=>hn (.inl e);have hA:¬inB A k:=fun e=>hn (.inr e);rw[h2.off.block k (Nat.lt_of_lt_of_le hk h1.off.size) (fun e=>e.elim hg (h1.new k hk hg hA)),h1.off.block k hk hn]
theorem ztY{w:World}{lo hi size n c:Nat}{t:TypeId}{A:Option Addr}{xs:List Value}(h:Sl w lo hi t size A n c xs):n<=c:=by
 rcases h.form with ⟨_,h1,h2⟩|⟨g,cur,_,_,_,_,hc,_⟩<;>omega
theorem ziK (lo g:Nat) (cs:Array Value) (A:Option Addr) (n c:Nat) (ls:List ByteArray) (X:Option Addr) (k d B:Nat) (xs:List ByteArray) (w:World) (h:Says w lo g cs A n c ls) (hr:zad w B 1 X k (strs xs)) (hlo:lo <= w.heap.size) (hn:n <= 1048576) (hk:k <= 10000) (hnk:n + k <= 1048576) :
  Calls prog 177 #[.pointer (some ⟨g,0,none⟩),.slice X k d] w fun e w'=>e= .returned (.tuple #[])/\∃A' c',Said w w' lo g cs A (n+k+1) (ls++okL xs) A' c':=by
 have c5:w.cell? ⟨g,5,none⟩=some (.slice A n c):=by rw[h.blk.cell,h.fld]
 have hlen:xs.length=k:=by have:=hr.1;rw[za6] at this;omega
 have HOK:=hid (show ls++okL xs=ls++xs++ [(⟨#[111,107,32]⟩:ByteArray)++zab (itoa (k:Int))] by unfold okL;rw[hlen,List.append_assoc]);have hil:=zaz (n:=(k:Int)) (by omega) (by omega);have HD:=hid (fun w1=>zbj (k:Int) w1 (by omega) (by omega));obtain⟨it,hit⟩:∃z,zab (itoa (k:Int))=z:=⟨_,rfl⟩
 have hits:it.size<=20:=by rw[<-hit,zaj];exact hil
 rw[hit] at HD HOK;have ov1:¬(9223372036854775807<3+it.size):=by omega
 have HSAY:=hid (fun(w1:World) (cs1:Array Value) (A1:Option Addr) (c1:Nat) (h1:Says w1 lo g cs1 A1 (n+k) c1 (ls++xs)) (hl1:lo<=w1.heap.size)=>zbR lo g cs1 A1 (n+k) c1 (ls++xs) ((⟨#[111,107,32]⟩:ByteArray)++it) w1 h1 hl1 hnk);have HH:=hid h;have HG:=hid h.blk.lt;have HNE:=hid h.ne;have HS:=hid h.sl;have hcap:=ztY h.sl;have h5:5<cs.size:=(Array.getElem?_eq_some_iff.1 h.fld).1;have H5:=hid h5;have hf5:=h.blk.frozen 5;by_cases hk0:k=0
 ·subst hk0;obtain rfl:xs=[]:=List.length_eq_zero_iff.1 hlen
  have HW1:=hid (show Said w (w.setCell ⟨g,5,none⟩ (.slice A n c)) lo g cs A (n+0) (ls++ []) A c from⟨⟨h.blk.set_ 5 _,by rw[Array.getElem?_setIfInBounds_self_of_lt h5],by
   have:=(h.sl.off ((Off.refl (fun b=>b=g) w).setCell (p:=⟨g,5,none⟩) rfl (.slice A n c)) (fun b hb e=>by
    obtain⟨ad,e1,e2⟩:=hb;exact h.ne ad e1 (e2.trans e))).low
   rw[List.append_nil];exact this,h.ne⟩,(Off.refl _ w).setCell (p:=⟨g,5,none⟩) (.inl rfl) _,fun b hb hg hA=>hA⟩)
  clear h hr h5 hit hil hlen;go_enter func177,ntmps177
  go_upto_region 1 with (at_builtin;refine ziY rfl _ _ 24 rfl 9 _ 1 16 underlying24 zbu rfl rfl hcap ?_)
  obtain⟨w1,hw1⟩:∃y,w.setCell ⟨g,5,none⟩ (.slice A n c)=y:=⟨_,rfl⟩
  rw[hw1] at HW1⊢;clear hw1
  go_wp2_with fail
  refine(HD.out w1).mono ?_;rintro e w2 ⟨rfl,b2⟩;have HB2:=hid b2;clear b2
  go_wp2_with fail
  refine(HSAY.out w2 _ _ _ (HW1.out.says.on HB2.out) (Nat.le_trans hlo (Nat.le_trans HW1.out.off.size HB2.out.size))).mono ?_;rintro e w3 ⟨rfl,A3,c3,h3⟩;have H3:=hid (HW1.out.then_ (h3.after HB2.out));clear h3;go_wp2;go_end0;exact⟨rfl,A3,c3,by rw[HOK.out];exact H3.out⟩
 ·obtain⟨b,off,rfl,hb,hc⟩:=hr.at_ (by omega);have HC:=hid hc;have HXL:=hid hr.1;clear h hr h5 hit hil hlen hc;go_enter func177,ntmps177
  go_upto_region 1 with (at_builtin;refine zg6 rfl _ _ 24 rfl 9 _ 1 16 underlying24 zbu rfl (by decide) (by decide) HS.out hlo rfl b off k d (strs xs) rfl HXL.out HC.out (fun u hu=>by simp[strs] at hu;obtain⟨z,_,rfl⟩:=hu;rfl) (by omega) (by omega) ?_;intro A2 d2 w9 hs9 b9 f9 k9;have HS9:=hid hs9;have HO9:=hid (zb5 b9 f9);have HK9:=hid k9;have y9:Blk w9 g 74 cs:=(f9 g HG.out HNE.out).trans HH.out.blk;have HY9:=hid y9;have c59:w9.cell? ⟨g,5,none⟩=some (.slice A n c):=(by rw[y9.cell,HH.out.fld]);have f59:=y9.frozen 5;clear hs9 b9 f9 k9 y9)
  obtain⟨w1,hw1⟩:∃y,w9.setCell ⟨g,5,none⟩ (.slice A2 (n+k) d2)=y:=⟨_,rfl⟩
  have HW1:=hid (show Said w w1 lo g cs A (n+k) (ls++xs) A2 d2 by
   rw[<-hw1];refine⟨⟨HY9.out.set_ 5 _,?_,?_,HK9.out g HG.out HNE.out⟩,?_,?_⟩
   ·rw[Array.getElem?_setIfInBounds_self_of_lt H5.out]
   ·have:=(HS9.out.off ((Off.refl (fun b=>b=g) w9).setCell (p:=⟨g,5,none⟩) rfl (.slice A2 (n+k) d2)) (fun b hb e=>by
     obtain⟨ad,e1,e2⟩:=hb;exact HK9.out g HG.out HNE.out ad e1 (e2.trans e))).low
    rw[show strs (ls++xs)=strs ls++strs xs by simp[strs]];exact this
   ·exact(HO9.out.mono (fun b hb=>.inr hb)).setCell (.inl rfl) _
   ·intro b hb hg hA ⟨ad,e1,e2⟩;exact HK9.out b hb (fun ad' e h=>hA ⟨ad',e,h⟩) ad e1 e2)
  rw[hw1];clear hw1 c5 c59 f59 hf5
  go_wp2_with fail
  refine(HD.out w1).mono ?_;rintro e w2 ⟨rfl,b2⟩;have HB2:=hid b2;clear b2
  go_wp2_with fail
  refine(HSAY.out w2 _ _ _ (HW1.out.says.on HB2.out) (Nat.le_trans hlo (Nat.le_trans HW1.out.off.size HB2.out.size))).mono ?_;rintro e w3 ⟨rfl,A3,c3,h3⟩;have H3:=hid (HW1.out.then_ (h3.after HB2.out));clear h3;go_wp2;go_end0;exact⟨rfl,A3,c3,by rw[HOK.out];exact H3.out⟩
end
end Go.Proofs.YtjalgpioklcbfaaGreatDoor
