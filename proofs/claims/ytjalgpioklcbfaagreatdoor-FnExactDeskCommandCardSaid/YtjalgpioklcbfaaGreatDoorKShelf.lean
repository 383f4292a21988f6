/- DERIVED: THE SHELF's CONTRACTS AT THIS DUMP, IN PLAIN WORDS (tools/lay-plain.mjs out of 'TryzShelf.lean', which tools/lay-shelf.mjs wrote): THE SAME DECLARATIONS UNDER THE SAME NAMES: 'import', 'namespace', 'open', 'def', 'theorem' AND NOTHING ELSE: no command of the shelf's: FOR A HAND-IN. Each laying: the table of numbers ('.._ren') and one theorem, a field a fact of the dump's own or the kernel's comparison; each contract: ONE APPLICATION. -/
import Derived.Shelf.Strings.Builder1
import Derived.Shelf.Strings.Builder2
import Derived.Shelf.Strings.OnBuilder
import Derived.Shelf.Small.Bits
import Derived.Shelf.Strconv.Itoa0
import Derived.Shelf.Strconv.Itoa1
import Derived.Shelf.LaysM
import Derived.Shelf.Strconv.Itoa2
import Derived.Shelf.Strconv.Itoa3
import Derived.Shelf.Strconv.Itoa4
import Derived.Shelf.Strconv.ParseIntEmpty
import Derived.Shelf.Strconv.Clone
import Derived.Shelf.Strconv.SyntaxError
import Derived.Shelf.LaysC
import Derived.Shelf.Strconv.ToError
import Derived.Shelf.Strconv.Lower
import Derived.Shelf.Strconv.ParseUint10
import Derived.Shelf.Strconv.ParseUint10Empty
import Derived.Shelf.Strconv.ParseUint10Any
import Derived.Shelf.Strconv.ParseInt10
import Derived.Shelf.Strconv.RangeError
import Derived.Shelf.Strconv.ToErrorRange
import Derived.Shelf.Strconv.ParseUintEmpty
import Derived.Shelf.Strconv.ParseUint10b64
import Derived.Shelf.Strconv.ParseUint10b32
import Derived.Shelf.Strconv.ParseUint10b16
import Derived.Shelf.Strconv.ParseUint10b8
import Derived.Shelf.Strconv.ParseUint10At
import Derived.Shelf.Strconv.ParseInt10At64
import Derived.Shelf.Strconv.ParseInt10At32
import Derived.Shelf.Strconv.ParseInt10At16
import Derived.Shelf.Strconv.ParseInt10At8
import Derived.Shelf.Strconv.ParseInt10All
import Derived.Shelf.Strconv.ParseIntPublic10
import Derived.Shelf.Strconv.ErrVarParseInt
import Derived.Shelf.Strings.Search1
import Derived.Shelf.Strings.Search2
import Derived.Shelf.Strings.Search3
import Derived.Shelf.Strings.Cut
import Derived.Shelf.Strings.Count
import Derived.Shelf.Strings.Shaped
import Derived.Shelf.Strings.Prefix
import Derived.Shelf.Strings.Split
import Derived.Shelf.Strings.SplitShaped
import Derived.Shelf.Unicode.Decode
import Derived.Shelf.Strings.RuneCount
import Derived.Shelf.Strings.Explode
import Derived.Shelf.Bits.Mul64
import Derived.Shelf.Unicode.DecodeSlow
import Derived.Ground.SlgcProg
import Derived.Shelf.SlicesG.Cmp
import Derived.Test.YtjalgpioklcbfaaGreatDoorProg
namespace Go.Proofs
open Go.Shelf
open Go.RowKit in
open Go.RowKit in
open Go.RowKit in
open Go.RowKit in
open Go.RowKit in
def Tryz.lays156_ren:Go.Shelf.Ren:=⟨fun|156=>80|165=>140|166=>141|169=>142|240=>201|241=>202|276=>255|277=>256|n=>n,fun|31=>24|9=>9|3=>3|4=>4|0=>0|20=>20|72=>180|76=>182|70=>178|37=>22|75=>110|127=>236|164=>278|5=>5|80=>152|n=>n,fun|n=>n⟩
theorem Tryz.lays156 : Go.Proofs.Lays.n156 Tryz.prog Tryz.lays156_ren := {
  mixed:=by kernel_rfl
  f156:=Tryz.func80.trans (congrArg some (by kernel_rfl))
  f165:=Tryz.func140.trans (congrArg some (by kernel_rfl))
  f166:=Tryz.func141.trans (congrArg some (by kernel_rfl))
  f169:=Tryz.func142.trans (congrArg some (by kernel_rfl))
  f240:=Tryz.func201.trans (congrArg some (by kernel_rfl))
  f241:=Tryz.func202.trans (congrArg some (by kernel_rfl))
  f276:=Tryz.func255.trans (congrArg some (by kernel_rfl))
  f277:=Tryz.func256.trans (congrArg some (by kernel_rfl))
  t0:=Tryz.underlying0
  a0:=Tryz.isAgg0
  z0:=Tryz.sizeOf0
  v0:=Tryz.zeroValue0
  t3:=Tryz.underlying3
  a3:=Tryz.isAgg3
  z3:=Tryz.sizeOf3
  v3:=Tryz.zeroValue3
  t4:=Tryz.underlying4
  a4:=Tryz.isAgg4
  z4:=Tryz.sizeOf4
  v4:=Tryz.zeroValue4
  t9:=Tryz.underlying9
  a9:=Tryz.isAgg9
  z9:=Tryz.sizeOf9
  v9:=Tryz.zeroValue9
  t20:=Tryz.underlying20
  a20:=Tryz.isAgg20
  z20:=Tryz.sizeOf20
  v20:=Tryz.zeroValue20
  t31:=Tryz.underlying24
  a31:=Tryz.isAgg24
  z31:=Tryz.sizeOf24
  v31:=Tryz.zeroValue24
  t37:=Tryz.underlying22
  a37:=Tryz.isAgg22
  z37:=Tryz.sizeOf22
  v37:=Tryz.zeroValue22
  t70:=Tryz.underlying178
  a70:=Tryz.isAgg178
  z70:=Tryz.sizeOf178
  v70:=Tryz.zeroValue178
  t72:=Tryz.underlying180
  a72:=Tryz.isAgg180
  z72:=Tryz.sizeOf180
  v72:=Tryz.zeroValue180
  t75:=Tryz.underlying110
  a75:=Tryz.isAgg110
  z75:=Tryz.sizeOf110
  v75:=Tryz.zeroValue110
  t76:=Tryz.underlying182
  a76:=Tryz.isAgg182
  z76:=Tryz.sizeOf182
  v76:=Tryz.zeroValue182
  t127:=Tryz.underlying236
  a127:=Tryz.isAgg236
  z127:=Tryz.sizeOf236
  v127:=Tryz.zeroValue236
  t164:=Tryz.underlying278
  a164:=Tryz.isAgg278
  z164:=Tryz.sizeOf278
  v164:=Tryz.zeroValue278}
theorem Tryz.Builder_Extra_156 : Builder.Extra Tryz.prog Tryz.lays156_ren := {
  sizeBuilder:=by kernel_rfl
  liesBuilder:=by kernel_rfl
  t5:=Tryz.underlying5
  a5:=Tryz.isAgg5
  z5:=Tryz.sizeOf5
  v5:=Tryz.zeroValue5
  infoByte:=by kernel_rfl
  cellsByte:=by kernel_rfl
  sizeByte:=by kernel_rfl
  neB5:=by decide}
open Go.RowKit in
/-- No element: the empty string; the world is as it was. (Whatever the slice's address and capacity: a nil slice too.) (LAID: no walk: one application.) -/
theorem Tryz.strings_Join_none (a : Option Addr) (c : Nat) (sep : ByteArray) (w : World) :
    Calls Tryz.prog 80 #[.slice a 0 c, .string sep] w fun e w'=>e= .returned (.string ⟨#[]⟩)/\w'=w:=Any.strings_Join_none Tryz.lays156 Tryz.Builder_Extra_156 a c sep w
open Go.RowKit in
/-- strings.Join: "Join concatenates the elements of its first argument to create a single string. The separator string sep is placed between elements in the resulting string.": HOWEVER MANY ELEMENTS. Below the heap's end the world is as it was. (LAID: no walk: one application.) -/
theorem Tryz.strings_Join (bk o c : Nat) (xs : List ByteArray) (sep : ByteArray) (w : World) (hcells : ∀ (j : Nat) x, xs[j]? = some x -> w.cell? ⟨bk, o + j, none⟩ = some (.string x)) (hbk : bk < w.heap.size) (hN : xs.length <= 140737488355328) (hcap : xs.length <= c) (hlen : (Lib.join (xs.map (·.data.toList)) sep.data.toList).length <= 140737488355328) :
    Calls Tryz.prog 80 #[.slice (some ⟨bk,o,none⟩) xs.length c, .string sep] w fun e w'=>e= .returned (.string ⟨(Lib.join (xs.map (·.data.toList)) sep.data.toList).toArray⟩)/\Below w.heap.size w w':=Any.strings_Join Tryz.lays156 Tryz.Builder_Extra_156 bk o c xs sep w hcells hbk hN hcap hlen
open Go.Lib in
open Go.Lib in
open Go.Lib in
open Go.Lib in
open Go.RowKit Go.Sort Go.Lib in
open Go.RowKit Go.Sort Go.Lib in
open Go.RowKit Go.Sort Go.Lib in
open Go.RowKit Go.Sort Go.Lib in
open Go.RowKit Go.Sort Go.Lib in
open Go.RowKit Go.Sort Go.Lib in
open Go.RowKit Go.Sort Go.Lib in
def Tryz.laysM173_ren:Go.Shelf.Ren:=⟨fun|173=>99|246=>169|283=>225|284=>226|285=>227|286=>228|129=>273|317=>272|318=>274|319=>275|320=>276|337=>306|338=>307|n=>n,fun|2=>2|3=>3|9=>9|4=>4|171=>259|0=>0|53=>92|37=>22|5=>5|173=>262|212=>296|51=>297|20=>20|213=>298|46=>168|232=>345|233=>346|n=>n,fun|17=>4|18=>7|19=>8|n=>n⟩
theorem Tryz.laysM173 : Go.Proofs.LaysM.n173 Tryz.prog Tryz.laysM173_ren := {
  mixed:=by kernel_rfl
  f129:=Tryz.func273.trans (congrArg some (by kernel_rfl))
  f173:=Tryz.func99.trans (congrArg some (by kernel_rfl))
  f246:=Tryz.func169.trans (congrArg some (by kernel_rfl))
  f283:=Tryz.func225.trans (congrArg some (by kernel_rfl))
  f284:=Tryz.func226.trans (congrArg some (by kernel_rfl))
  f285:=Tryz.func227.trans (congrArg some (by kernel_rfl))
  f286:=Tryz.func228.trans (congrArg some (by kernel_rfl))
  f317:=Tryz.func272.trans (congrArg some (by kernel_rfl))
  f318:=Tryz.func274.trans (congrArg some (by kernel_rfl))
  f319:=Tryz.func275.trans (congrArg some (by kernel_rfl))
  f320:=Tryz.func276.trans (congrArg some (by kernel_rfl))
  f337:=Tryz.func306.trans (congrArg some (by kernel_rfl))
  f338:=Tryz.func307.trans (congrArg some (by kernel_rfl))
  t0:=Tryz.underlying0
  a0:=Tryz.isAgg0
  z0:=Tryz.sizeOf0
  v0:=Tryz.zeroValue0
  t2:=Tryz.underlying2
  a2:=Tryz.isAgg2
  z2:=Tryz.sizeOf2
  v2:=Tryz.zeroValue2
  t3:=Tryz.underlying3
  a3:=Tryz.isAgg3
  z3:=Tryz.sizeOf3
  v3:=Tryz.zeroValue3
  t4:=Tryz.underlying4
  a4:=Tryz.isAgg4
  z4:=Tryz.sizeOf4
  v4:=Tryz.zeroValue4
  t5:=Tryz.underlying5
  a5:=Tryz.isAgg5
  z5:=Tryz.sizeOf5
  v5:=Tryz.zeroValue5
  t9:=Tryz.underlying9
  a9:=Tryz.isAgg9
  z9:=Tryz.sizeOf9
  v9:=Tryz.zeroValue9
  t20:=Tryz.underlying20
  a20:=Tryz.isAgg20
  z20:=Tryz.sizeOf20
  v20:=Tryz.zeroValue20
  t37:=Tryz.underlying22
  a37:=Tryz.isAgg22
  z37:=Tryz.sizeOf22
  v37:=Tryz.zeroValue22
  t46:=Tryz.underlying168
  a46:=Tryz.isAgg168
  z46:=Tryz.sizeOf168
  v46:=Tryz.zeroValue168
  t51:=Tryz.underlying297
  a51:=Tryz.isAgg297
  z51:=Tryz.sizeOf297
  v51:=Tryz.zeroValue297
  t53:=Tryz.underlying92
  a53:=Tryz.isAgg92
  z53:=Tryz.sizeOf92
  v53:=Tryz.zeroValue92
  t171:=Tryz.underlying259
  a171:=Tryz.isAgg259
  z171:=Tryz.sizeOf259
  v171:=Tryz.zeroValue259
  t173:=Tryz.underlying262
  a173:=Tryz.isAgg262
  z173:=Tryz.sizeOf262
  v173:=Tryz.zeroValue262
  t212:=Tryz.underlying296
  a212:=Tryz.isAgg296
  z212:=Tryz.sizeOf296
  v212:=Tryz.zeroValue296
  t213:=Tryz.underlying298
  a213:=Tryz.isAgg298
  z213:=Tryz.sizeOf298
  t232:=Tryz.underlying345
  a232:=Tryz.isAgg345
  z232:=Tryz.sizeOf345
  v232:=Tryz.zeroValue345
  t233:=Tryz.underlying346
  a233:=Tryz.isAgg346
  z233:=Tryz.sizeOf346
  v233:=Tryz.zeroValue346
  g17:=by kernel_rfl
  g18:=by kernel_rfl
  g19:=by kernel_rfl
  i0:=by kernel_rfl
  i2:=by kernel_rfl
  i3:=by kernel_rfl
  i4:=by kernel_rfl
  i5:=by kernel_rfl
  i9:=by kernel_rfl
  i20:=by kernel_rfl
  i37:=by kernel_rfl
  i46:=by kernel_rfl
  i51:=by kernel_rfl
  i53:=by kernel_rfl
  i171:=by kernel_rfl
  i173:=by kernel_rfl
  i212:=by kernel_rfl
  i232:=by kernel_rfl
  i233:=by kernel_rfl
  m17:=by kernel_rfl
  m18:=by kernel_rfl
  m19:=by kernel_rfl}
open Go.RowKit Go.Sort Go.Lib in
/-- strconv.FormatInt: "FormatInt returns the string representation of i in the given base": AT BASE 10: i's decimal numeral, for every int64. (LAID: no walk: one application.) -/
theorem Tryz.strconv_FormatInt_10 (n : Int) (h0 : -9223372036854775808 ≤ n) (h1 : n ≤ 9223372036854775807) (w : World) (htab : Lib.TabIs Tryz.prog w "internal/strconv.uint64pow10" .u64 Lib.pow10Tab) :
    Calls Tryz.prog 99 #[.int .i64 n, .int .i64 10] w fun e w'=>e= .returned (.string ⟨(Lib.itoa n).toArray⟩)/\∃k os,w'=grow (w.drewN k) os:=Any.strconv_FormatInt_10 Tryz.laysM173 n h0 h1 w htab
open Go.RowKit Go.Sort Go.Lib in
open Go.RowKit in
open Go.RowKit in
open Go.RowKit in
open Go.RowKit in
open Go.RowKit in
open Go.RowKit in
open Go.RowKit in
open Go.RowKit in
open Go.RowKit in
open Go.RowKit in
open Go.RowKit in
open Go.RowKit in
open Go.RowKit in
open Go.RowKit in
open Go.RowKit in
open Go.RowKit in
open Go.RowKit in
open Go.RowKit in
open Go.RowKit in
open Go.RowKit in
open Go.RowKit in
open Go.RowKit in
open Go.RowKit in
open Go.RowKit in
open Go.RowKit in
open Go.RowKit in
open Go.RowKit in
open Go.RowKit in
open Go.RowKit in
open Go.RowKit in
def Tryz.laysC174_ren:Go.Shelf.Ren:=⟨fun|174=>78|247=>138|245=>139|287=>196|279=>197|280=>198|281=>199|282=>200|321=>250|322=>251|316=>252|171=>254|205=>253|243=>292|246=>169|283=>225|284=>226|285=>227|286=>228|129=>273|317=>272|318=>274|319=>275|320=>276|337=>306|338=>307|n=>n,fun|9=>9|3=>3|2=>2|75=>110|85=>111|4=>4|167=>230|5=>5|53=>92|175=>231|46=>168|168=>233|37=>22|0=>0|210=>276|21=>21|127=>236|145=>318|143=>316|171=>259|173=>262|212=>296|51=>297|20=>20|213=>298|232=>345|233=>346|80=>152|n=>n,fun|15=>2|16=>3|17=>4|18=>7|19=>8|n=>n⟩
theorem Tryz.laysC174 : Go.Proofs.LaysC.n174 Tryz.prog Tryz.laysC174_ren := {
  mixed:=by kernel_rfl
  f129:=Tryz.func273.trans (congrArg some (by kernel_rfl))
  f171:=Tryz.func254.trans (congrArg some (by kernel_rfl))
  f174:=Tryz.func78.trans (congrArg some (by kernel_rfl))
  f205:=Tryz.func253.trans (congrArg some (by kernel_rfl))
  f243:=Tryz.func292.trans (congrArg some (by kernel_rfl))
  f245:=Tryz.func139.trans (congrArg some (by kernel_rfl))
  f246:=Tryz.func169.trans (congrArg some (by kernel_rfl))
  f247:=Tryz.func138.trans (congrArg some (by kernel_rfl))
  f279:=Tryz.func197.trans (congrArg some (by kernel_rfl))
  f280:=Tryz.func198.trans (congrArg some (by kernel_rfl))
  f281:=Tryz.func199.trans (congrArg some (by kernel_rfl))
  f282:=Tryz.func200.trans (congrArg some (by kernel_rfl))
  f283:=Tryz.func225.trans (congrArg some (by kernel_rfl))
  f284:=Tryz.func226.trans (congrArg some (by kernel_rfl))
  f285:=Tryz.func227.trans (congrArg some (by kernel_rfl))
  f286:=Tryz.func228.trans (congrArg some (by kernel_rfl))
  f287:=Tryz.func196.trans (congrArg some (by kernel_rfl))
  f316:=Tryz.func252.trans (congrArg some (by kernel_rfl))
  f317:=Tryz.func272.trans (congrArg some (by kernel_rfl))
  f318:=Tryz.func274.trans (congrArg some (by kernel_rfl))
  f319:=Tryz.func275.trans (congrArg some (by kernel_rfl))
  f320:=Tryz.func276.trans (congrArg some (by kernel_rfl))
  f321:=Tryz.func250.trans (congrArg some (by kernel_rfl))
  f322:=Tryz.func251.trans (congrArg some (by kernel_rfl))
  f337:=Tryz.func306.trans (congrArg some (by kernel_rfl))
  f338:=Tryz.func307.trans (congrArg some (by kernel_rfl))
  t0:=Tryz.underlying0
  a0:=Tryz.isAgg0
  z0:=Tryz.sizeOf0
  v0:=Tryz.zeroValue0
  t2:=Tryz.underlying2
  a2:=Tryz.isAgg2
  z2:=Tryz.sizeOf2
  v2:=Tryz.zeroValue2
  t3:=Tryz.underlying3
  a3:=Tryz.isAgg3
  z3:=Tryz.sizeOf3
  v3:=Tryz.zeroValue3
  t4:=Tryz.underlying4
  a4:=Tryz.isAgg4
  z4:=Tryz.sizeOf4
  v4:=Tryz.zeroValue4
  t5:=Tryz.underlying5
  a5:=Tryz.isAgg5
  z5:=Tryz.sizeOf5
  v5:=Tryz.zeroValue5
  t9:=Tryz.underlying9
  a9:=Tryz.isAgg9
  z9:=Tryz.sizeOf9
  v9:=Tryz.zeroValue9
  t20:=Tryz.underlying20
  a20:=Tryz.isAgg20
  z20:=Tryz.sizeOf20
  v20:=Tryz.zeroValue20
  t21:=Tryz.underlying21
  a21:=Tryz.isAgg21
  z21:=Tryz.sizeOf21
  v21:=Tryz.zeroValue21
  t37:=Tryz.underlying22
  a37:=Tryz.isAgg22
  z37:=Tryz.sizeOf22
  v37:=Tryz.zeroValue22
  t46:=Tryz.underlying168
  a46:=Tryz.isAgg168
  z46:=Tryz.sizeOf168
  v46:=Tryz.zeroValue168
  t51:=Tryz.underlying297
  a51:=Tryz.isAgg297
  z51:=Tryz.sizeOf297
  v51:=Tryz.zeroValue297
  t53:=Tryz.underlying92
  a53:=Tryz.isAgg92
  z53:=Tryz.sizeOf92
  v53:=Tryz.zeroValue92
  t75:=Tryz.underlying110
  a75:=Tryz.isAgg110
  z75:=Tryz.sizeOf110
  v75:=Tryz.zeroValue110
  t85:=Tryz.underlying111
  a85:=Tryz.isAgg111
  z85:=Tryz.sizeOf111
  v85:=Tryz.zeroValue111
  t127:=Tryz.underlying236
  a127:=Tryz.isAgg236
  z127:=Tryz.sizeOf236
  v127:=Tryz.zeroValue236
  t143:=Tryz.underlying316
  a143:=Tryz.isAgg316
  z143:=Tryz.sizeOf316
  v143:=Tryz.zeroValue316
  t145:=Tryz.underlying318
  a145:=Tryz.isAgg318
  z145:=Tryz.sizeOf318
  v145:=Tryz.zeroValue318
  t167:=Tryz.underlying230
  a167:=Tryz.isAgg230
  z167:=Tryz.sizeOf230
  v167:=Tryz.zeroValue230
  t168:=Tryz.underlying233
  a168:=Tryz.isAgg233
  z168:=Tryz.sizeOf233
  v168:=Tryz.zeroValue233
  t171:=Tryz.underlying259
  a171:=Tryz.isAgg259
  z171:=Tryz.sizeOf259
  v171:=Tryz.zeroValue259
  t173:=Tryz.underlying262
  a173:=Tryz.isAgg262
  z173:=Tryz.sizeOf262
  v173:=Tryz.zeroValue262
  t175:=Tryz.underlying231
  a175:=Tryz.isAgg231
  z175:=Tryz.sizeOf231
  v175:=Tryz.zeroValue231
  t210:=Tryz.underlying276
  a210:=Tryz.isAgg276
  z210:=Tryz.sizeOf276
  v210:=Tryz.zeroValue276
  t212:=Tryz.underlying296
  a212:=Tryz.isAgg296
  z212:=Tryz.sizeOf296
  v212:=Tryz.zeroValue296
  t213:=Tryz.underlying298
  a213:=Tryz.isAgg298
  z213:=Tryz.sizeOf298
  t232:=Tryz.underlying345
  a232:=Tryz.isAgg345
  z232:=Tryz.sizeOf345
  v232:=Tryz.zeroValue345
  t233:=Tryz.underlying346
  a233:=Tryz.isAgg346
  z233:=Tryz.sizeOf346
  v233:=Tryz.zeroValue346
  g15:=by kernel_rfl
  g16:=by kernel_rfl
  g17:=by kernel_rfl
  g18:=by kernel_rfl
  g19:=by kernel_rfl
  t80:=Tryz.underlying152
  a80:=Tryz.isAgg152
  z80:=Tryz.sizeOf152
  v80:=Tryz.zeroValue152
  i0:=by kernel_rfl
  i2:=by kernel_rfl
  i3:=by kernel_rfl
  i4:=by kernel_rfl
  i5:=by kernel_rfl
  i9:=by kernel_rfl
  i20:=by kernel_rfl
  i21:=by kernel_rfl
  i37:=by kernel_rfl
  i46:=by kernel_rfl
  i51:=by kernel_rfl
  i53:=by kernel_rfl
  i75:=by kernel_rfl
  i80:=by kernel_rfl
  i85:=by kernel_rfl
  i127:=by kernel_rfl
  i143:=by kernel_rfl
  i145:=by kernel_rfl
  i167:=by kernel_rfl
  i168:=by kernel_rfl
  i171:=by kernel_rfl
  i173:=by kernel_rfl
  i175:=by kernel_rfl
  i210:=by kernel_rfl
  i212:=by kernel_rfl
  i232:=by kernel_rfl
  i233:=by kernel_rfl
  m15:=by kernel_rfl
  m16:=by kernel_rfl
  m17:=by kernel_rfl
  m18:=by kernel_rfl
  m19:=by kernel_rfl
  c0:=by kernel_rfl
  c2:=by kernel_rfl
  c3:=by kernel_rfl
  c4:=by kernel_rfl
  c5:=by kernel_rfl
  c9:=by kernel_rfl
  c20:=by kernel_rfl
  c21:=by kernel_rfl
  c37:=by kernel_rfl
  c46:=by kernel_rfl
  c51:=by kernel_rfl
  c53:=by kernel_rfl
  c75:=by kernel_rfl
  c80:=by kernel_rfl
  c85:=by kernel_rfl
  c127:=by kernel_rfl
  c143:=by kernel_rfl
  c145:=by kernel_rfl
  c167:=by kernel_rfl
  c168:=by kernel_rfl
  c171:=by kernel_rfl
  c173:=by kernel_rfl
  c175:=by kernel_rfl
  c210:=by kernel_rfl
  c212:=by kernel_rfl
  c213:=by kernel_rfl
  c232:=by kernel_rfl
  c233:=by kernel_rfl}
open Go.RowKit in
open Go.RowKit in
open Go.RowKit in
open Go.RowKit in
/-- strconv.ParseInt(s, 10, 64), AT EVERY STRING THAT SPELLS AN int64 ('Lib.parseIntB 64 s.data.toList = .ok v'): v, AND NO ERROR. (LAID: no walk: one application.) -/
theorem Tryz.strconv_ParseInt_10_at64_ok (s : ByteArray) (hmax : s.size <= 9223372036854775806) (v : Int) (h : Lib.parseIntB 64 s.data.toList = .ok v) (w : World) :
    Calls Tryz.prog 78 #[.string s, .int .i64 10, .int .i64 64] w fun e w'=>e= .returned (.tuple #[.int .i64 v, .nilIface])/\(w'=w\/∃t,w'=Lib.bytesWorld w 5 t):=Any.strconv_ParseInt_10_at64_ok Tryz.laysC174 s hmax v h w
open Go.RowKit in
open Go.RowKit in
open Go.RowKit in
open Go.RowKit in
open Go.RowKit in
open Go.RowKit in
open Go.RowKit in
open Go.RowKit in
open Go.RowKit in
open Go.RowKit in
open Go.RowKit in
open Go.RowKit in
open Go.RowKit in
open Go.RowKit in
theorem Tryz.strconv_ParseInt_10_at64_syntax_var (s : ByteArray) (hlim : s.size ≤ 281474976710656) (h : Lib.parseIntB 64 s.data.toList = Lib.NumEnd.syntax) (tp : TypeId) (p : Value) (w : World) (hvar : w.var? Tryz.prog "strconv.ErrSyntax" = some #[.iface tp p]) :
    Calls Tryz.prog 78 #[.string s, .int .i64 10, .int .i64 64] w fun e w'=>∃N,e= .returned (.tuple #[.int .i64 (0), .iface 233 (.pointer (some ⟨N,0,none⟩))])/\w.heap.size<=N/\w'.heap[N]?=some (.cells #[.string ⟨#[80,97,114,115,101,73,110,116]⟩, .string s, .iface tp p] 276 (0,0))/\Below w.heap.size w w':=Any.strconv_ParseInt_10_at64_syntax_var Tryz.laysC174 s hlim h tp p w hvar
open Go.RowKit in
open Go.RowKit in
open Go.RowKit in
open Go.RowKit in
open Go.RowKit in
open Go.RowKit in
open Go.RowKit in
open Go.RowKit Go.Lib in
open Go.RowKit Go.Lib in
open Go.RowKit Go.Lib in
open Go.RowKit Go.Lib in
open Go.RowKit Go.Lib in
open Go.RowKit Go.Lib in
open Go.RowKit Go.Lib in
open Go.RowKit Go.Lib in
open Go.RowKit Go.Lib in
def Tryz.lays145_ren:Go.Shelf.Ren:=⟨fun|145=>66|220=>126|219=>188|217=>245|225=>246|224=>247|267=>248|266=>290|314=>291|n=>n,fun|9=>9|4=>4|59=>98|3=>3|5=>5|46=>168|146=>310|51=>297|n=>n,fun|1=>1|n=>n⟩
theorem Tryz.lays145 : Go.Proofs.Lays.n145 Tryz.prog Tryz.lays145_ren := {
  mixed:=by kernel_rfl
  f145:=Tryz.func66.trans (congrArg some (by kernel_rfl))
  f217:=Tryz.func245.trans (congrArg some (by kernel_rfl))
  f219:=Tryz.func188.trans (congrArg some (by kernel_rfl))
  f220:=Tryz.func126.trans (congrArg some (by kernel_rfl))
  f224:=Tryz.func247.trans (congrArg some (by kernel_rfl))
  f225:=Tryz.func246.trans (congrArg some (by kernel_rfl))
  f266:=Tryz.func290.trans (congrArg some (by kernel_rfl))
  f267:=Tryz.func248.trans (congrArg some (by kernel_rfl))
  f314:=Tryz.func291.trans (congrArg some (by kernel_rfl))
  t3:=Tryz.underlying3
  a3:=Tryz.isAgg3
  z3:=Tryz.sizeOf3
  v3:=Tryz.zeroValue3
  t4:=Tryz.underlying4
  a4:=Tryz.isAgg4
  z4:=Tryz.sizeOf4
  v4:=Tryz.zeroValue4
  t5:=Tryz.underlying5
  a5:=Tryz.isAgg5
  z5:=Tryz.sizeOf5
  v5:=Tryz.zeroValue5
  t9:=Tryz.underlying9
  a9:=Tryz.isAgg9
  z9:=Tryz.sizeOf9
  v9:=Tryz.zeroValue9
  t46:=Tryz.underlying168
  a46:=Tryz.isAgg168
  z46:=Tryz.sizeOf168
  v46:=Tryz.zeroValue168
  t51:=Tryz.underlying297
  a51:=Tryz.isAgg297
  z51:=Tryz.sizeOf297
  v51:=Tryz.zeroValue297
  t59:=Tryz.underlying98
  a59:=Tryz.isAgg98
  z59:=Tryz.sizeOf98
  v59:=Tryz.zeroValue98
  t146:=Tryz.underlying310
  a146:=Tryz.isAgg310
  z146:=Tryz.sizeOf310
  v146:=Tryz.zeroValue310
  g1:=by kernel_rfl}
open Go.RowKit Go.Lib in
/-- strings.Cut: "Cut slices s around the first instance of sep, returning the text before and after sep. The found result reports whether sep appears in s. If sep does not appear in s, cut returns s, "", false.": IT RETURNS 'Lib.cut s sep'; the world is as it was but for the count of draws. (LAID: no walk: one application.) -/
theorem Tryz.strings_Cut (s sep : ByteArray) (m : Int) (w : World) (hs : s.size < 4294967281) (hm : w.cell? ⟨1, 0, none⟩ = some (.int .i64 m)) :
    Calls Tryz.prog 66 #[.string s, .string sep] w fun e w'=>e= .returned (.tuple #[.string ⟨(Lib.cut s.data.toList sep.data.toList).1.toArray⟩, .string ⟨(Lib.cut s.data.toList sep.data.toList).2.1.toArray⟩, .bool (Lib.cut s.data.toList sep.data.toList).2.2])/\∃n,w'=w.drewN n:=Any.strings_Cut Tryz.lays145 s sep m w hs hm
open Go.RowKit Go.Lib in
open Go.RowKit Go.Lib in
open Go.RowKit Go.Lib in
open Go.RowKit Go.Lib in
open Go.RowKit Go.Lib in
open Go.RowKit Go.Lib in
open Go.RowKit Go.Lib in
open Go.RowKit Go.Lib in
open Go.RowKit Go.Lib in
def Tryz.lays100_ren:Go.Shelf.Ren:=⟨fun|100=>29|207=>69|n=>n,fun|9=>9|4=>4|3=>3|n=>n,fun|n=>n⟩
theorem Tryz.lays100 : Go.Proofs.Lays.n100 Tryz.prog Tryz.lays100_ren := {
  mixed:=by kernel_rfl
  f100:=Tryz.func29.trans (congrArg some (by kernel_rfl))
  f207:=Tryz.func69.trans (congrArg some (by kernel_rfl))
  t3:=Tryz.underlying3
  a3:=Tryz.isAgg3
  z3:=Tryz.sizeOf3
  v3:=Tryz.zeroValue3
  t4:=Tryz.underlying4
  a4:=Tryz.isAgg4
  z4:=Tryz.sizeOf4
  v4:=Tryz.zeroValue4
  t9:=Tryz.underlying9
  a9:=Tryz.isAgg9
  z9:=Tryz.sizeOf9
  v9:=Tryz.zeroValue9}
open Go.RowKit Go.Lib in
/-- strings.HasSuffix: "HasSuffix reports whether the string s ends with suffix.": IT RETURNS 'Lib.hasSuffix s suffix'; the world is as it was. ('hs': no Go string is longer: a caller has it of every string that it was handed.) (LAID: no walk: one application.) -/
theorem Tryz.strings_HasSuffix (s p : ByteArray) (w : World) (hs : s.size <= 9223372036854775807) :
    Calls Tryz.prog 29 #[.string s, .string p] w fun e w'=>e= .returned (.bool (Lib.hasSuffix s.data.toList p.data.toList))/\w'=w:=Any.strings_HasSuffix Tryz.lays100 s p w hs
open Go.RowKit Go.Lib in
def Tryz.lays101_ren:Go.Shelf.Ren:=⟨fun|101=>77|208=>137|206=>195|n=>n,fun|9=>9|4=>4|3=>3|n=>n,fun|n=>n⟩
theorem Tryz.lays101 : Go.Proofs.Lays.n101 Tryz.prog Tryz.lays101_ren := {
  mixed:=by kernel_rfl
  f101:=Tryz.func77.trans (congrArg some (by kernel_rfl))
  f206:=Tryz.func195.trans (congrArg some (by kernel_rfl))
  f208:=Tryz.func137.trans (congrArg some (by kernel_rfl))
  t3:=Tryz.underlying3
  a3:=Tryz.isAgg3
  z3:=Tryz.sizeOf3
  v3:=Tryz.zeroValue3
  t4:=Tryz.underlying4
  a4:=Tryz.isAgg4
  z4:=Tryz.sizeOf4
  v4:=Tryz.zeroValue4
  t9:=Tryz.underlying9
  a9:=Tryz.isAgg9
  z9:=Tryz.sizeOf9
  v9:=Tryz.zeroValue9}
open Go.RowKit Go.Lib in
/-- strings.TrimPrefix: "TrimPrefix returns s without the provided leading prefix string. If s doesn't start with prefix, s is returned unchanged.": IT RETURNS 'Lib.trimPrefix s prefix'; the world is as it was. (LAID: no walk: one application.) -/
theorem Tryz.strings_TrimPrefix (s p : ByteArray) (w : World) :
    Calls Tryz.prog 77 #[.string s, .string p] w fun e w'=>e= .returned (.string ⟨(Lib.trimPrefix s.data.toList p.data.toList).toArray⟩)/\w'=w:=Any.strings_TrimPrefix Tryz.lays101 s p w
open Go.RowKit Go.Lib in
def Tryz.lays102_ren:Go.Shelf.Ren:=⟨fun|102=>65|209=>125|207=>69|n=>n,fun|9=>9|4=>4|3=>3|n=>n,fun|n=>n⟩
theorem Tryz.lays102 : Go.Proofs.Lays.n102 Tryz.prog Tryz.lays102_ren := {
  mixed:=by kernel_rfl
  f102:=Tryz.func65.trans (congrArg some (by kernel_rfl))
  f207:=Tryz.func69.trans (congrArg some (by kernel_rfl))
  f209:=Tryz.func125.trans (congrArg some (by kernel_rfl))
  t3:=Tryz.underlying3
  a3:=Tryz.isAgg3
  z3:=Tryz.sizeOf3
  v3:=Tryz.zeroValue3
  t4:=Tryz.underlying4
  a4:=Tryz.isAgg4
  z4:=Tryz.sizeOf4
  v4:=Tryz.zeroValue4
  t9:=Tryz.underlying9
  a9:=Tryz.isAgg9
  z9:=Tryz.sizeOf9
  v9:=Tryz.zeroValue9}
open Go.RowKit Go.Lib in
/-- strings.TrimSuffix: "TrimSuffix returns s without the provided trailing suffix string. If s doesn't end with suffix, s is returned unchanged.": IT RETURNS 'Lib.trimSuffix s suffix'; the world is as it was. (LAID: no walk: one application.) -/
theorem Tryz.strings_TrimSuffix (s p : ByteArray) (w : World) (hs : s.size <= 9223372036854775807) :
    Calls Tryz.prog 65 #[.string s, .string p] w fun e w'=>e= .returned (.string ⟨(Lib.trimSuffix s.data.toList p.data.toList).toArray⟩)/\w'=w:=Any.strings_TrimSuffix Tryz.lays102 s p w hs
open Go.RowKit Go.Lib in
open Go.RowKit Go.Lib in
def Tryz.lays146_ren:Go.Shelf.Ren:=⟨fun|146=>27|221=>68|268=>127|138=>128|143=>129|195=>189|197=>190|218=>191|219=>188|260=>249|217=>245|225=>246|224=>247|267=>248|266=>290|314=>291|n=>n,fun|9=>9|31=>24|3=>3|4=>4|0=>0|105=>225|21=>21|5=>5|46=>168|119=>312|139=>315|138=>314|146=>310|51=>297|n=>n,fun|1=>1|3=>5|4=>6|n=>n⟩
theorem Tryz.lays146 : Go.Proofs.Lays.n146 Tryz.prog Tryz.lays146_ren := {
  mixed:=by kernel_rfl
  f138:=Tryz.func128.trans (congrArg some (by kernel_rfl))
  f143:=Tryz.func129.trans (congrArg some (by kernel_rfl))
  f146:=Tryz.func27.trans (congrArg some (by kernel_rfl))
  f195:=Tryz.func189.trans (congrArg some (by kernel_rfl))
  f197:=Tryz.func190.trans (congrArg some (by kernel_rfl))
  f217:=Tryz.func245.trans (congrArg some (by kernel_rfl))
  f218:=Tryz.func191.trans (congrArg some (by kernel_rfl))
  f219:=Tryz.func188.trans (congrArg some (by kernel_rfl))
  f221:=Tryz.func68.trans (congrArg some (by kernel_rfl))
  f224:=Tryz.func247.trans (congrArg some (by kernel_rfl))
  f225:=Tryz.func246.trans (congrArg some (by kernel_rfl))
  f260:=Tryz.func249.trans (congrArg some (by kernel_rfl))
  f266:=Tryz.func290.trans (congrArg some (by kernel_rfl))
  f267:=Tryz.func248.trans (congrArg some (by kernel_rfl))
  f268:=Tryz.func127.trans (congrArg some (by kernel_rfl))
  f314:=Tryz.func291.trans (congrArg some (by kernel_rfl))
  t0:=Tryz.underlying0
  a0:=Tryz.isAgg0
  z0:=Tryz.sizeOf0
  v0:=Tryz.zeroValue0
  t3:=Tryz.underlying3
  a3:=Tryz.isAgg3
  z3:=Tryz.sizeOf3
  v3:=Tryz.zeroValue3
  t4:=Tryz.underlying4
  a4:=Tryz.isAgg4
  z4:=Tryz.sizeOf4
  v4:=Tryz.zeroValue4
  t5:=Tryz.underlying5
  a5:=Tryz.isAgg5
  z5:=Tryz.sizeOf5
  v5:=Tryz.zeroValue5
  t9:=Tryz.underlying9
  a9:=Tryz.isAgg9
  z9:=Tryz.sizeOf9
  v9:=Tryz.zeroValue9
  t21:=Tryz.underlying21
  a21:=Tryz.isAgg21
  z21:=Tryz.sizeOf21
  v21:=Tryz.zeroValue21
  t31:=Tryz.underlying24
  a31:=Tryz.isAgg24
  z31:=Tryz.sizeOf24
  v31:=Tryz.zeroValue24
  t46:=Tryz.underlying168
  a46:=Tryz.isAgg168
  z46:=Tryz.sizeOf168
  v46:=Tryz.zeroValue168
  t51:=Tryz.underlying297
  a51:=Tryz.isAgg297
  z51:=Tryz.sizeOf297
  v51:=Tryz.zeroValue297
  t105:=Tryz.underlying225
  a105:=Tryz.isAgg225
  z105:=Tryz.sizeOf225
  v105:=Tryz.zeroValue225
  t119:=Tryz.underlying312
  a119:=Tryz.isAgg312
  z119:=Tryz.sizeOf312
  t138:=Tryz.underlying314
  a138:=Tryz.isAgg314
  z138:=Tryz.sizeOf314
  v138:=Tryz.zeroValue314
  t139:=Tryz.underlying315
  a139:=Tryz.isAgg315
  z139:=Tryz.sizeOf315
  v139:=Tryz.zeroValue315
  t146:=Tryz.underlying310
  a146:=Tryz.isAgg310
  z146:=Tryz.sizeOf310
  v146:=Tryz.zeroValue310
  g1:=by kernel_rfl
  g3:=by kernel_rfl
  g4:=by kernel_rfl}
open Go.RowKit Go.Lib in
/-- strings.Split. (LAID: no walk: one application.) -/
theorem Tryz.strings_Split (s sep : ByteArray) (m : Int) (w : World) (hs : s.size < 4294967281) (hm : w.cell? ⟨1, 0, none⟩ = some (.int .i64 m)) (h1 : 1 <= sep.size) :
    Calls Tryz.prog 27 #[.string s, .string sep] w fun e w' =>
      e= .returned (.slice (some ⟨w.heap.size,0,none⟩) (Lib.countB s sep+1) (Lib.countB s sep+1))/\w'=w.alloc (.cells ((Lib.splitB sep 0 (Lib.countB s sep) s).map Value.string).toArray 9):=Any.strings_Split Tryz.lays146 (by kernel_rfl) s sep m w hs hm h1
def Tryz.lays147_ren:Go.Shelf.Ren:=⟨fun|147=>64|221=>68|268=>127|138=>128|143=>129|195=>189|197=>190|218=>191|219=>188|260=>249|217=>245|225=>246|224=>247|267=>248|266=>290|314=>291|n=>n,fun|9=>9|3=>3|31=>24|4=>4|0=>0|105=>225|21=>21|5=>5|46=>168|119=>312|139=>315|138=>314|146=>310|51=>297|n=>n,fun|1=>1|3=>5|4=>6|n=>n⟩
theorem Tryz.lays147 : Go.Proofs.Lays.n147 Tryz.prog Tryz.lays147_ren := {
  mixed:=by kernel_rfl
  f138:=Tryz.func128.trans (congrArg some (by kernel_rfl))
  f143:=Tryz.func129.trans (congrArg some (by kernel_rfl))
  f147:=Tryz.func64.trans (congrArg some (by kernel_rfl))
  f195:=Tryz.func189.trans (congrArg some (by kernel_rfl))
  f197:=Tryz.func190.trans (congrArg some (by kernel_rfl))
  f217:=Tryz.func245.trans (congrArg some (by kernel_rfl))
  f218:=Tryz.func191.trans (congrArg some (by kernel_rfl))
  f219:=Tryz.func188.trans (congrArg some (by kernel_rfl))
  f221:=Tryz.func68.trans (congrArg some (by kernel_rfl))
  f224:=Tryz.func247.trans (congrArg some (by kernel_rfl))
  f225:=Tryz.func246.trans (congrArg some (by kernel_rfl))
  f260:=Tryz.func249.trans (congrArg some (by kernel_rfl))
  f266:=Tryz.func290.trans (congrArg some (by kernel_rfl))
  f267:=Tryz.func248.trans (congrArg some (by kernel_rfl))
  f268:=Tryz.func127.trans (congrArg some (by kernel_rfl))
  f314:=Tryz.func291.trans (congrArg some (by kernel_rfl))
  t0:=Tryz.underlying0
  a0:=Tryz.isAgg0
  z0:=Tryz.sizeOf0
  v0:=Tryz.zeroValue0
  t3:=Tryz.underlying3
  a3:=Tryz.isAgg3
  z3:=Tryz.sizeOf3
  v3:=Tryz.zeroValue3
  t4:=Tryz.underlying4
  a4:=Tryz.isAgg4
  z4:=Tryz.sizeOf4
  v4:=Tryz.zeroValue4
  t5:=Tryz.underlying5
  a5:=Tryz.isAgg5
  z5:=Tryz.sizeOf5
  v5:=Tryz.zeroValue5
  t9:=Tryz.underlying9
  a9:=Tryz.isAgg9
  z9:=Tryz.sizeOf9
  v9:=Tryz.zeroValue9
  t21:=Tryz.underlying21
  a21:=Tryz.isAgg21
  z21:=Tryz.sizeOf21
  v21:=Tryz.zeroValue21
  t31:=Tryz.underlying24
  a31:=Tryz.isAgg24
  z31:=Tryz.sizeOf24
  v31:=Tryz.zeroValue24
  t46:=Tryz.underlying168
  a46:=Tryz.isAgg168
  z46:=Tryz.sizeOf168
  v46:=Tryz.zeroValue168
  t51:=Tryz.underlying297
  a51:=Tryz.isAgg297
  z51:=Tryz.sizeOf297
  v51:=Tryz.zeroValue297
  t105:=Tryz.underlying225
  a105:=Tryz.isAgg225
  z105:=Tryz.sizeOf225
  v105:=Tryz.zeroValue225
  t119:=Tryz.underlying312
  a119:=Tryz.isAgg312
  z119:=Tryz.sizeOf312
  t138:=Tryz.underlying314
  a138:=Tryz.isAgg314
  z138:=Tryz.sizeOf314
  v138:=Tryz.zeroValue314
  t139:=Tryz.underlying315
  a139:=Tryz.isAgg315
  z139:=Tryz.sizeOf315
  v139:=Tryz.zeroValue315
  t146:=Tryz.underlying310
  a146:=Tryz.isAgg310
  z146:=Tryz.sizeOf310
  v146:=Tryz.zeroValue310
  g1:=by kernel_rfl
  g3:=by kernel_rfl
  g4:=by kernel_rfl}
open Go.RowKit Go.Lib in
/-- strings.SplitN, n > 0. (LAID: no walk: one application.) -/
theorem Tryz.strings_SplitN (s sep : ByteArray) (n : Nat) (m : Int) (w : World) (hs : s.size < 4294967281) (hm : w.cell? ⟨1, 0, none⟩ = some (.int .i64 m)) (h1 : 1 <= sep.size) (hn : 1 <= n) (hn63 : n <= 9223372036854775807) :
    Calls Tryz.prog 64 #[.string s, .string sep, .int .i64 n] w fun e w' =>
      e= .returned (.slice (some ⟨w.heap.size,0,none⟩) (Lib.splitB sep 0 (min n (s.size+1)-1) s).length (min n (s.size+1)))/\w'=w.alloc (.cells (Lib.cellsOf (Lib.splitB sep 0 (min n (s.size+1)-1) s) (min n (s.size+1))) 9):=Any.strings_SplitN Tryz.lays147 (by kernel_rfl) s sep n m w hs hm h1 hn hn63
open Go.RowKit Go.Lib in
open Go.RowKit Go.Lib in
open Go.RowKit Go.Lib in
open Go.RowKit Go.Lib in
open Go.RowKit Go.Lib in
open Go.RowKit Go.Lib in
open Go.RowKit Go.Lib in
open Go.RowKit Go.Lib in
def Tryz.lays212_ren:Go.Shelf.Ren:=⟨fun|212=>257|263=>293|264=>294|n=>n,fun|46=>168|51=>297|146=>310|53=>92|148=>320|n=>n,fun|n=>n⟩
theorem Tryz.lays212 : Go.Proofs.Lays.n212 Tryz.prog Tryz.lays212_ren := {
  mixed:=by kernel_rfl
  f212:=Tryz.func257.trans (congrArg some (by kernel_rfl))
  f263:=Tryz.func293.trans (congrArg some (by kernel_rfl))
  f264:=Tryz.func294.trans (congrArg some (by kernel_rfl))
  t46:=Tryz.underlying168
  a46:=Tryz.isAgg168
  z46:=Tryz.sizeOf168
  v46:=Tryz.zeroValue168
  t51:=Tryz.underlying297
  a51:=Tryz.isAgg297
  z51:=Tryz.sizeOf297
  v51:=Tryz.zeroValue297
  t53:=Tryz.underlying92
  a53:=Tryz.isAgg92
  z53:=Tryz.sizeOf92
  v53:=Tryz.zeroValue92
  t146:=Tryz.underlying310
  a146:=Tryz.isAgg310
  z146:=Tryz.sizeOf310
  v146:=Tryz.zeroValue310
  t148:=Tryz.underlying320
  a148:=Tryz.isAgg320
  z148:=Tryz.sizeOf320
  v148:=Tryz.zeroValue320}
open Go.RowKit Go.Lib in
/-- math/bits.Mul: "Mul returns the full-width product of x and y": on a machine of 64 bits: Mul64's. (LAID: no walk: one application.) -/
theorem Tryz.bits_Mul (x y : Nat) (hx : x < 18446744073709551616) (hy : y < 18446744073709551616) (w : World) :
    Calls Tryz.prog 257 #[.int .u64 x, .int .u64 y] w fun e w'=>e= .returned (.tuple #[.int .u64 ((x*y/18446744073709551616:Nat):Int), .int .u64 ((x*y%18446744073709551616:Nat):Int)])/\w'=w:=Any.bits_Mul Tryz.lays212 x y hx hy w
open Go.RowKit Go.Lib in
open Go.Lib in
def Tryz.laysSlC25_f212_ren:Go.Shelf.Ren:=⟨fun|5=>212|7=>261|n=>n,fun|22=>2|3=>3|4=>4|n=>n,fun|n=>n⟩
theorem Tryz.laysSlC25_f212 : Go.Proofs.SlLaysC2.n5 Tryz.prog Tryz.laysSlC25_f212_ren := {
  mixed:=by kernel_rfl
  f5:=⟨Tryz.f212.name,by decide,Tryz.func212.trans (congrArg some (by kernel_rfl))⟩
  f7:=⟨Tryz.f261.name,by decide,Tryz.func261.trans (congrArg some (by kernel_rfl))⟩
  t3:=Tryz.underlying3
  a3:=Tryz.isAgg3
  z3:=Tryz.sizeOf3
  v3:=Tryz.zeroValue3
  t4:=Tryz.underlying4
  a4:=Tryz.isAgg4
  z4:=Tryz.sizeOf4
  v4:=Tryz.zeroValue4
  t22:=Tryz.underlying2
  a22:=Tryz.isAgg2
  z22:=Tryz.sizeOf2
  v22:=Tryz.zeroValue2}
open Go.Lib in
/-- cmp.Compare at an int under a name: "Compare returns -1 if x is less than y, 0 if x equals y, +1 if x is greater than y.": IT RETURNS 'Lib.compareInt x y'; the world is as it was. (LAID AT THE INSTANCE 'cmp.Compare[int64]': no walk: one application.) -/
theorem Tryz.cmp_Compare_int (x y : Int) (w : World) :
    Calls Tryz.prog 212 #[.int .i64 x, .int .i64 y] w fun e w'=>e= .returned (.int .i64 (Lib.compareInt x y))/\w'=w:=AnyG.cmp_Compare_int Tryz.laysSlC25_f212 x y w
end Go.Proofs
