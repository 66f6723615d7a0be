/- A part of the proof. Conditions: none. -/
import Derived.Shelf.Strings.Builder1
import Derived.Shelf.Strings.Builder2
import Derived.Shelf.Small.Utf8
import Derived.Shelf.Small.Strs
import Derived.Shelf.Utf8.RuneCount
import Derived.Shelf.Strconv.Itoa0
import Derived.Shelf.Strconv.Itoa1
import Derived.Shelf.LaysM
import Derived.Shelf.Strconv.Itoa2
import Derived.Shelf.Strconv.Itoa3
import Derived.Shelf.Strconv.Itoa4
import Derived.Shelf.Strings.Search1
import Derived.Shelf.Strings.Search2
import Derived.Shelf.Strings.Search3
import Derived.Shelf.Strings.Cut
import Derived.Shelf.Strings.Count
import Derived.Shelf.Strings.Shaped
import Derived.Shelf.Strings.Prefix
import Derived.Shelf.Strings.Split
import Derived.Shelf.Strings.Fields
import Derived.Shelf.Strings.SplitShaped
import Derived.Shelf.Unicode.Latin
import Derived.Shelf.Strings.Runes
import Derived.Shelf.Strings.RuneCount
import Derived.Shelf.Bits.Mul64
import Derived.Shelf.Unicode.Is16White
import Derived.Shelf.Unicode.IsSpaceAny
import Derived.Shelf.Unicode.Is16WhiteD
import Derived.Shelf.Unicode.Is16Any
import Derived.Shelf.Unicode.Is32Any
import Derived.Shelf.Unicode.ExclAny
import Derived.Shelf.Slices.Equal
import Derived.Shelf.Slices.Empties2
import Derived.Test.YtjchnliaglecoaaGreatDoorZz
import Derived.Test.YtjchnliaglecoaaGreatDoorProg
set_option linter.unusedVariables false
set_option linter.unusedSimpArgs false
set_option maxRecDepth 100000
set_option maxHeartbeats 8000000
namespace Go.Proofs
open Go.Shelf
def Tryz.Aa:Go.Shelf.Ren:=⟨fun|173=>157|246=>153|283=>206|284=>207|285=>208|286=>209|129=>241|317=>240|318=>242|319=>243|320=>244|337=>262|338=>263|n=>n,fun|2=>2|3=>3|9=>9|4=>4|171=>206|0=>0|53=>132|37=>75|5=>5|173=>208|212=>225|51=>130|20=>20|213=>226|46=>43|232=>245|233=>246|n=>n,fun|17=>1|18=>4|19=>5|n=>n⟩
theorem Tryz.PU:Go.Proofs.LaysM.n173 Tryz.prog Tryz.Aa:={
 mixed:=ah
 f129:=Tryz.func241.trans (congrArg some ah)
 f173:=Tryz.func157.trans (congrArg some ah)
 f246:=Tryz.func153.trans (congrArg some ah)
 f283:=Tryz.func206.trans (congrArg some ah)
 f284:=Tryz.func207.trans (congrArg some ah)
 f285:=Tryz.func208.trans (congrArg some ah)
 f286:=Tryz.func209.trans (congrArg some ah)
 f317:=Tryz.func240.trans (congrArg some ah)
 f318:=Tryz.func242.trans (congrArg some ah)
 f319:=Tryz.func243.trans (congrArg some ah)
 f320:=Tryz.func244.trans (congrArg some ah)
 f337:=Tryz.func262.trans (congrArg some ah)
 f338:=Tryz.func263.trans (congrArg some ah)
 t0:=Tryz.underlying0
 a0:=Tryz.isAgg0
 z0:=Tryz.sizeOf0
 v0:=Tryz.zeroValue0
 t2:=Tryz.underlying2
 a2:=Tryz.isAgg2
 z2:=Tryz.sizeOf2
 v2:=Tryz.zeroValue2
 t3:=Tryz.underlying3
 a3:=Tryz.isAgg3
 z3:=Tryz.sizeOf3
 v3:=Tryz.zeroValue3
 t4:=Tryz.underlying4
 a4:=Tryz.isAgg4
 z4:=Tryz.sizeOf4
 v4:=Tryz.zeroValue4
 t5:=Tryz.underlying5
 a5:=Tryz.isAgg5
 z5:=Tryz.sizeOf5
 v5:=Tryz.zeroValue5
 t9:=Tryz.underlying9
 a9:=Tryz.isAgg9
 z9:=Tryz.sizeOf9
 v9:=Tryz.zeroValue9
 t20:=Tryz.underlying20
 a20:=Tryz.isAgg20
 z20:=Tryz.sizeOf20
 v20:=Tryz.zeroValue20
 t37:=Tryz.underlying75
 a37:=Tryz.isAgg75
 z37:=Tryz.sizeOf75
 v37:=Tryz.zeroValue75
 t46:=Tryz.underlying43
 a46:=Tryz.isAgg43
 z46:=Tryz.sizeOf43
 v46:=Tryz.zeroValue43
 t51:=Tryz.underlying130
 a51:=Tryz.isAgg130
 z51:=Tryz.sizeOf130
 v51:=Tryz.zeroValue130
 t53:=Tryz.underlying132
 a53:=Tryz.isAgg132
 z53:=Tryz.sizeOf132
 v53:=Tryz.zeroValue132
 t171:=Tryz.underlying206
 a171:=Tryz.isAgg206
 z171:=Tryz.sizeOf206
 v171:=Tryz.zeroValue206
 t173:=Tryz.underlying208
 a173:=Tryz.isAgg208
 z173:=Tryz.sizeOf208
 v173:=Tryz.zeroValue208
 t212:=Tryz.underlying225
 a212:=Tryz.isAgg225
 z212:=Tryz.sizeOf225
 v212:=Tryz.zeroValue225
 t213:=Tryz.underlying226
 a213:=Tryz.isAgg226
 z213:=Tryz.sizeOf226
 t232:=Tryz.underlying245
 a232:=Tryz.isAgg245
 z232:=Tryz.sizeOf245
 v232:=Tryz.zeroValue245
 t233:=Tryz.underlying246
 a233:=Tryz.isAgg246
 z233:=Tryz.sizeOf246
 v233:=Tryz.zeroValue246
 g17:=ah
 g18:=ah
 g19:=ah
 i0:=ah
 i2:=ah
 i3:=ah
 i4:=ah
 i5:=ah
 i9:=ah
 i20:=ah
 i37:=ah
 i46:=ah
 i51:=ah
 i53:=ah
 i171:=ah
 i173:=ah
 i212:=ah
 i232:=ah
 i233:=ah
 m17:=ah
 m18:=ah
 m19:=by kernel_rfl}
open Go.RowKit Go.Sort Go.Lib in
theorem Tryz.strconv_FormatInt_10 (n : Int) (h0 : -9223372036854775808 ≤ n) (h1 : n ≤ 9223372036854775807) (w : World) (aeg : Lib.TabIs Tryz.prog w "internal/strconv.uint64pow10" .u64 Lib.pow10Tab) :
  Calls Tryz.prog 157 #[.int .i64 n,.int .i64 10] w fun e w'=>e=.returned (.string ⟨(Lib.itoa n).toArray⟩)∧∃k os,w'=grow (w.drewN k) os:=Any.strconv_FormatInt_10 Tryz.PU n h0 h1 w aeg
def Tryz.B6:Go.Shelf.Ren:=⟨fun|144=>227|143=>224|219=>143|217=>190|225=>191|224=>192|267=>193|266=>230|314=>231|n=>n,fun|9=>9|4=>4|3=>3|5=>5|46=>43|146=>219|51=>130|n=>n,fun|1=>0|n=>n⟩
theorem Tryz.F9:Go.Proofs.Lays.n144 Tryz.prog Tryz.B6:={
 mixed:=ah
 f143:=Tryz.func224.trans (congrArg some ah)
 f144:=Tryz.func227.trans (congrArg some ah)
 f217:=Tryz.func190.trans (congrArg some ah)
 f219:=Tryz.func143.trans (congrArg some ah)
 f224:=Tryz.func192.trans (congrArg some ah)
 f225:=Tryz.func191.trans (congrArg some ah)
 f266:=Tryz.func230.trans (congrArg some ah)
 f267:=Tryz.func193.trans (congrArg some ah)
 f314:=Tryz.func231.trans (congrArg some ah)
 t3:=Tryz.underlying3
 a3:=Tryz.isAgg3
 z3:=Tryz.sizeOf3
 v3:=Tryz.zeroValue3
 t4:=Tryz.underlying4
 a4:=Tryz.isAgg4
 z4:=Tryz.sizeOf4
 v4:=Tryz.zeroValue4
 t5:=Tryz.underlying5
 a5:=Tryz.isAgg5
 z5:=Tryz.sizeOf5
 v5:=Tryz.zeroValue5
 t9:=Tryz.underlying9
 a9:=Tryz.isAgg9
 z9:=Tryz.sizeOf9
 v9:=Tryz.zeroValue9
 t46:=Tryz.underlying43
 a46:=Tryz.isAgg43
 z46:=Tryz.sizeOf43
 v46:=Tryz.zeroValue43
 t51:=Tryz.underlying130
 a51:=Tryz.isAgg130
 z51:=Tryz.sizeOf130
 v51:=Tryz.zeroValue130
 t146:=Tryz.underlying219
 a146:=Tryz.isAgg219
 z146:=Tryz.sizeOf219
 v146:=Tryz.zeroValue219
 g1:=by kernel_rfl}
open Go.RowKit Go.Lib in
theorem Tryz.strings_Contains_one (s:ByteArray) (c:UInt8) (w:World):
  Calls Tryz.prog 227 #[.string s,.string ⟨#[c]⟩] w fun e w'=>e=.returned (.bool (decide (0≤Lib.indexByte s.data.toList c)))∧w'=w:=Any.strings_Contains_one Tryz.F9 s c w
open Go.RowKit Go.Lib in
theorem Tryz.strings_Contains (s sub:ByteArray) (m:Int) (w:World) (hs:s.size<4294967281) (hm:w.cell? ⟨0,0,none⟩=some (.int .i64 m)):
  Calls Tryz.prog 227 #[.string s,.string sub] w fun e w'=>e=.returned (.bool (Lib.contains s.data.toList sub.data.toList))∧w'=w:=Any.strings_Contains Tryz.F9 s sub m w hs hm
def Tryz.B7:Go.Shelf.Ren:=⟨fun|145=>43|220=>94|219=>143|217=>190|225=>191|224=>192|267=>193|266=>230|314=>231|n=>n,fun|9=>9|4=>4|59=>80|3=>3|5=>5|46=>43|146=>219|51=>130|n=>n,fun|1=>0|n=>n⟩
theorem Tryz.W5:Go.Proofs.Lays.n145 Tryz.prog Tryz.B7:={
 mixed:=ah
 f145:=Tryz.func43.trans (congrArg some ah)
 f217:=Tryz.func190.trans (congrArg some ah)
 f219:=Tryz.func143.trans (congrArg some ah)
 f220:=Tryz.func94.trans (congrArg some ah)
 f224:=Tryz.func192.trans (congrArg some ah)
 f225:=Tryz.func191.trans (congrArg some ah)
 f266:=Tryz.func230.trans (congrArg some ah)
 f267:=Tryz.func193.trans (congrArg some ah)
 f314:=Tryz.func231.trans (congrArg some ah)
 t3:=Tryz.underlying3
 a3:=Tryz.isAgg3
 z3:=Tryz.sizeOf3
 v3:=Tryz.zeroValue3
 t4:=Tryz.underlying4
 a4:=Tryz.isAgg4
 z4:=Tryz.sizeOf4
 v4:=Tryz.zeroValue4
 t5:=Tryz.underlying5
 a5:=Tryz.isAgg5
 z5:=Tryz.sizeOf5
 v5:=Tryz.zeroValue5
 t9:=Tryz.underlying9
 a9:=Tryz.isAgg9
 z9:=Tryz.sizeOf9
 v9:=Tryz.zeroValue9
 t46:=Tryz.underlying43
 a46:=Tryz.isAgg43
 z46:=Tryz.sizeOf43
 v46:=Tryz.zeroValue43
 t51:=Tryz.underlying130
 a51:=Tryz.isAgg130
 z51:=Tryz.sizeOf130
 v51:=Tryz.zeroValue130
 t59:=Tryz.underlying80
 a59:=Tryz.isAgg80
 z59:=Tryz.sizeOf80
 v59:=Tryz.zeroValue80
 t146:=Tryz.underlying219
 a146:=Tryz.isAgg219
 z146:=Tryz.sizeOf219
 v146:=Tryz.zeroValue219
 g1:=by kernel_rfl}
open Go.RowKit Go.Lib in
theorem Tryz.strings_Cut (s sep:ByteArray) (m:Int) (w:World) (hs:s.size<4294967281) (hm:w.cell? ⟨0,0,none⟩=some (.int .i64 m)):
  Calls Tryz.prog 43 #[.string s,.string sep] w fun e w'=>e=.returned (.tuple #[.string ⟨(Lib.cut s.data.toList sep.data.toList).1.toArray⟩,.string ⟨(Lib.cut s.data.toList sep.data.toList).2.1.toArray⟩,.bool (Lib.cut s.data.toList sep.data.toList).2.2])∧∃n,w'=w.drewN n:=Any.strings_Cut Tryz.W5 s sep m w hs hm
def Tryz.B8:Go.Shelf.Ren:=⟨fun|138=>179|195=>222|218=>223|143=>224|219=>143|217=>190|225=>191|224=>192|267=>193|266=>230|314=>231|n=>n,fun|9=>9|3=>3|4=>4|5=>5|0=>0|46=>43|146=>219|51=>130|n=>n,fun|1=>0|n=>n⟩
theorem Tryz.W6:Go.Proofs.Lays.n138 Tryz.prog Tryz.B8:={
 mixed:=ah
 f138:=Tryz.func179.trans (congrArg some ah)
 f143:=Tryz.func224.trans (congrArg some ah)
 f195:=Tryz.func222.trans (congrArg some ah)
 f217:=Tryz.func190.trans (congrArg some ah)
 f218:=Tryz.func223.trans (congrArg some ah)
 f219:=Tryz.func143.trans (congrArg some ah)
 f224:=Tryz.func192.trans (congrArg some ah)
 f225:=Tryz.func191.trans (congrArg some ah)
 f266:=Tryz.func230.trans (congrArg some ah)
 f267:=Tryz.func193.trans (congrArg some ah)
 f314:=Tryz.func231.trans (congrArg some ah)
 t0:=Tryz.underlying0
 a0:=Tryz.isAgg0
 z0:=Tryz.sizeOf0
 v0:=Tryz.zeroValue0
 t3:=Tryz.underlying3
 a3:=Tryz.isAgg3
 z3:=Tryz.sizeOf3
 v3:=Tryz.zeroValue3
 t4:=Tryz.underlying4
 a4:=Tryz.isAgg4
 z4:=Tryz.sizeOf4
 v4:=Tryz.zeroValue4
 t5:=Tryz.underlying5
 a5:=Tryz.isAgg5
 z5:=Tryz.sizeOf5
 v5:=Tryz.zeroValue5
 t9:=Tryz.underlying9
 a9:=Tryz.isAgg9
 z9:=Tryz.sizeOf9
 v9:=Tryz.zeroValue9
 t46:=Tryz.underlying43
 a46:=Tryz.isAgg43
 z46:=Tryz.sizeOf43
 v46:=Tryz.zeroValue43
 t51:=Tryz.underlying130
 a51:=Tryz.isAgg130
 z51:=Tryz.sizeOf130
 v51:=Tryz.zeroValue130
 t146:=Tryz.underlying219
 a146:=Tryz.isAgg219
 z146:=Tryz.sizeOf219
 v146:=Tryz.zeroValue219
 g1:=by kernel_rfl}
open Go.RowKit Go.Lib in
theorem Tryz.strings_Count_one (s:ByteArray) (c:UInt8) (w:World):
  Calls Tryz.prog 179 #[.string s,.string ⟨#[c]⟩] w fun e w'=>e=.returned (.int .i64 (Lib.countByte s.data.toList c))∧w'=w:=Any.strings_Count_one Tryz.W6 s c w
def Tryz.B9:Go.Shelf.Ren:=⟨fun|101=>229|208=>256|206=>259|n=>n,fun|9=>9|4=>4|3=>3|n=>n,fun|n=>n⟩
theorem Tryz.W7:Go.Proofs.Lays.n101 Tryz.prog Tryz.B9:={
 mixed:=ah
 f101:=Tryz.func229.trans (congrArg some ah)
 f206:=Tryz.func259.trans (congrArg some ah)
 f208:=Tryz.func256.trans (congrArg some ah)
 t3:=Tryz.underlying3
 a3:=Tryz.isAgg3
 z3:=Tryz.sizeOf3
 v3:=Tryz.zeroValue3
 t4:=Tryz.underlying4
 a4:=Tryz.isAgg4
 z4:=Tryz.sizeOf4
 v4:=Tryz.zeroValue4
 t9:=Tryz.underlying9
 a9:=Tryz.isAgg9
 z9:=Tryz.sizeOf9
 v9:=Tryz.zeroValue9}
open Go.RowKit Go.Lib in
theorem Tryz.strings_TrimPrefix (s p:ByteArray) (w:World):
  Calls Tryz.prog 229 #[.string s,.string p] w fun e w'=>e=.returned (.string ⟨(Lib.trimPrefix s.data.toList p.data.toList).toArray⟩)∧w'=w:=Any.strings_TrimPrefix Tryz.W7 s p w
def Tryz.Ab:Go.Shelf.Ren:=⟨fun|157=>221|229=>253|199=>254|261=>268|311=>272|312=>273|n=>n,fun|9=>9|31=>36|3=>3|5=>5|4=>4|119=>228|0=>0|40=>230|152=>239|21=>21|154=>241|51=>130|141=>243|196=>250|193=>247|198=>253|49=>251|194=>248|201=>256|226=>258|46=>43|227=>259|n=>n,fun|0=>2|6=>3|n=>n⟩
theorem Tryz.PV:Go.Proofs.LaysM.n157 Tryz.prog Tryz.Ab:={
 mixed:=ah
 f157:=Tryz.func221.trans (congrArg some ah)
 f199:=Tryz.func254.trans (congrArg some ah)
 f229:=Tryz.func253.trans (congrArg some ah)
 f261:=Tryz.func268.trans (congrArg some ah)
 f311:=Tryz.func272.trans (congrArg some ah)
 f312:=Tryz.func273.trans (congrArg some ah)
 t0:=Tryz.underlying0
 a0:=Tryz.isAgg0
 z0:=Tryz.sizeOf0
 v0:=Tryz.zeroValue0
 t3:=Tryz.underlying3
 a3:=Tryz.isAgg3
 z3:=Tryz.sizeOf3
 v3:=Tryz.zeroValue3
 t4:=Tryz.underlying4
 a4:=Tryz.isAgg4
 z4:=Tryz.sizeOf4
 v4:=Tryz.zeroValue4
 t5:=Tryz.underlying5
 a5:=Tryz.isAgg5
 z5:=Tryz.sizeOf5
 v5:=Tryz.zeroValue5
 t9:=Tryz.underlying9
 a9:=Tryz.isAgg9
 z9:=Tryz.sizeOf9
 v9:=Tryz.zeroValue9
 t21:=Tryz.underlying21
 a21:=Tryz.isAgg21
 z21:=Tryz.sizeOf21
 v21:=Tryz.zeroValue21
 t31:=Tryz.underlying36
 a31:=Tryz.isAgg36
 z31:=Tryz.sizeOf36
 v31:=Tryz.zeroValue36
 t40:=Tryz.underlying230
 a40:=Tryz.isAgg230
 z40:=Tryz.sizeOf230
 v40:=Tryz.zeroValue230
 t46:=Tryz.underlying43
 a46:=Tryz.isAgg43
 z46:=Tryz.sizeOf43
 v46:=Tryz.zeroValue43
 t49:=Tryz.underlying251
 a49:=Tryz.isAgg251
 z49:=Tryz.sizeOf251
 v49:=Tryz.zeroValue251
 t51:=Tryz.underlying130
 a51:=Tryz.isAgg130
 z51:=Tryz.sizeOf130
 v51:=Tryz.zeroValue130
 t119:=Tryz.underlying228
 a119:=Tryz.isAgg228
 z119:=Tryz.sizeOf228
 t141:=Tryz.underlying243
 a141:=Tryz.isAgg243
 z141:=Tryz.sizeOf243
 v141:=Tryz.zeroValue243
 t152:=Tryz.underlying239
 a152:=Tryz.isAgg239
 z152:=Tryz.sizeOf239
 v152:=Tryz.zeroValue239
 t154:=Tryz.underlying241
 a154:=Tryz.isAgg241
 z154:=Tryz.sizeOf241
 v154:=Tryz.zeroValue241
 t193:=Tryz.underlying247
 a193:=Tryz.isAgg247
 z193:=Tryz.sizeOf247
 v193:=Tryz.zeroValue247
 t194:=Tryz.underlying248
 a194:=Tryz.isAgg248
 z194:=Tryz.sizeOf248
 v194:=Tryz.zeroValue248
 t196:=Tryz.underlying250
 a196:=Tryz.isAgg250
 z196:=Tryz.sizeOf250
 v196:=Tryz.zeroValue250
 t198:=Tryz.underlying253
 a198:=Tryz.isAgg253
 z198:=Tryz.sizeOf253
 v198:=Tryz.zeroValue253
 t201:=Tryz.underlying256
 a201:=Tryz.isAgg256
 z201:=Tryz.sizeOf256
 v201:=Tryz.zeroValue256
 t226:=Tryz.underlying258
 a226:=Tryz.isAgg258
 z226:=Tryz.sizeOf258
 v226:=Tryz.zeroValue258
 t227:=Tryz.underlying259
 a227:=Tryz.isAgg259
 z227:=Tryz.sizeOf259
 v227:=Tryz.zeroValue259
 g0:=ah
 g6:=ah
 i0:=ah
 i3:=ah
 i4:=ah
 i5:=ah
 i9:=ah
 i21:=ah
 i31:=ah
 i40:=ah
 i46:=ah
 i49:=ah
 i51:=ah
 i141:=ah
 i152:=ah
 i154:=ah
 i193:=ah
 i194:=ah
 i196:=ah
 i198:=ah
 i201:=ah
 i226:=ah
 i227:=ah
 m0:=ah
 m6:=by kernel_rfl}
open Go.RowKit Go.Lib in
theorem Tryz.strings_Fields_laid (s : ByteArray) (w : World) (hs : s.size < 4294967281) (aeh : ∀ (j : Nat) b, s.data.toList[j]? = some b → b.toNat < 128) (aeg : Lib.TabIs Tryz.prog w "strings.asciiSpace" .u8 Lib.asciiSpaceTab) :
  Calls Tryz.prog 221 #[.string s] w fun e w'=>
   e=.returned (.slice (some ⟨w.heap.size,0,none⟩) (Lib.fields s.data.toList).length (Lib.fields s.data.toList).length)∧w'=w.alloc (.cells ((Lib.fields s.data.toList).map fun l=>Value.string ⟨l.toArray⟩).toArray 9):=Any.strings_Fields_laid Tryz.PV s w hs aeh aeg
def Tryz.Ca:Go.Shelf.Ren:=⟨fun|151=>225|152=>255|137=>269|119=>270|224=>192|225=>191|217=>190|266=>230|n=>n,fun|9=>9|21=>21|4=>4|3=>3|5=>5|0=>0|46=>43|n=>n,fun|n=>n⟩
theorem Tryz.W8:Go.Proofs.Lays.n151 Tryz.prog Tryz.Ca:={
 mixed:=ah
 f119:=Tryz.func270.trans (congrArg some ah)
 f137:=Tryz.func269.trans (congrArg some ah)
 f151:=Tryz.func225.trans (congrArg some ah)
 f152:=Tryz.func255.trans (congrArg some ah)
 f217:=Tryz.func190.trans (congrArg some ah)
 f224:=Tryz.func192.trans (congrArg some ah)
 f225:=Tryz.func191.trans (congrArg some ah)
 f266:=Tryz.func230.trans (congrArg some ah)
 t0:=Tryz.underlying0
 a0:=Tryz.isAgg0
 z0:=Tryz.sizeOf0
 v0:=Tryz.zeroValue0
 t3:=Tryz.underlying3
 a3:=Tryz.isAgg3
 z3:=Tryz.sizeOf3
 v3:=Tryz.zeroValue3
 t4:=Tryz.underlying4
 a4:=Tryz.isAgg4
 z4:=Tryz.sizeOf4
 v4:=Tryz.zeroValue4
 t5:=Tryz.underlying5
 a5:=Tryz.isAgg5
 z5:=Tryz.sizeOf5
 v5:=Tryz.zeroValue5
 t9:=Tryz.underlying9
 a9:=Tryz.isAgg9
 z9:=Tryz.sizeOf9
 v9:=Tryz.zeroValue9
 t21:=Tryz.underlying21
 a21:=Tryz.isAgg21
 z21:=Tryz.sizeOf21
 v21:=Tryz.zeroValue21
 t46:=Tryz.underlying43
 a46:=Tryz.isAgg43
 z46:=Tryz.sizeOf43
 v46:=Tryz.zeroValue43}
open Go.RowKit Go.Lib in
theorem Tryz.strings_ContainsRune_ascii (s:ByteArray) (r:Int) (w:World) (h0:0≤r) (h1:r<128):
  Calls Tryz.prog 225 #[.string s,.int .i32 r] w fun e w'=>e=.returned (.bool (decide (0≤Lib.indexByte s.data.toList r.toNat.toUInt8)))∧w'=w:=Any.strings_ContainsRune_ascii Tryz.W8 s r w h0 h1
end Go.Proofs