/- A part of the proof. Conditions: none. -/
import Derived.Shelf.Small.Utf8
import Derived.Shelf.Small.Strs
import Derived.Shelf.Utf8.RuneCount
import Derived.Shelf.Strconv.Itoa0
import Derived.Shelf.Strconv.Itoa1
import Derived.Shelf.LaysM
import Derived.Shelf.Strconv.Itoa2
import Derived.Shelf.Strconv.Itoa3
import Derived.Shelf.Strconv.Itoa4
import Derived.Shelf.Strings.Search1
import Derived.Shelf.Strings.Search2
import Derived.Shelf.Strings.Search3
import Derived.Shelf.Strings.Cut
import Derived.Shelf.Strings.Count
import Derived.Shelf.Strings.Shaped
import Derived.Shelf.Strings.Prefix
import Derived.Shelf.Strings.Split
import Derived.Shelf.Strings.Fields
import Derived.Shelf.Strings.SplitShaped
import Derived.Shelf.Unicode.Latin
import Derived.Shelf.Strings.Runes
import Derived.Shelf.Strings.RuneCount
import Derived.Shelf.Unicode.Is16White
import Derived.Shelf.Unicode.IsSpaceAny
import Derived.Shelf.Unicode.Is16WhiteD
import Derived.Shelf.Unicode.Is16Any
import Derived.Shelf.Unicode.Is32Any
import Derived.Shelf.Unicode.ExclAny
import Derived.Test.YtbgjanmheagilaaGreatDoorZz
import Derived.Test.YtbgjanmheagilaaGreatDoorProg
set_option linter.unusedVariables false
set_option linter.unusedSimpArgs false
set_option maxRecDepth 100000
set_option maxHeartbeats 8000000
namespace Go.Proofs
open Go.Shelf
def Tryz.zY:Go.Shelf.Ren:=⟨fun|173=>105|246=>141|283=>165|284=>166|285=>167|286=>168|129=>182|317=>181|318=>183|319=>184|320=>185|337=>199|338=>200|n=>n,fun|2=>2|3=>3|9=>9|4=>4|171=>151|0=>0|53=>122|37=>141|5=>5|173=>154|212=>162|51=>163|20=>20|213=>164|46=>165|232=>179|233=>180|n=>n,fun|17=>1|18=>4|19=>5|n=>n⟩
theorem Tryz.MS:Go.Proofs.LaysM.n173 Tryz.prog Tryz.zY:={
 mixed:=ak
 f129:=Tryz.func182.trans (congrArg some ak)
 f173:=Tryz.func105.trans (congrArg some ak)
 f246:=Tryz.func141.trans (congrArg some ak)
 f283:=Tryz.func165.trans (congrArg some ak)
 f284:=Tryz.func166.trans (congrArg some ak)
 f285:=Tryz.func167.trans (congrArg some ak)
 f286:=Tryz.func168.trans (congrArg some ak)
 f317:=Tryz.func181.trans (congrArg some ak)
 f318:=Tryz.func183.trans (congrArg some ak)
 f319:=Tryz.func184.trans (congrArg some ak)
 f320:=Tryz.func185.trans (congrArg some ak)
 f337:=Tryz.func199.trans (congrArg some ak)
 f338:=Tryz.func200.trans (congrArg some ak)
 t0:=Tryz.underlying0
 a0:=Tryz.isAgg0
 z0:=Tryz.sizeOf0
 v0:=Tryz.zeroValue0
 t2:=Tryz.underlying2
 a2:=Tryz.isAgg2
 z2:=Tryz.sizeOf2
 v2:=Tryz.zeroValue2
 t3:=Tryz.underlying3
 a3:=Tryz.isAgg3
 z3:=Tryz.sizeOf3
 v3:=Tryz.zeroValue3
 t4:=Tryz.underlying4
 a4:=Tryz.isAgg4
 z4:=Tryz.sizeOf4
 v4:=Tryz.zeroValue4
 t5:=Tryz.underlying5
 a5:=Tryz.isAgg5
 z5:=Tryz.sizeOf5
 v5:=Tryz.zeroValue5
 t9:=Tryz.underlying9
 a9:=Tryz.isAgg9
 z9:=Tryz.sizeOf9
 v9:=Tryz.zeroValue9
 t20:=Tryz.underlying20
 a20:=Tryz.isAgg20
 z20:=Tryz.sizeOf20
 v20:=Tryz.zeroValue20
 t37:=Tryz.underlying141
 a37:=Tryz.isAgg141
 z37:=Tryz.sizeOf141
 v37:=Tryz.zeroValue141
 t46:=Tryz.underlying165
 a46:=Tryz.isAgg165
 z46:=Tryz.sizeOf165
 v46:=Tryz.zeroValue165
 t51:=Tryz.underlying163
 a51:=Tryz.isAgg163
 z51:=Tryz.sizeOf163
 v51:=Tryz.zeroValue163
 t53:=Tryz.underlying122
 a53:=Tryz.isAgg122
 z53:=Tryz.sizeOf122
 v53:=Tryz.zeroValue122
 t171:=Tryz.underlying151
 a171:=Tryz.isAgg151
 z171:=Tryz.sizeOf151
 v171:=Tryz.zeroValue151
 t173:=Tryz.underlying154
 a173:=Tryz.isAgg154
 z173:=Tryz.sizeOf154
 v173:=Tryz.zeroValue154
 t212:=Tryz.underlying162
 a212:=Tryz.isAgg162
 z212:=Tryz.sizeOf162
 v212:=Tryz.zeroValue162
 t213:=Tryz.underlying164
 a213:=Tryz.isAgg164
 z213:=Tryz.sizeOf164
 t232:=Tryz.underlying179
 a232:=Tryz.isAgg179
 z232:=Tryz.sizeOf179
 v232:=Tryz.zeroValue179
 t233:=Tryz.underlying180
 a233:=Tryz.isAgg180
 z233:=Tryz.sizeOf180
 v233:=Tryz.zeroValue180
 g17:=ak
 g18:=ak
 g19:=ak
 i0:=ak
 i2:=ak
 i3:=ak
 i4:=ak
 i5:=ak
 i9:=ak
 i20:=ak
 i37:=ak
 i46:=ak
 i51:=ak
 i53:=ak
 i171:=ak
 i173:=ak
 i212:=ak
 i232:=ak
 i233:=ak
 m17:=ak
 m18:=ak
 m19:=by kernel_rfl}
open Go.RowKit Go.Sort Go.Lib in
theorem Tryz.strconv_FormatInt_10 (n : Int) (h0 : -9223372036854775808 ≤ n) (h1 : n ≤ 9223372036854775807) (w : World) (YP : Lib.TabIs Tryz.prog w "internal/strconv.uint64pow10" .u64 Lib.pow10Tab) :
  Calls Tryz.prog 105 #[.int .i64 n,.int .i64 10] w fun e w'=>e=.returned (.string ⟨(Lib.itoa n).toArray⟩)∧∃k os,w'=grow (w.drewN k) os:=Any.strconv_FormatInt_10 Tryz.MS n h0 h1 w YP
def Tryz.Ce:Go.Shelf.Ren:=⟨fun|144=>160|143=>154|219=>177|217=>190|225=>191|224=>192|267=>193|266=>201|314=>202|n=>n,fun|9=>9|4=>4|3=>3|5=>5|46=>165|146=>172|51=>163|n=>n,fun|1=>0|n=>n⟩
theorem Tryz.Gu:Go.Proofs.Lays.n144 Tryz.prog Tryz.Ce:={
 mixed:=ak
 f143:=Tryz.func154.trans (congrArg some ak)
 f144:=Tryz.func160.trans (congrArg some ak)
 f217:=Tryz.func190.trans (congrArg some ak)
 f219:=Tryz.func177.trans (congrArg some ak)
 f224:=Tryz.func192.trans (congrArg some ak)
 f225:=Tryz.func191.trans (congrArg some ak)
 f266:=Tryz.func201.trans (congrArg some ak)
 f267:=Tryz.func193.trans (congrArg some ak)
 f314:=Tryz.func202.trans (congrArg some ak)
 t3:=Tryz.underlying3
 a3:=Tryz.isAgg3
 z3:=Tryz.sizeOf3
 v3:=Tryz.zeroValue3
 t4:=Tryz.underlying4
 a4:=Tryz.isAgg4
 z4:=Tryz.sizeOf4
 v4:=Tryz.zeroValue4
 t5:=Tryz.underlying5
 a5:=Tryz.isAgg5
 z5:=Tryz.sizeOf5
 v5:=Tryz.zeroValue5
 t9:=Tryz.underlying9
 a9:=Tryz.isAgg9
 z9:=Tryz.sizeOf9
 v9:=Tryz.zeroValue9
 t46:=Tryz.underlying165
 a46:=Tryz.isAgg165
 z46:=Tryz.sizeOf165
 v46:=Tryz.zeroValue165
 t51:=Tryz.underlying163
 a51:=Tryz.isAgg163
 z51:=Tryz.sizeOf163
 v51:=Tryz.zeroValue163
 t146:=Tryz.underlying172
 a146:=Tryz.isAgg172
 z146:=Tryz.sizeOf172
 v146:=Tryz.zeroValue172
 g1:=by kernel_rfl}
open Go.RowKit Go.Lib in
theorem Tryz.strings_Contains_one (s:ByteArray) (c:UInt8) (w:World):
  Calls Tryz.prog 160 #[.string s,.string ⟨#[c]⟩] w fun e w'=>e=.returned (.bool (decide (0≤Lib.indexByte s.data.toList c)))∧w'=w:=Any.strings_Contains_one Tryz.Gu s c w
open Go.RowKit Go.Lib in
theorem Tryz.strings_Contains (s sub:ByteArray) (m:Int) (w:World) (hs:s.size<4294967281) (hm:w.cell? ⟨0,0,none⟩=some (.int .i64 m)):
  Calls Tryz.prog 160 #[.string s,.string sub] w fun e w'=>e=.returned (.bool (Lib.contains s.data.toList sub.data.toList))∧w'=w:=Any.strings_Contains Tryz.Gu s sub m w hs hm
def Tryz.Cf:Go.Shelf.Ren:=⟨fun|145=>129|220=>163|219=>177|217=>190|225=>191|224=>192|267=>193|266=>201|314=>202|n=>n,fun|9=>9|4=>4|59=>133|3=>3|5=>5|46=>165|146=>172|51=>163|n=>n,fun|1=>0|n=>n⟩
theorem Tryz.RU:Go.Proofs.Lays.n145 Tryz.prog Tryz.Cf:={
 mixed:=ak
 f145:=Tryz.func129.trans (congrArg some ak)
 f217:=Tryz.func190.trans (congrArg some ak)
 f219:=Tryz.func177.trans (congrArg some ak)
 f220:=Tryz.func163.trans (congrArg some ak)
 f224:=Tryz.func192.trans (congrArg some ak)
 f225:=Tryz.func191.trans (congrArg some ak)
 f266:=Tryz.func201.trans (congrArg some ak)
 f267:=Tryz.func193.trans (congrArg some ak)
 f314:=Tryz.func202.trans (congrArg some ak)
 t3:=Tryz.underlying3
 a3:=Tryz.isAgg3
 z3:=Tryz.sizeOf3
 v3:=Tryz.zeroValue3
 t4:=Tryz.underlying4
 a4:=Tryz.isAgg4
 z4:=Tryz.sizeOf4
 v4:=Tryz.zeroValue4
 t5:=Tryz.underlying5
 a5:=Tryz.isAgg5
 z5:=Tryz.sizeOf5
 v5:=Tryz.zeroValue5
 t9:=Tryz.underlying9
 a9:=Tryz.isAgg9
 z9:=Tryz.sizeOf9
 v9:=Tryz.zeroValue9
 t46:=Tryz.underlying165
 a46:=Tryz.isAgg165
 z46:=Tryz.sizeOf165
 v46:=Tryz.zeroValue165
 t51:=Tryz.underlying163
 a51:=Tryz.isAgg163
 z51:=Tryz.sizeOf163
 v51:=Tryz.zeroValue163
 t59:=Tryz.underlying133
 a59:=Tryz.isAgg133
 z59:=Tryz.sizeOf133
 v59:=Tryz.zeroValue133
 t146:=Tryz.underlying172
 a146:=Tryz.isAgg172
 z146:=Tryz.sizeOf172
 v146:=Tryz.zeroValue172
 g1:=by kernel_rfl}
open Go.RowKit Go.Lib in
theorem Tryz.strings_Cut (s sep:ByteArray) (m:Int) (w:World) (hs:s.size<4294967281) (hm:w.cell? ⟨0,0,none⟩=some (.int .i64 m)):
  Calls Tryz.prog 129 #[.string s,.string sep] w fun e w'=>e=.returned (.tuple #[.string ⟨(Lib.cut s.data.toList sep.data.toList).1.toArray⟩,.string ⟨(Lib.cut s.data.toList sep.data.toList).2.1.toArray⟩,.bool (Lib.cut s.data.toList sep.data.toList).2.2])∧∃n,w'=w.drewN n:=Any.strings_Cut Tryz.RU s sep m w hs hm
def Tryz.Cg:Go.Shelf.Ren:=⟨fun|138=>121|195=>152|218=>153|143=>154|219=>177|217=>190|225=>191|224=>192|267=>193|266=>201|314=>202|n=>n,fun|9=>9|3=>3|4=>4|5=>5|0=>0|46=>165|146=>172|51=>163|n=>n,fun|1=>0|n=>n⟩
theorem Tryz.RV:Go.Proofs.Lays.n138 Tryz.prog Tryz.Cg:={
 mixed:=ak
 f138:=Tryz.func121.trans (congrArg some ak)
 f143:=Tryz.func154.trans (congrArg some ak)
 f195:=Tryz.func152.trans (congrArg some ak)
 f217:=Tryz.func190.trans (congrArg some ak)
 f218:=Tryz.func153.trans (congrArg some ak)
 f219:=Tryz.func177.trans (congrArg some ak)
 f224:=Tryz.func192.trans (congrArg some ak)
 f225:=Tryz.func191.trans (congrArg some ak)
 f266:=Tryz.func201.trans (congrArg some ak)
 f267:=Tryz.func193.trans (congrArg some ak)
 f314:=Tryz.func202.trans (congrArg some ak)
 t0:=Tryz.underlying0
 a0:=Tryz.isAgg0
 z0:=Tryz.sizeOf0
 v0:=Tryz.zeroValue0
 t3:=Tryz.underlying3
 a3:=Tryz.isAgg3
 z3:=Tryz.sizeOf3
 v3:=Tryz.zeroValue3
 t4:=Tryz.underlying4
 a4:=Tryz.isAgg4
 z4:=Tryz.sizeOf4
 v4:=Tryz.zeroValue4
 t5:=Tryz.underlying5
 a5:=Tryz.isAgg5
 z5:=Tryz.sizeOf5
 v5:=Tryz.zeroValue5
 t9:=Tryz.underlying9
 a9:=Tryz.isAgg9
 z9:=Tryz.sizeOf9
 v9:=Tryz.zeroValue9
 t46:=Tryz.underlying165
 a46:=Tryz.isAgg165
 z46:=Tryz.sizeOf165
 v46:=Tryz.zeroValue165
 t51:=Tryz.underlying163
 a51:=Tryz.isAgg163
 z51:=Tryz.sizeOf163
 v51:=Tryz.zeroValue163
 t146:=Tryz.underlying172
 a146:=Tryz.isAgg172
 z146:=Tryz.sizeOf172
 v146:=Tryz.zeroValue172
 g1:=by kernel_rfl}
open Go.RowKit Go.Lib in
theorem Tryz.strings_Count_one (s:ByteArray) (c:UInt8) (w:World):
  Calls Tryz.prog 121 #[.string s,.string ⟨#[c]⟩] w fun e w'=>e=.returned (.int .i64 (Lib.countByte s.data.toList c))∧w'=w:=Any.strings_Count_one Tryz.RV s c w
def Tryz.Ch:Go.Shelf.Ren:=⟨fun|101=>162|208=>180|206=>198|n=>n,fun|9=>9|4=>4|3=>3|n=>n,fun|n=>n⟩
theorem Tryz.RX:Go.Proofs.Lays.n101 Tryz.prog Tryz.Ch:={
 mixed:=ak
 f101:=Tryz.func162.trans (congrArg some ak)
 f206:=Tryz.func198.trans (congrArg some ak)
 f208:=Tryz.func180.trans (congrArg some ak)
 t3:=Tryz.underlying3
 a3:=Tryz.isAgg3
 z3:=Tryz.sizeOf3
 v3:=Tryz.zeroValue3
 t4:=Tryz.underlying4
 a4:=Tryz.isAgg4
 z4:=Tryz.sizeOf4
 v4:=Tryz.zeroValue4
 t9:=Tryz.underlying9
 a9:=Tryz.isAgg9
 z9:=Tryz.sizeOf9
 v9:=Tryz.zeroValue9}
open Go.RowKit Go.Lib in
theorem Tryz.strings_TrimPrefix (s p:ByteArray) (w:World):
  Calls Tryz.prog 162 #[.string s,.string p] w fun e w'=>e=.returned (.string ⟨(Lib.trimPrefix s.data.toList p.data.toList).toArray⟩)∧w'=w:=Any.strings_TrimPrefix Tryz.RX s p w
def Tryz.zZ:Go.Shelf.Ren:=⟨fun|157=>179|229=>196|199=>197|261=>203|311=>204|312=>205|n=>n,fun|9=>9|31=>159|3=>3|5=>5|4=>4|119=>169|0=>0|40=>168|152=>174|21=>21|154=>176|51=>163|141=>178|196=>184|193=>181|198=>187|49=>185|194=>182|201=>190|226=>192|46=>165|227=>193|n=>n,fun|0=>2|6=>3|n=>n⟩
theorem Tryz.MT:Go.Proofs.LaysM.n157 Tryz.prog Tryz.zZ:={
 mixed:=ak
 f157:=Tryz.func179.trans (congrArg some ak)
 f199:=Tryz.func197.trans (congrArg some ak)
 f229:=Tryz.func196.trans (congrArg some ak)
 f261:=Tryz.func203.trans (congrArg some ak)
 f311:=Tryz.func204.trans (congrArg some ak)
 f312:=Tryz.func205.trans (congrArg some ak)
 t0:=Tryz.underlying0
 a0:=Tryz.isAgg0
 z0:=Tryz.sizeOf0
 v0:=Tryz.zeroValue0
 t3:=Tryz.underlying3
 a3:=Tryz.isAgg3
 z3:=Tryz.sizeOf3
 v3:=Tryz.zeroValue3
 t4:=Tryz.underlying4
 a4:=Tryz.isAgg4
 z4:=Tryz.sizeOf4
 v4:=Tryz.zeroValue4
 t5:=Tryz.underlying5
 a5:=Tryz.isAgg5
 z5:=Tryz.sizeOf5
 v5:=Tryz.zeroValue5
 t9:=Tryz.underlying9
 a9:=Tryz.isAgg9
 z9:=Tryz.sizeOf9
 v9:=Tryz.zeroValue9
 t21:=Tryz.underlying21
 a21:=Tryz.isAgg21
 z21:=Tryz.sizeOf21
 v21:=Tryz.zeroValue21
 t31:=Tryz.underlying159
 a31:=Tryz.isAgg159
 z31:=Tryz.sizeOf159
 v31:=Tryz.zeroValue159
 t40:=Tryz.underlying168
 a40:=Tryz.isAgg168
 z40:=Tryz.sizeOf168
 v40:=Tryz.zeroValue168
 t46:=Tryz.underlying165
 a46:=Tryz.isAgg165
 z46:=Tryz.sizeOf165
 v46:=Tryz.zeroValue165
 t49:=Tryz.underlying185
 a49:=Tryz.isAgg185
 z49:=Tryz.sizeOf185
 v49:=Tryz.zeroValue185
 t51:=Tryz.underlying163
 a51:=Tryz.isAgg163
 z51:=Tryz.sizeOf163
 v51:=Tryz.zeroValue163
 t119:=Tryz.underlying169
 a119:=Tryz.isAgg169
 z119:=Tryz.sizeOf169
 t141:=Tryz.underlying178
 a141:=Tryz.isAgg178
 z141:=Tryz.sizeOf178
 v141:=Tryz.zeroValue178
 t152:=Tryz.underlying174
 a152:=Tryz.isAgg174
 z152:=Tryz.sizeOf174
 v152:=Tryz.zeroValue174
 t154:=Tryz.underlying176
 a154:=Tryz.isAgg176
 z154:=Tryz.sizeOf176
 v154:=Tryz.zeroValue176
 t193:=Tryz.underlying181
 a193:=Tryz.isAgg181
 z193:=Tryz.sizeOf181
 v193:=Tryz.zeroValue181
 t194:=Tryz.underlying182
 a194:=Tryz.isAgg182
 z194:=Tryz.sizeOf182
 v194:=Tryz.zeroValue182
 t196:=Tryz.underlying184
 a196:=Tryz.isAgg184
 z196:=Tryz.sizeOf184
 v196:=Tryz.zeroValue184
 t198:=Tryz.underlying187
 a198:=Tryz.isAgg187
 z198:=Tryz.sizeOf187
 v198:=Tryz.zeroValue187
 t201:=Tryz.underlying190
 a201:=Tryz.isAgg190
 z201:=Tryz.sizeOf190
 v201:=Tryz.zeroValue190
 t226:=Tryz.underlying192
 a226:=Tryz.isAgg192
 z226:=Tryz.sizeOf192
 v226:=Tryz.zeroValue192
 t227:=Tryz.underlying193
 a227:=Tryz.isAgg193
 z227:=Tryz.sizeOf193
 v227:=Tryz.zeroValue193
 g0:=ak
 g6:=ak
 i0:=ak
 i3:=ak
 i4:=ak
 i5:=ak
 i9:=ak
 i21:=ak
 i31:=ak
 i40:=ak
 i46:=ak
 i49:=ak
 i51:=ak
 i141:=ak
 i152:=ak
 i154:=ak
 i193:=ak
 i194:=ak
 i196:=ak
 i198:=ak
 i201:=ak
 i226:=ak
 i227:=ak
 m0:=ak
 m6:=by kernel_rfl}
open Go.RowKit Go.Lib in
theorem Tryz.strings_Fields_laid (s : ByteArray) (w : World) (hs : s.size < 4294967281) (YQ : ∀ (j : Nat) b, s.data.toList[j]? = some b → b.toNat < 128) (YP : Lib.TabIs Tryz.prog w "strings.asciiSpace" .u8 Lib.asciiSpaceTab) :
  Calls Tryz.prog 179 #[.string s] w fun e w'=>
   e=.returned (.slice (some ⟨w.heap.size,0,none⟩) (Lib.fields s.data.toList).length (Lib.fields s.data.toList).length)∧w'=w.alloc (.cells ((Lib.fields s.data.toList).map fun l=>Value.string ⟨l.toArray⟩).toArray 9):=Any.strings_Fields_laid Tryz.MT s w hs YQ YP
def Tryz.Ci:Go.Shelf.Ren:=⟨fun|151=>155|152=>178|137=>194|119=>195|224=>192|225=>191|217=>190|266=>201|n=>n,fun|9=>9|21=>21|4=>4|3=>3|5=>5|0=>0|46=>165|n=>n,fun|n=>n⟩
theorem Tryz.RY:Go.Proofs.Lays.n151 Tryz.prog Tryz.Ci:={
 mixed:=ak
 f119:=Tryz.func195.trans (congrArg some ak)
 f137:=Tryz.func194.trans (congrArg some ak)
 f151:=Tryz.func155.trans (congrArg some ak)
 f152:=Tryz.func178.trans (congrArg some ak)
 f217:=Tryz.func190.trans (congrArg some ak)
 f224:=Tryz.func192.trans (congrArg some ak)
 f225:=Tryz.func191.trans (congrArg some ak)
 f266:=Tryz.func201.trans (congrArg some ak)
 t0:=Tryz.underlying0
 a0:=Tryz.isAgg0
 z0:=Tryz.sizeOf0
 v0:=Tryz.zeroValue0
 t3:=Tryz.underlying3
 a3:=Tryz.isAgg3
 z3:=Tryz.sizeOf3
 v3:=Tryz.zeroValue3
 t4:=Tryz.underlying4
 a4:=Tryz.isAgg4
 z4:=Tryz.sizeOf4
 v4:=Tryz.zeroValue4
 t5:=Tryz.underlying5
 a5:=Tryz.isAgg5
 z5:=Tryz.sizeOf5
 v5:=Tryz.zeroValue5
 t9:=Tryz.underlying9
 a9:=Tryz.isAgg9
 z9:=Tryz.sizeOf9
 v9:=Tryz.zeroValue9
 t21:=Tryz.underlying21
 a21:=Tryz.isAgg21
 z21:=Tryz.sizeOf21
 v21:=Tryz.zeroValue21
 t46:=Tryz.underlying165
 a46:=Tryz.isAgg165
 z46:=Tryz.sizeOf165
 v46:=Tryz.zeroValue165}
open Go.RowKit Go.Lib in
theorem Tryz.strings_ContainsRune_ascii (s:ByteArray) (r:Int) (w:World) (h0:0≤r) (h1:r<128):
  Calls Tryz.prog 155 #[.string s,.int .i32 r] w fun e w'=>e=.returned (.bool (decide (0≤Lib.indexByte s.data.toList r.toNat.toUInt8)))∧w'=w:=Any.strings_ContainsRune_ascii Tryz.RY s r w h0 h1
end Go.Proofs