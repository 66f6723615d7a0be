/- A part of the proof. Conditions: none. -/
import Derived.Shelf.Strings.Repeat
import Derived.Shelf.LaysM
import Derived.Test.YtjchnliaglecoaaGreatDoorZz
import Derived.Test.YtjchnliaglecoaaGreatDoorProg
set_option linter.unusedVariables false
set_option linter.unusedSimpArgs false
set_option maxRecDepth 100000
set_option maxHeartbeats 8000000
namespace Go.Proofs
open Go.Shelf
def Tryz.rS:Go.Shelf.Ren:=⟨fun|105=>194|212=>232|99=>233|165=>234|166=>52|170=>51|169=>47|263=>257|264=>258|206=>259|240=>98|241=>260|276=>152|277=>271|n=>n,fun|9=>9|3=>3|4=>4|20=>20|0=>0|46=>43|109=>221|5=>5|72=>77|76=>90|51=>130|146=>219|53=>132|148=>234|70=>74|37=>75|75=>89|127=>139|164=>178|80=>85|n=>n,fun|n=>n⟩
theorem Tryz.Ro:Go.Proofs.Lays.n105 Tryz.prog Tryz.rS:={
 mixed:=ah
 f99:=Tryz.func233.trans (congrArg some ah)
 f105:=Tryz.func194.trans (congrArg some ah)
 f165:=Tryz.func234.trans (congrArg some ah)
 f166:=Tryz.func52.trans (congrArg some ah)
 f169:=Tryz.func47.trans (congrArg some ah)
 f170:=Tryz.func51.trans (congrArg some ah)
 f206:=Tryz.func259.trans (congrArg some ah)
 f212:=Tryz.func232.trans (congrArg some ah)
 f240:=Tryz.func98.trans (congrArg some ah)
 f241:=Tryz.func260.trans (congrArg some ah)
 f263:=Tryz.func257.trans (congrArg some ah)
 f264:=Tryz.func258.trans (congrArg some ah)
 f276:=Tryz.func152.trans (congrArg some ah)
 f277:=Tryz.func271.trans (congrArg some ah)
 t0:=Tryz.underlying0
 a0:=Tryz.isAgg0
 z0:=Tryz.sizeOf0
 v0:=Tryz.zeroValue0
 t3:=Tryz.underlying3
 a3:=Tryz.isAgg3
 z3:=Tryz.sizeOf3
 v3:=Tryz.zeroValue3
 t4:=Tryz.underlying4
 a4:=Tryz.isAgg4
 z4:=Tryz.sizeOf4
 v4:=Tryz.zeroValue4
 t5:=Tryz.underlying5
 a5:=Tryz.isAgg5
 z5:=Tryz.sizeOf5
 v5:=Tryz.zeroValue5
 t9:=Tryz.underlying9
 a9:=Tryz.isAgg9
 z9:=Tryz.sizeOf9
 v9:=Tryz.zeroValue9
 t20:=Tryz.underlying20
 a20:=Tryz.isAgg20
 z20:=Tryz.sizeOf20
 v20:=Tryz.zeroValue20
 t37:=Tryz.underlying75
 a37:=Tryz.isAgg75
 z37:=Tryz.sizeOf75
 v37:=Tryz.zeroValue75
 t46:=Tryz.underlying43
 a46:=Tryz.isAgg43
 z46:=Tryz.sizeOf43
 v46:=Tryz.zeroValue43
 t51:=Tryz.underlying130
 a51:=Tryz.isAgg130
 z51:=Tryz.sizeOf130
 v51:=Tryz.zeroValue130
 t53:=Tryz.underlying132
 a53:=Tryz.isAgg132
 z53:=Tryz.sizeOf132
 v53:=Tryz.zeroValue132
 t70:=Tryz.underlying74
 a70:=Tryz.isAgg74
 z70:=Tryz.sizeOf74
 v70:=Tryz.zeroValue74
 t72:=Tryz.underlying77
 a72:=Tryz.isAgg77
 z72:=Tryz.sizeOf77
 v72:=Tryz.zeroValue77
 t75:=Tryz.underlying89
 a75:=Tryz.isAgg89
 z75:=Tryz.sizeOf89
 v75:=Tryz.zeroValue89
 t76:=Tryz.underlying90
 a76:=Tryz.isAgg90
 z76:=Tryz.sizeOf90
 v76:=Tryz.zeroValue90
 t109:=Tryz.underlying221
 a109:=Tryz.isAgg221
 z109:=Tryz.sizeOf221
 v109:=Tryz.zeroValue221
 t127:=Tryz.underlying139
 a127:=Tryz.isAgg139
 z127:=Tryz.sizeOf139
 v127:=Tryz.zeroValue139
 t146:=Tryz.underlying219
 a146:=Tryz.isAgg219
 z146:=Tryz.sizeOf219
 v146:=Tryz.zeroValue219
 t148:=Tryz.underlying234
 a148:=Tryz.isAgg234
 z148:=Tryz.sizeOf234
 v148:=Tryz.zeroValue234
 t164:=Tryz.underlying178
 a164:=Tryz.isAgg178
 z164:=Tryz.sizeOf178
 v164:=Tryz.zeroValue178}
theorem Tryz.pL:Builder.Extra Tryz.prog Tryz.rS:={
 sizeBuilder:=ah
 liesBuilder:=ah
 t5:=Tryz.underlying5
 a5:=Tryz.isAgg5
 z5:=Tryz.sizeOf5
 v5:=Tryz.zeroValue5
 infoByte:=ah
 cellsByte:=ah
 sizeByte:=ah
 neB5:=by decide}
open Go.RowKit Go.Lib in
theorem Tryz.strings_Repeat (s:ByteArray) (c:Nat) (w:World) (hc:c≤9223372036854775807) (hlen:s.size*c≤140737488355328):
  Calls Tryz.prog 194 #[.string s,.int .i64 c] w fun e w'=>e=.returned (.string ⟨(Lib.repeatL s.data.toList c).toArray⟩)∧Below w.heap.size w w':=Any.strings_Repeat Tryz.Ro Tryz.pL s c w hc hlen
end Go.Proofs