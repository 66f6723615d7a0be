/- A part of the proof. Conditions: none. -/
import Derived.Test.YtbgjanmheagilaaGreatDoorZz
import Derived.Test.YtbgjanmheagilaaGreatDoorBase
import Derived.Test.YtbgjanmheagilaaGreatDoorProg
set_option linter.unusedVariables false
set_option linter.unusedSimpArgs false
set_option maxRecDepth 100000
set_option maxHeartbeats 8000000
namespace Go.Proofs.YtbgjanmheagilaaGreatDoor
open Go Go.RowKit
def bn (s:List UInt8):Int:=if s=[119,114,105,116,101] then 2 else if s=[107,101,121] then 2 else if s=[114,101,115,117,109,101] then 2 else if s=[114,101,97,100] then 1 else if s=[112,99,97,108,108] then 1 else if s=[101,114,114,111,114] then 1 else if s=[116,121,112,101] then 1 else if s=[99,114,101,97,116,101] then 1 else if s=[121,105,101,108,100] then 1 else if s=[115,116,97,116,117,115] then 1 else -1
theorem vB (s:ByteArray) (w:World):Calls Tryz.prog 124 #[.string s] w fun e w'=>e=.returned (.int .i64 (bn s.toList))∧Below w.heap.size w w':=by
 by_cases h0:s.toList=[119,114,105,116,101]
 ·have Od:=trivial;exact WU
 by_cases h1:s.toList=[107,101,121]
 ·have Ob:=trivial;exact WT
 by_cases h2:s.toList=[114,101,115,117,109,101]
 ·have N9:=trivial;exact WS
 by_cases h3:s.toList=[114,101,97,100]
 ·have N7:=trivial;exact WR
 by_cases h4:s.toList=[112,99,97,108,108]
 ·have N5:=trivial;exact WQ
 by_cases h5:s.toList=[101,114,114,111,114]
 ·have SU:=trivial;exact adz
 by_cases h6:s.toList=[116,121,112,101]
 ·have SR:=trivial;exact ady
 by_cases h7:s.toList=[99,114,101,97,116,101]
 ·have SP:=trivial;exact adx
 by_cases h8:s.toList=[121,105,101,108,100]
 ·have SM:=trivial;exact adw
 by_cases h9:s.toList=[115,116,97,116,117,115]
 ·have Og:=trivial;exact WV
 have hb:bn s.toList=-1:=by unfold bn;simp only [h0,h1,h2,h3,h4,h5,h6,h7,h8,h9,if_false]
 have e0:(s.toList==[119,114,105,116,101])=false:=by simpa using h0
 have e1:(s.toList==[107,101,121])=false:=by simpa using h1
 have e2:(s.toList==[114,101,115,117,109,101])=false:=lS;have e3:(s.toList==[114,101,97,100])=false:=uV;have e4:(s.toList==[112,99,97,108,108])=false:=by simpa using h4
 have e5:(s.toList==[101,114,114,111,114])=false:=by simpa using h5
 have e6:(s.toList==[116,121,112,101])=false:=by simpa using h6
 have e7:(s.toList==[99,114,101,97,116,101])=false:=by simpa using h7
 have e8:(s.toList==[121,105,101,108,100])=false:=by simpa using h8
 have e9:(s.toList==[115,116,97,116,117,115])=false:=by simpa using h9
 exact NP
theorem oH (s:ByteArray) (w:World):Calls Tryz.prog 71 #[.string s] w fun e w'=>e=.returned (.int .i64 (bn s.toList))∧Below w.heap.size w w':=by
 by_cases h0:s.toList=[119,114,105,116,101]
 ·have Oe:=trivial;exact WU
 by_cases h1:s.toList=[107,101,121]
 ·have Oc:=trivial;exact WT
 by_cases h2:s.toList=[114,101,115,117,109,101]
 ·have Oa:=trivial;exact WS
 by_cases h3:s.toList=[114,101,97,100]
 ·have N8:=trivial;exact WR
 by_cases h4:s.toList=[112,99,97,108,108]
 ·have N6:=trivial;exact WQ
 by_cases h5:s.toList=[101,114,114,111,114]
 ·have SV:=trivial;exact adz
 by_cases h6:s.toList=[116,121,112,101]
 ·have SS:=trivial;exact ady
 by_cases h7:s.toList=[99,114,101,97,116,101]
 ·have SQ:=trivial;exact adx
 by_cases h8:s.toList=[121,105,101,108,100]
 ·have SN:=trivial;exact adw
 by_cases h9:s.toList=[115,116,97,116,117,115]
 ·have Oh:=trivial;exact WV
 have hb:bn s.toList=-1:=by unfold bn;simp only [h0,h1,h2,h3,h4,h5,h6,h7,h8,h9,if_false]
 have e0:(s.toList==[119,114,105,116,101])=false:=by simpa using h0
 have e1:(s.toList==[107,101,121])=false:=by simpa using h1
 have e2:(s.toList==[114,101,115,117,109,101])=false:=lS;have e3:(s.toList==[114,101,97,100])=false:=uV;have e4:(s.toList==[112,99,97,108,108])=false:=by simpa using h4
 have e5:(s.toList==[101,114,114,111,114])=false:=by simpa using h5
 have e6:(s.toList==[116,121,112,101])=false:=by simpa using h6
 have e7:(s.toList==[99,114,101,97,116,101])=false:=by simpa using h7
 have e8:(s.toList==[121,105,101,108,100])=false:=by simpa using h8
 have e9:(s.toList==[115,116,97,116,117,115])=false:=by simpa using h9
 exact NS
end Go.Proofs.YtbgjanmheagilaaGreatDoor