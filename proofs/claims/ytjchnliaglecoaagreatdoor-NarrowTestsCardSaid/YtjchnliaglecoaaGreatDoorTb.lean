/- A part of the proof. Conditions: none. -/
import Derived.Test.YtjchnliaglecoaaGreatDoorZz
import Derived.Test.YtjchnliaglecoaaGreatDoorBase
import Derived.Test.YtjchnliaglecoaaGreatDoorProg
set_option linter.unusedVariables false
set_option linter.unusedSimpArgs false
set_option maxRecDepth 100000
set_option maxHeartbeats 8000000
namespace Go.Proofs.YtjchnliaglecoaaGreatDoor
open Go Go.RowKit
def bn (s:List UInt8):Int:=if s=[119,114,105,116,101] then 2 else if s=[107,101,121] then 2 else if s=[114,101,115,117,109,101] then 2 else if s=[114,101,97,100] then 1 else if s=[112,99,97,108,108] then 1 else if s=[101,114,114,111,114] then 1 else if s=[116,121,112,101] then 1 else if s=[99,114,101,97,116,101] then 1 else if s=[121,105,101,108,100] then 1 else if s=[115,116,97,116,117,115] then 1 else -1
theorem sS (s:ByteArray) (w:World):Calls Tryz.prog 181 #[.string s] w fun e w'=>e=.returned (.int .i64 (bn s.toList))∧Below w.heap.size w w':=by
 by_cases h0:s.toList=[119,114,105,116,101]
 ·have VB:=trivial;exact afP
 by_cases h1:s.toList=[107,101,121]
 ·have Vz:=trivial;exact afO
 by_cases h2:s.toList=[114,101,115,117,109,101]
 ·have Vx:=trivial;exact afN
 by_cases h3:s.toList=[114,101,97,100]
 ·have Vv:=trivial;exact afM
 by_cases h4:s.toList=[112,99,97,108,108]
 ·have Vt:=trivial;exact afL
 by_cases h5:s.toList=[101,114,114,111,114]
 ·have Vq:=trivial;exact afK
 by_cases h6:s.toList=[116,121,112,101]
 ·have Vo:=trivial;exact afJ
 by_cases h7:s.toList=[99,114,101,97,116,101]
 ·have Vm:=trivial;exact afI
 by_cases h8:s.toList=[121,105,101,108,100]
 ·have Vk:=trivial;exact afH
 by_cases h9:s.toList=[115,116,97,116,117,115]
 ·have VD:=trivial;exact afQ
 have hb:bn s.toList=-1:=by unfold bn;simp only [h0,h1,h2,h3,h4,h5,h6,h7,h8,h9,if_false]
 have e0:(s.toList==[119,114,105,116,101])=false:=by simpa using h0
 have e1:(s.toList==[107,101,121])=false:=by simpa using h1
 have e2:(s.toList==[114,101,115,117,109,101])=false:=pM;have e3:(s.toList==[114,101,97,100])=false:=x8;have e4:(s.toList==[112,99,97,108,108])=false:=by simpa using h4
 have e5:(s.toList==[101,114,114,111,114])=false:=by simpa using h5
 have e6:(s.toList==[116,121,112,101])=false:=by simpa using h6
 have e7:(s.toList==[99,114,101,97,116,101])=false:=by simpa using h7
 have e8:(s.toList==[121,105,101,108,100])=false:=by simpa using h8
 have e9:(s.toList==[115,116,97,116,117,115])=false:=by simpa using h9
 exact UG
theorem sU (s:ByteArray) (w:World):Calls Tryz.prog 114 #[.string s] w fun e w'=>e=.returned (.int .i64 (bn s.toList))∧Below w.heap.size w w':=by
 by_cases h0:s.toList=[119,114,105,116,101]
 ·have VC:=trivial;exact afP
 by_cases h1:s.toList=[107,101,121]
 ·have VA:=trivial;exact afO
 by_cases h2:s.toList=[114,101,115,117,109,101]
 ·have Vy:=trivial;exact afN
 by_cases h3:s.toList=[114,101,97,100]
 ·have Vw:=trivial;exact afM
 by_cases h4:s.toList=[112,99,97,108,108]
 ·have Vu:=trivial;exact afL
 by_cases h5:s.toList=[101,114,114,111,114]
 ·have Vs:=trivial;exact afK
 by_cases h6:s.toList=[116,121,112,101]
 ·have Vp:=trivial;exact afJ
 by_cases h7:s.toList=[99,114,101,97,116,101]
 ·have Vn:=trivial;exact afI
 by_cases h8:s.toList=[121,105,101,108,100]
 ·have Vl:=trivial;exact afH
 by_cases h9:s.toList=[115,116,97,116,117,115]
 ·have VE:=trivial;exact afQ
 have hb:bn s.toList=-1:=by unfold bn;simp only [h0,h1,h2,h3,h4,h5,h6,h7,h8,h9,if_false]
 have e0:(s.toList==[119,114,105,116,101])=false:=by simpa using h0
 have e1:(s.toList==[107,101,121])=false:=by simpa using h1
 have e2:(s.toList==[114,101,115,117,109,101])=false:=pM;have e3:(s.toList==[114,101,97,100])=false:=x8;have e4:(s.toList==[112,99,97,108,108])=false:=by simpa using h4
 have e5:(s.toList==[101,114,114,111,114])=false:=by simpa using h5
 have e6:(s.toList==[116,121,112,101])=false:=by simpa using h6
 have e7:(s.toList==[99,114,101,97,116,101])=false:=by simpa using h7
 have e8:(s.toList==[121,105,101,108,100])=false:=by simpa using h8
 have e9:(s.toList==[115,116,97,116,117,115])=false:=by simpa using h9
 exact UH
end Go.Proofs.YtjchnliaglecoaaGreatDoor
