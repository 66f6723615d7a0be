/- TreeBuiltins: how many arguments what is there from the beginning takes: both functions. Conditions: none. -/
import Derived.Test.YtjchnliaglecoaaGreatDoorBase
import Derived.Test.YtjchnliaglecoaaGreatDoorProg
set_option linter.unusedVariables false
set_option linter.unusedSimpArgs false
namespace Go.Proofs.YtjchnliaglecoaaGreatDoor
open Go Go.RowKit
set_option linter.unusedVariables false
set_option linter.unusedSimpArgs false
def bn (s : List UInt8) : Int := if s = [119, 114, 105, 116, 101] then 2 else if s = [107, 101, 121] then 2 else if s = [114, 101, 115, 117, 109, 101] then 2 else if s = [114, 101, 97, 100] then 1 else if s = [112, 99, 97, 108, 108] then 1 else if s = [101, 114, 114, 111, 114] then 1 else if s = [116, 121, 112, 101] then 1 else if s = [99, 114, 101, 97, 116, 101] then 1 else if s = [121, 105, 101, 108, 100] then 1 else if s = [115, 116, 97, 116, 117, 115] then 1 else -1
set_option maxHeartbeats 4000000 in
theorem builtin_18 (s : ByteArray) (w : World) : Calls Tryz.prog 181 #[.string s] w fun e w' => e = .returned (.int .i64 (bn s.toList)) ∧ Below w.heap.size w w' := by
  by_cases h0 : s.toList = [119, 114, 105, 116, 101]
  · have hb : bn s.toList = 2 := by rw [h0]; decide
    have e0 : (s.toList == [119, 114, 105, 116, 101]) = true := by rw [h0]; decide
    have e1 : (s.toList == [107, 101, 121]) = false := by rw [h0]; decide
    have e2 : (s.toList == [114, 101, 115, 117, 109, 101]) = false := by rw [h0]; decide
    have e3 : (s.toList == [114, 101, 97, 100]) = false := by rw [h0]; decide
    have e4 : (s.toList == [112, 99, 97, 108, 108]) = false := by rw [h0]; decide
    have e5 : (s.toList == [101, 114, 114, 111, 114]) = false := by rw [h0]; decide
    have e6 : (s.toList == [116, 121, 112, 101]) = false := by rw [h0]; decide
    have e7 : (s.toList == [99, 114, 101, 97, 116, 101]) = false := by rw [h0]; decide
    have e8 : (s.toList == [121, 105, 101, 108, 100]) = false := by rw [h0]; decide
    have e9 : (s.toList == [115, 116, 97, 116, 117, 115]) = false := by rw [h0]; decide
    rw [hb]
    clear h0 hb
    go_enter Tryz.func181, Tryz.ntmps181
    go_wp2
    go_ret
    exact ⟨rfl, Below.refl _ _⟩
  by_cases h1 : s.toList = [107, 101, 121]
  · have hb : bn s.toList = 2 := by rw [h1]; decide
    have e0 : (s.toList == [119, 114, 105, 116, 101]) = false := by rw [h1]; decide
    have e1 : (s.toList == [107, 101, 121]) = true := by rw [h1]; decide
    have e2 : (s.toList == [114, 101, 115, 117, 109, 101]) = false := by rw [h1]; decide
    have e3 : (s.toList == [114, 101, 97, 100]) = false := by rw [h1]; decide
    have e4 : (s.toList == [112, 99, 97, 108, 108]) = false := by rw [h1]; decide
    have e5 : (s.toList == [101, 114, 114, 111, 114]) = false := by rw [h1]; decide
    have e6 : (s.toList == [116, 121, 112, 101]) = false := by rw [h1]; decide
    have e7 : (s.toList == [99, 114, 101, 97, 116, 101]) = false := by rw [h1]; decide
    have e8 : (s.toList == [121, 105, 101, 108, 100]) = false := by rw [h1]; decide
    have e9 : (s.toList == [115, 116, 97, 116, 117, 115]) = false := by rw [h1]; decide
    rw [hb]
    clear h0 h1 hb
    go_enter Tryz.func181, Tryz.ntmps181
    go_wp2
    go_ret
    exact ⟨rfl, Below.refl _ _⟩
  by_cases h2 : s.toList = [114, 101, 115, 117, 109, 101]
  · have hb : bn s.toList = 2 := by rw [h2]; decide
    have e0 : (s.toList == [119, 114, 105, 116, 101]) = false := by rw [h2]; decide
    have e1 : (s.toList == [107, 101, 121]) = false := by rw [h2]; decide
    have e2 : (s.toList == [114, 101, 115, 117, 109, 101]) = true := by rw [h2]; decide
    have e3 : (s.toList == [114, 101, 97, 100]) = false := by rw [h2]; decide
    have e4 : (s.toList == [112, 99, 97, 108, 108]) = false := by rw [h2]; decide
    have e5 : (s.toList == [101, 114, 114, 111, 114]) = false := by rw [h2]; decide
    have e6 : (s.toList == [116, 121, 112, 101]) = false := by rw [h2]; decide
    have e7 : (s.toList == [99, 114, 101, 97, 116, 101]) = false := by rw [h2]; decide
    have e8 : (s.toList == [121, 105, 101, 108, 100]) = false := by rw [h2]; decide
    have e9 : (s.toList == [115, 116, 97, 116, 117, 115]) = false := by rw [h2]; decide
    rw [hb]
    clear h0 h1 h2 hb
    go_enter Tryz.func181, Tryz.ntmps181
    go_wp2
    go_ret
    exact ⟨rfl, Below.refl _ _⟩
  by_cases h3 : s.toList = [114, 101, 97, 100]
  · have hb : bn s.toList = 1 := by rw [h3]; decide
    have e0 : (s.toList == [119, 114, 105, 116, 101]) = false := by rw [h3]; decide
    have e1 : (s.toList == [107, 101, 121]) = false := by rw [h3]; decide
    have e2 : (s.toList == [114, 101, 115, 117, 109, 101]) = false := by rw [h3]; decide
    have e3 : (s.toList == [114, 101, 97, 100]) = true := by rw [h3]; decide
    have e4 : (s.toList == [112, 99, 97, 108, 108]) = false := by rw [h3]; decide
    have e5 : (s.toList == [101, 114, 114, 111, 114]) = false := by rw [h3]; decide
    have e6 : (s.toList == [116, 121, 112, 101]) = false := by rw [h3]; decide
    have e7 : (s.toList == [99, 114, 101, 97, 116, 101]) = false := by rw [h3]; decide
    have e8 : (s.toList == [121, 105, 101, 108, 100]) = false := by rw [h3]; decide
    have e9 : (s.toList == [115, 116, 97, 116, 117, 115]) = false := by rw [h3]; decide
    rw [hb]
    clear h0 h1 h2 h3 hb
    go_enter Tryz.func181, Tryz.ntmps181
    go_wp2
    go_ret
    exact ⟨rfl, Below.refl _ _⟩
  by_cases h4 : s.toList = [112, 99, 97, 108, 108]
  · have hb : bn s.toList = 1 := by rw [h4]; decide
    have e0 : (s.toList == [119, 114, 105, 116, 101]) = false := by rw [h4]; decide
    have e1 : (s.toList == [107, 101, 121]) = false := by rw [h4]; decide
    have e2 : (s.toList == [114, 101, 115, 117, 109, 101]) = false := by rw [h4]; decide
    have e3 : (s.toList == [114, 101, 97, 100]) = false := by rw [h4]; decide
    have e4 : (s.toList == [112, 99, 97, 108, 108]) = true := by rw [h4]; decide
    have e5 : (s.toList == [101, 114, 114, 111, 114]) = false := by rw [h4]; decide
    have e6 : (s.toList == [116, 121, 112, 101]) = false := by rw [h4]; decide
    have e7 : (s.toList == [99, 114, 101, 97, 116, 101]) = false := by rw [h4]; decide
    have e8 : (s.toList == [121, 105, 101, 108, 100]) = false := by rw [h4]; decide
    have e9 : (s.toList == [115, 116, 97, 116, 117, 115]) = false := by rw [h4]; decide
    rw [hb]
    clear h0 h1 h2 h3 h4 hb
    go_enter Tryz.func181, Tryz.ntmps181
    go_wp2
    go_ret
    exact ⟨rfl, Below.refl _ _⟩
  by_cases h5 : s.toList = [101, 114, 114, 111, 114]
  · have hb : bn s.toList = 1 := by rw [h5]; decide
    have e0 : (s.toList == [119, 114, 105, 116, 101]) = false := by rw [h5]; decide
    have e1 : (s.toList == [107, 101, 121]) = false := by rw [h5]; decide
    have e2 : (s.toList == [114, 101, 115, 117, 109, 101]) = false := by rw [h5]; decide
    have e3 : (s.toList == [114, 101, 97, 100]) = false := by rw [h5]; decide
    have e4 : (s.toList == [112, 99, 97, 108, 108]) = false := by rw [h5]; decide
    have e5 : (s.toList == [101, 114, 114, 111, 114]) = true := by rw [h5]; decide
    have e6 : (s.toList == [116, 121, 112, 101]) = false := by rw [h5]; decide
    have e7 : (s.toList == [99, 114, 101, 97, 116, 101]) = false := by rw [h5]; decide
    have e8 : (s.toList == [121, 105, 101, 108, 100]) = false := by rw [h5]; decide
    have e9 : (s.toList == [115, 116, 97, 116, 117, 115]) = false := by rw [h5]; decide
    rw [hb]
    clear h0 h1 h2 h3 h4 h5 hb
    go_enter Tryz.func181, Tryz.ntmps181
    go_wp2
    go_ret
    exact ⟨rfl, Below.refl _ _⟩
  by_cases h6 : s.toList = [116, 121, 112, 101]
  · have hb : bn s.toList = 1 := by rw [h6]; decide
    have e0 : (s.toList == [119, 114, 105, 116, 101]) = false := by rw [h6]; decide
    have e1 : (s.toList == [107, 101, 121]) = false := by rw [h6]; decide
    have e2 : (s.toList == [114, 101, 115, 117, 109, 101]) = false := by rw [h6]; decide
    have e3 : (s.toList == [114, 101, 97, 100]) = false := by rw [h6]; decide
    have e4 : (s.toList == [112, 99, 97, 108, 108]) = false := by rw [h6]; decide
    have e5 : (s.toList == [101, 114, 114, 111, 114]) = false := by rw [h6]; decide
    have e6 : (s.toList == [116, 121, 112, 101]) = true := by rw [h6]; decide
    have e7 : (s.toList == [99, 114, 101, 97, 116, 101]) = false := by rw [h6]; decide
    have e8 : (s.toList == [121, 105, 101, 108, 100]) = false := by rw [h6]; decide
    have e9 : (s.toList == [115, 116, 97, 116, 117, 115]) = false := by rw [h6]; decide
    rw [hb]
    clear h0 h1 h2 h3 h4 h5 h6 hb
    go_enter Tryz.func181, Tryz.ntmps181
    go_wp2
    go_ret
    exact ⟨rfl, Below.refl _ _⟩
  by_cases h7 : s.toList = [99, 114, 101, 97, 116, 101]
  · have hb : bn s.toList = 1 := by rw [h7]; decide
    have e0 : (s.toList == [119, 114, 105, 116, 101]) = false := by rw [h7]; decide
    have e1 : (s.toList == [107, 101, 121]) = false := by rw [h7]; decide
    have e2 : (s.toList == [114, 101, 115, 117, 109, 101]) = false := by rw [h7]; decide
    have e3 : (s.toList == [114, 101, 97, 100]) = false := by rw [h7]; decide
    have e4 : (s.toList == [112, 99, 97, 108, 108]) = false := by rw [h7]; decide
    have e5 : (s.toList == [101, 114, 114, 111, 114]) = false := by rw [h7]; decide
    have e6 : (s.toList == [116, 121, 112, 101]) = false := by rw [h7]; decide
    have e7 : (s.toList == [99, 114, 101, 97, 116, 101]) = true := by rw [h7]; decide
    have e8 : (s.toList == [121, 105, 101, 108, 100]) = false := by rw [h7]; decide
    have e9 : (s.toList == [115, 116, 97, 116, 117, 115]) = false := by rw [h7]; decide
    rw [hb]
    clear h0 h1 h2 h3 h4 h5 h6 h7 hb
    go_enter Tryz.func181, Tryz.ntmps181
    go_wp2
    go_ret
    exact ⟨rfl, Below.refl _ _⟩
  by_cases h8 : s.toList = [121, 105, 101, 108, 100]
  · have hb : bn s.toList = 1 := by rw [h8]; decide
    have e0 : (s.toList == [119, 114, 105, 116, 101]) = false := by rw [h8]; decide
    have e1 : (s.toList == [107, 101, 121]) = false := by rw [h8]; decide
    have e2 : (s.toList == [114, 101, 115, 117, 109, 101]) = false := by rw [h8]; decide
    have e3 : (s.toList == [114, 101, 97, 100]) = false := by rw [h8]; decide
    have e4 : (s.toList == [112, 99, 97, 108, 108]) = false := by rw [h8]; decide
    have e5 : (s.toList == [101, 114, 114, 111, 114]) = false := by rw [h8]; decide
    have e6 : (s.toList == [116, 121, 112, 101]) = false := by rw [h8]; decide
    have e7 : (s.toList == [99, 114, 101, 97, 116, 101]) = false := by rw [h8]; decide
    have e8 : (s.toList == [121, 105, 101, 108, 100]) = true := by rw [h8]; decide
    have e9 : (s.toList == [115, 116, 97, 116, 117, 115]) = false := by rw [h8]; decide
    rw [hb]
    clear h0 h1 h2 h3 h4 h5 h6 h7 h8 hb
    go_enter Tryz.func181, Tryz.ntmps181
    go_wp2
    go_ret
    exact ⟨rfl, Below.refl _ _⟩
  by_cases h9 : s.toList = [115, 116, 97, 116, 117, 115]
  · have hb : bn s.toList = 1 := by rw [h9]; decide
    have e0 : (s.toList == [119, 114, 105, 116, 101]) = false := by rw [h9]; decide
    have e1 : (s.toList == [107, 101, 121]) = false := by rw [h9]; decide
    have e2 : (s.toList == [114, 101, 115, 117, 109, 101]) = false := by rw [h9]; decide
    have e3 : (s.toList == [114, 101, 97, 100]) = false := by rw [h9]; decide
    have e4 : (s.toList == [112, 99, 97, 108, 108]) = false := by rw [h9]; decide
    have e5 : (s.toList == [101, 114, 114, 111, 114]) = false := by rw [h9]; decide
    have e6 : (s.toList == [116, 121, 112, 101]) = false := by rw [h9]; decide
    have e7 : (s.toList == [99, 114, 101, 97, 116, 101]) = false := by rw [h9]; decide
    have e8 : (s.toList == [121, 105, 101, 108, 100]) = false := by rw [h9]; decide
    have e9 : (s.toList == [115, 116, 97, 116, 117, 115]) = true := by rw [h9]; decide
    rw [hb]
    clear h0 h1 h2 h3 h4 h5 h6 h7 h8 h9 hb
    go_enter Tryz.func181, Tryz.ntmps181
    go_wp2
    go_ret
    exact ⟨rfl, Below.refl _ _⟩
  have hb : bn s.toList = -1 := by unfold bn; simp only [h0, h1, h2, h3, h4, h5, h6, h7, h8, h9, if_false]
  have e0 : (s.toList == [119, 114, 105, 116, 101]) = false := by simpa using h0
  have e1 : (s.toList == [107, 101, 121]) = false := by simpa using h1
  have e2 : (s.toList == [114, 101, 115, 117, 109, 101]) = false := by simpa using h2
  have e3 : (s.toList == [114, 101, 97, 100]) = false := by simpa using h3
  have e4 : (s.toList == [112, 99, 97, 108, 108]) = false := by simpa using h4
  have e5 : (s.toList == [101, 114, 114, 111, 114]) = false := by simpa using h5
  have e6 : (s.toList == [116, 121, 112, 101]) = false := by simpa using h6
  have e7 : (s.toList == [99, 114, 101, 97, 116, 101]) = false := by simpa using h7
  have e8 : (s.toList == [121, 105, 101, 108, 100]) = false := by simpa using h8
  have e9 : (s.toList == [115, 116, 97, 116, 117, 115]) = false := by simpa using h9
  rw [hb]
  clear h0 h1 h2 h3 h4 h5 h6 h7 h8 h9 hb
  go_enter Tryz.func181, Tryz.ntmps181
  go_wp2
  go_ret
  exact ⟨rfl, Below.refl _ _⟩
set_option maxHeartbeats 4000000 in
theorem builtin_19 (s : ByteArray) (w : World) : Calls Tryz.prog 114 #[.string s] w fun e w' => e = .returned (.int .i64 (bn s.toList)) ∧ Below w.heap.size w w' := by
  by_cases h0 : s.toList = [119, 114, 105, 116, 101]
  · have hb : bn s.toList = 2 := by rw [h0]; decide
    have e0 : (s.toList == [119, 114, 105, 116, 101]) = true := by rw [h0]; decide
    have e1 : (s.toList == [107, 101, 121]) = false := by rw [h0]; decide
    have e2 : (s.toList == [114, 101, 115, 117, 109, 101]) = false := by rw [h0]; decide
    have e3 : (s.toList == [114, 101, 97, 100]) = false := by rw [h0]; decide
    have e4 : (s.toList == [112, 99, 97, 108, 108]) = false := by rw [h0]; decide
    have e5 : (s.toList == [101, 114, 114, 111, 114]) = false := by rw [h0]; decide
    have e6 : (s.toList == [116, 121, 112, 101]) = false := by rw [h0]; decide
    have e7 : (s.toList == [99, 114, 101, 97, 116, 101]) = false := by rw [h0]; decide
    have e8 : (s.toList == [121, 105, 101, 108, 100]) = false := by rw [h0]; decide
    have e9 : (s.toList == [115, 116, 97, 116, 117, 115]) = false := by rw [h0]; decide
    rw [hb]
    clear h0 hb
    go_enter Tryz.func114, Tryz.ntmps114
    go_wp2
    go_ret
    exact ⟨rfl, Below.refl _ _⟩
  by_cases h1 : s.toList = [107, 101, 121]
  · have hb : bn s.toList = 2 := by rw [h1]; decide
    have e0 : (s.toList == [119, 114, 105, 116, 101]) = false := by rw [h1]; decide
    have e1 : (s.toList == [107, 101, 121]) = true := by rw [h1]; decide
    have e2 : (s.toList == [114, 101, 115, 117, 109, 101]) = false := by rw [h1]; decide
    have e3 : (s.toList == [114, 101, 97, 100]) = false := by rw [h1]; decide
    have e4 : (s.toList == [112, 99, 97, 108, 108]) = false := by rw [h1]; decide
    have e5 : (s.toList == [101, 114, 114, 111, 114]) = false := by rw [h1]; decide
    have e6 : (s.toList == [116, 121, 112, 101]) = false := by rw [h1]; decide
    have e7 : (s.toList == [99, 114, 101, 97, 116, 101]) = false := by rw [h1]; decide
    have e8 : (s.toList == [121, 105, 101, 108, 100]) = false := by rw [h1]; decide
    have e9 : (s.toList == [115, 116, 97, 116, 117, 115]) = false := by rw [h1]; decide
    rw [hb]
    clear h0 h1 hb
    go_enter Tryz.func114, Tryz.ntmps114
    go_wp2
    go_ret
    exact ⟨rfl, Below.refl _ _⟩
  by_cases h2 : s.toList = [114, 101, 115, 117, 109, 101]
  · have hb : bn s.toList = 2 := by rw [h2]; decide
    have e0 : (s.toList == [119, 114, 105, 116, 101]) = false := by rw [h2]; decide
    have e1 : (s.toList == [107, 101, 121]) = false := by rw [h2]; decide
    have e2 : (s.toList == [114, 101, 115, 117, 109, 101]) = true := by rw [h2]; decide
    have e3 : (s.toList == [114, 101, 97, 100]) = false := by rw [h2]; decide
    have e4 : (s.toList == [112, 99, 97, 108, 108]) = false := by rw [h2]; decide
    have e5 : (s.toList == [101, 114, 114, 111, 114]) = false := by rw [h2]; decide
    have e6 : (s.toList == [116, 121, 112, 101]) = false := by rw [h2]; decide
    have e7 : (s.toList == [99, 114, 101, 97, 116, 101]) = false := by rw [h2]; decide
    have e8 : (s.toList == [121, 105, 101, 108, 100]) = false := by rw [h2]; decide
    have e9 : (s.toList == [115, 116, 97, 116, 117, 115]) = false := by rw [h2]; decide
    rw [hb]
    clear h0 h1 h2 hb
    go_enter Tryz.func114, Tryz.ntmps114
    go_wp2
    go_ret
    exact ⟨rfl, Below.refl _ _⟩
  by_cases h3 : s.toList = [114, 101, 97, 100]
  · have hb : bn s.toList = 1 := by rw [h3]; decide
    have e0 : (s.toList == [119, 114, 105, 116, 101]) = false := by rw [h3]; decide
    have e1 : (s.toList == [107, 101, 121]) = false := by rw [h3]; decide
    have e2 : (s.toList == [114, 101, 115, 117, 109, 101]) = false := by rw [h3]; decide
    have e3 : (s.toList == [114, 101, 97, 100]) = true := by rw [h3]; decide
    have e4 : (s.toList == [112, 99, 97, 108, 108]) = false := by rw [h3]; decide
    have e5 : (s.toList == [101, 114, 114, 111, 114]) = false := by rw [h3]; decide
    have e6 : (s.toList == [116, 121, 112, 101]) = false := by rw [h3]; decide
    have e7 : (s.toList == [99, 114, 101, 97, 116, 101]) = false := by rw [h3]; decide
    have e8 : (s.toList == [121, 105, 101, 108, 100]) = false := by rw [h3]; decide
    have e9 : (s.toList == [115, 116, 97, 116, 117, 115]) = false := by rw [h3]; decide
    rw [hb]
    clear h0 h1 h2 h3 hb
    go_enter Tryz.func114, Tryz.ntmps114
    go_wp2
    go_ret
    exact ⟨rfl, Below.refl _ _⟩
  by_cases h4 : s.toList = [112, 99, 97, 108, 108]
  · have hb : bn s.toList = 1 := by rw [h4]; decide
    have e0 : (s.toList == [119, 114, 105, 116, 101]) = false := by rw [h4]; decide
    have e1 : (s.toList == [107, 101, 121]) = false := by rw [h4]; decide
    have e2 : (s.toList == [114, 101, 115, 117, 109, 101]) = false := by rw [h4]; decide
    have e3 : (s.toList == [114, 101, 97, 100]) = false := by rw [h4]; decide
    have e4 : (s.toList == [112, 99, 97, 108, 108]) = true := by rw [h4]; decide
    have e5 : (s.toList == [101, 114, 114, 111, 114]) = false := by rw [h4]; decide
    have e6 : (s.toList == [116, 121, 112, 101]) = false := by rw [h4]; decide
    have e7 : (s.toList == [99, 114, 101, 97, 116, 101]) = false := by rw [h4]; decide
    have e8 : (s.toList == [121, 105, 101, 108, 100]) = false := by rw [h4]; decide
    have e9 : (s.toList == [115, 116, 97, 116, 117, 115]) = false := by rw [h4]; decide
    rw [hb]
    clear h0 h1 h2 h3 h4 hb
    go_enter Tryz.func114, Tryz.ntmps114
    go_wp2
    go_ret
    exact ⟨rfl, Below.refl _ _⟩
  by_cases h5 : s.toList = [101, 114, 114, 111, 114]
  · have hb : bn s.toList = 1 := by rw [h5]; decide
    have e0 : (s.toList == [119, 114, 105, 116, 101]) = false := by rw [h5]; decide
    have e1 : (s.toList == [107, 101, 121]) = false := by rw [h5]; decide
    have e2 : (s.toList == [114, 101, 115, 117, 109, 101]) = false := by rw [h5]; decide
    have e3 : (s.toList == [114, 101, 97, 100]) = false := by rw [h5]; decide
    have e4 : (s.toList == [112, 99, 97, 108, 108]) = false := by rw [h5]; decide
    have e5 : (s.toList == [101, 114, 114, 111, 114]) = true := by rw [h5]; decide
    have e6 : (s.toList == [116, 121, 112, 101]) = false := by rw [h5]; decide
    have e7 : (s.toList == [99, 114, 101, 97, 116, 101]) = false := by rw [h5]; decide
    have e8 : (s.toList == [121, 105, 101, 108, 100]) = false := by rw [h5]; decide
    have e9 : (s.toList == [115, 116, 97, 116, 117, 115]) = false := by rw [h5]; decide
    rw [hb]
    clear h0 h1 h2 h3 h4 h5 hb
    go_enter Tryz.func114, Tryz.ntmps114
    go_wp2
    go_ret
    exact ⟨rfl, Below.refl _ _⟩
  by_cases h6 : s.toList = [116, 121, 112, 101]
  · have hb : bn s.toList = 1 := by rw [h6]; decide
    have e0 : (s.toList == [119, 114, 105, 116, 101]) = false := by rw [h6]; decide
    have e1 : (s.toList == [107, 101, 121]) = false := by rw [h6]; decide
    have e2 : (s.toList == [114, 101, 115, 117, 109, 101]) = false := by rw [h6]; decide
    have e3 : (s.toList == [114, 101, 97, 100]) = false := by rw [h6]; decide
    have e4 : (s.toList == [112, 99, 97, 108, 108]) = false := by rw [h6]; decide
    have e5 : (s.toList == [101, 114, 114, 111, 114]) = false := by rw [h6]; decide
    have e6 : (s.toList == [116, 121, 112, 101]) = true := by rw [h6]; decide
    have e7 : (s.toList == [99, 114, 101, 97, 116, 101]) = false := by rw [h6]; decide
    have e8 : (s.toList == [121, 105, 101, 108, 100]) = false := by rw [h6]; decide
    have e9 : (s.toList == [115, 116, 97, 116, 117, 115]) = false := by rw [h6]; decide
    rw [hb]
    clear h0 h1 h2 h3 h4 h5 h6 hb
    go_enter Tryz.func114, Tryz.ntmps114
    go_wp2
    go_ret
    exact ⟨rfl, Below.refl _ _⟩
  by_cases h7 : s.toList = [99, 114, 101, 97, 116, 101]
  · have hb : bn s.toList = 1 := by rw [h7]; decide
    have e0 : (s.toList == [119, 114, 105, 116, 101]) = false := by rw [h7]; decide
    have e1 : (s.toList == [107, 101, 121]) = false := by rw [h7]; decide
    have e2 : (s.toList == [114, 101, 115, 117, 109, 101]) = false := by rw [h7]; decide
    have e3 : (s.toList == [114, 101, 97, 100]) = false := by rw [h7]; decide
    have e4 : (s.toList == [112, 99, 97, 108, 108]) = false := by rw [h7]; decide
    have e5 : (s.toList == [101, 114, 114, 111, 114]) = false := by rw [h7]; decide
    have e6 : (s.toList == [116, 121, 112, 101]) = false := by rw [h7]; decide
    have e7 : (s.toList == [99, 114, 101, 97, 116, 101]) = true := by rw [h7]; decide
    have e8 : (s.toList == [121, 105, 101, 108, 100]) = false := by rw [h7]; decide
    have e9 : (s.toList == [115, 116, 97, 116, 117, 115]) = false := by rw [h7]; decide
    rw [hb]
    clear h0 h1 h2 h3 h4 h5 h6 h7 hb
    go_enter Tryz.func114, Tryz.ntmps114
    go_wp2
    go_ret
    exact ⟨rfl, Below.refl _ _⟩
  by_cases h8 : s.toList = [121, 105, 101, 108, 100]
  · have hb : bn s.toList = 1 := by rw [h8]; decide
    have e0 : (s.toList == [119, 114, 105, 116, 101]) = false := by rw [h8]; decide
    have e1 : (s.toList == [107, 101, 121]) = false := by rw [h8]; decide
    have e2 : (s.toList == [114, 101, 115, 117, 109, 101]) = false := by rw [h8]; decide
    have e3 : (s.toList == [114, 101, 97, 100]) = false := by rw [h8]; decide
    have e4 : (s.toList == [112, 99, 97, 108, 108]) = false := by rw [h8]; decide
    have e5 : (s.toList == [101, 114, 114, 111, 114]) = false := by rw [h8]; decide
    have e6 : (s.toList == [116, 121, 112, 101]) = false := by rw [h8]; decide
    have e7 : (s.toList == [99, 114, 101, 97, 116, 101]) = false := by rw [h8]; decide
    have e8 : (s.toList == [121, 105, 101, 108, 100]) = true := by rw [h8]; decide
    have e9 : (s.toList == [115, 116, 97, 116, 117, 115]) = false := by rw [h8]; decide
    rw [hb]
    clear h0 h1 h2 h3 h4 h5 h6 h7 h8 hb
    go_enter Tryz.func114, Tryz.ntmps114
    go_wp2
    go_ret
    exact ⟨rfl, Below.refl _ _⟩
  by_cases h9 : s.toList = [115, 116, 97, 116, 117, 115]
  · have hb : bn s.toList = 1 := by rw [h9]; decide
    have e0 : (s.toList == [119, 114, 105, 116, 101]) = false := by rw [h9]; decide
    have e1 : (s.toList == [107, 101, 121]) = false := by rw [h9]; decide
    have e2 : (s.toList == [114, 101, 115, 117, 109, 101]) = false := by rw [h9]; decide
    have e3 : (s.toList == [114, 101, 97, 100]) = false := by rw [h9]; decide
    have e4 : (s.toList == [112, 99, 97, 108, 108]) = false := by rw [h9]; decide
    have e5 : (s.toList == [101, 114, 114, 111, 114]) = false := by rw [h9]; decide
    have e6 : (s.toList == [116, 121, 112, 101]) = false := by rw [h9]; decide
    have e7 : (s.toList == [99, 114, 101, 97, 116, 101]) = false := by rw [h9]; decide
    have e8 : (s.toList == [121, 105, 101, 108, 100]) = false := by rw [h9]; decide
    have e9 : (s.toList == [115, 116, 97, 116, 117, 115]) = true := by rw [h9]; decide
    rw [hb]
    clear h0 h1 h2 h3 h4 h5 h6 h7 h8 h9 hb
    go_enter Tryz.func114, Tryz.ntmps114
    go_wp2
    go_ret
    exact ⟨rfl, Below.refl _ _⟩
  have hb : bn s.toList = -1 := by unfold bn; simp only [h0, h1, h2, h3, h4, h5, h6, h7, h8, h9, if_false]
  have e0 : (s.toList == [119, 114, 105, 116, 101]) = false := by simpa using h0
  have e1 : (s.toList == [107, 101, 121]) = false := by simpa using h1
  have e2 : (s.toList == [114, 101, 115, 117, 109, 101]) = false := by simpa using h2
  have e3 : (s.toList == [114, 101, 97, 100]) = false := by simpa using h3
  have e4 : (s.toList == [112, 99, 97, 108, 108]) = false := by simpa using h4
  have e5 : (s.toList == [101, 114, 114, 111, 114]) = false := by simpa using h5
  have e6 : (s.toList == [116, 121, 112, 101]) = false := by simpa using h6
  have e7 : (s.toList == [99, 114, 101, 97, 116, 101]) = false := by simpa using h7
  have e8 : (s.toList == [121, 105, 101, 108, 100]) = false := by simpa using h8
  have e9 : (s.toList == [115, 116, 97, 116, 117, 115]) = false := by simpa using h9
  rw [hb]
  clear h0 h1 h2 h3 h4 h5 h6 h7 h8 h9 hb
  go_enter Tryz.func114, Tryz.ntmps114
  go_wp2
  go_ret
  exact ⟨rfl, Below.refl _ _⟩
end Go.Proofs.YtjchnliaglecoaaGreatDoor
