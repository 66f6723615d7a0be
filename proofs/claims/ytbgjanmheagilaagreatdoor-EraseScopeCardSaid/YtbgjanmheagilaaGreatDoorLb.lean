/- A part of the proof. Conditions: none. -/
import Derived.Lib.LaidTab
import Derived.Lib.AppendIntMem
import Derived.Test.YtbgjanmheagilaaGreatDoorZz
import Derived.Test.YtbgjanmheagilaaGreatDoorNqX
import Derived.Test.YtbgjanmheagilaaGreatDoorLfI
set_option linter.unusedVariables false
set_option linter.unusedSimpArgs false
set_option maxRecDepth 100000
set_option maxHeartbeats 8000000
namespace Go.Proofs.YtbgjanmheagilaaGreatDoor
open Go Go.RowKit
structure bu (w:World):Prop where
 pow : Lib.TabIs Tryz.prog w "internal/strconv.uint64pow10" .u64 Lib.pow10Tab
 asc : Lib.TabIs Tryz.prog w "strings.asciiSpace" .u8 Lib.asciiSpaceTab
 max:∃m,w.cell? ⟨0,0,none⟩=some (.int .i64 m)
theorem yI {w w':World} {name:String} {cs:Array Value} (h:w.var? Tryz.prog name=some cs) (hb:Below w.heap.size w w'):w'.var? Tryz.prog name=some cs:=by
 unfold World.var? at*;cases hg:Tryz.prog.globalNamed name with
 |none=>rw [hg] at h;cases h
 |some g=>
  rw [hg] at h;simp only [Option.bind_some] at h ⊢;have hlt:g<w.heap.size:=by
   rcases Nat.lt_or_ge g w.heap.size with h'|h'
   ·exact h'
   ·rw [Array.getElem?_eq_none h'] at h;cases h
  rw [hb.block g hlt];exact h
theorem bu.later {w w':World} (h:bu w) (hb:Below w.heap.size w w'):bu w':=
 ⟨yI h.pow hb,yI h.asc hb,let ⟨m,hm⟩:=h.max;⟨m,cell_later hb hm⟩⟩
def thrown:List PanicEntry:=[{v:=.iface 112 (.agg #[]),recovered:=false}]
theorem cO (w:World):Calls Tryz.prog 91 #[.bool true] w fun e w'=>e=.returned (.tuple #[])∧w'=w:=by
 go_enter Tryz.func91,Tryz.ntmps91;go_wp2;go_end0;exact⟨rfl,rfl⟩
theorem gB (w:World):Calls Tryz.prog 91 #[.bool false] w fun e w'=>e=.panicked thrown∧w'=w:=by
 go_enter Tryz.func91,Tryz.ntmps91;go_wp2;exact⟨rfl,rfl,rfl⟩
def bV (b:Bool):Ending:=if b then .returned (.tuple #[]) else .panicked thrown
theorem Sy (n:Int) (h0:-9223372036854775808≤n) (h1:n≤9223372036854775807) (w:World) (hl:bu w):
  Calls Tryz.prog 105 #[.int .i64 n,.int .i64 10] w fun e w'=>e=.returned (.string ⟨(Lib.itoa n).toArray⟩)∧Below w.heap.size w w':=
 (Tryz.strconv_FormatInt_10 n h0 h1 w hl.pow).mono fun e w' ⟨he,k,os,hw⟩=>⟨he,by rw [hw];exact Lib.below_grow _ _ (Nat.le_refl _) _ _⟩
theorem AE {fn:Func} {t u v x:Tmp} (h:fn.results=#[.tmp t,.tmp u,.tmp v,.tmp x]) (tmps:Array Value) (P:Program) (w:World):
  (results fn tmps).run P w=.ok (.tuple #[tmps.getD t undef,tmps.getD u undef,tmps.getD v undef,tmps.getD x undef]) w:=by
 simp [results,h]
theorem jF (n:Int) (h0:-9223372036854775808≤n) (h1:n≤9223372036854775807) (w:World) (hl:bu w):
  Calls Tryz.prog 127 #[.int .i64 n] w fun e w'=>e=.returned (.string ⟨(Lib.itoa n).toArray⟩)∧Below w.heap.size w w':=by
 go_enter Tryz.func127,Tryz.ntmps127;exact ND
theorem Jc (n:Int) (h0:-9223372036854775808≤n) (h1:n≤9223372036854775807) (w:World) (hl:bu w):
  Calls Tryz.prog 75 #[.int .i64 n] w fun e w'=>e=.returned (.string ⟨(Lib.itoa n).toArray⟩)∧Below w.heap.size w w':=by
 go_enter Tryz.func75,Tryz.ntmps75;exact ND
theorem Jv (k:Nat) (hk:k<37) (w:World):Calls Tryz.prog 156 #[.int .i64 (k:Int)] w fun e w'=>e=.returned (.string ⟨(EF k).toArray⟩)∧Below w.heap.size w w':=zO ID k hk w
theorem Fz:((List.range 37).all fun k=>Nat.beq k 0||letters.all fun c=>decide (decide (0≤Lib.indexByte (EF k) c.toUInt8)=iX k c))=true:=by decide+kernel
theorem Cw (k c:Nat) (h0:0<k) (hk:k<37) (hc:c∈letters) (w:World):Calls Tryz.prog 122 #[.int .i64 (k:Int),.int .i32 (c:Int)] w fun e w'=>e=.returned (.bool (iX k c))∧Below w.heap.size w w':=by
 have h1:=List.all_eq_true.1 Fz k (List.mem_range.2 hk);rw [show Nat.beq k 0=false by cases e:Nat.beq k 0 with
  |true=>have:=Nat.eq_of_beq_eq_true e;omega
  |false=>rfl] at h1
 simp only [Bool.false_or] at h1;have h2:=of_decide_eq_true (List.all_eq_true.1 h1 c hc);have hc2:c<128:=by
  have:letters.all (fun c=>decide (c<128))=true:=ay;exact of_decide_eq_true (List.all_eq_true.1 this c hc)
 have H2:=hid h2;clear h1 h2 hc;go_enter Tryz.func122,Tryz.ntmps122;go_wp2_with (first
  |(go_at_call 156;refine(Jv k hk _).mono ?_;rintro e w' ⟨rfl,hb⟩;obtain⟨g1,rfl⟩:=aA hb;clear hb)
  |(go_at_call 155;refine(Tryz.strings_ContainsRune_ascii _ _ _ aa aa).mono ?_;rintro e w' ⟨rfl,rfl⟩))
 go_ret;refine⟨?_,bG (Below.refl _ _) _⟩;rw [←H2.out];simp
theorem N4 (k c:Nat) (h0:0<k) (hk:k<37) (hc:c∈letters) (w:World):Calls Tryz.prog 69 #[.int .i64 (k:Int),.int .u8 (c:Int)] w fun e w'=>e=.returned (.bool (iX k c))∧Below w.heap.size w w':=by
 have h1:=List.all_eq_true.1 aax k (List.mem_range.2 hk);rw [show Nat.beq k 0=false by cases e:Nat.beq k 0 with
  |true=>have:=Nat.eq_of_beq_eq_true e;omega
  |false=>rfl] at h1
 simp only [Bool.false_or] at h1;exact iN (List.all_eq_true.1 h1 c hc) w
theorem Jw (w:World):Calls Tryz.prog 54 #[] w fun e w'=>e=.returned uW∧Below w.heap.size w w':=iN IE w
theorem C4 (k:Nat) (hk:k<37) (w:World):Calls Tryz.prog 68 #[.int .i64 (k:Int)] w fun e w'=>e=.returned (EG k)∧Below w.heap.size w w':=zO IG k hk w
theorem Jy (k:Int) (hk:k<0∨36<k) (w:World):Calls Tryz.prog 68 #[.int .i64 k] w fun e w'=>e=.returned (.tuple #[str [],str [],str [],.bool false])∧Below w.heap.size w w':=by
 rcases hk with hk|hk
 all_goals
  go_enter Tryz.func68,Tryz.ntmps68;go_wp2;refine bodyPost_ret (AE rfl _ _ _) rfl ?_;exact⟨rfl,Below.refl _ _⟩
end Go.Proofs.YtbgjanmheagilaaGreatDoor