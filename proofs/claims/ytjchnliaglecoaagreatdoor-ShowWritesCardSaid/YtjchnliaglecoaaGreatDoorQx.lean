/- A part of the proof. Conditions: none. -/
import Derived.Laws.IdiomStrings
import Derived.Laws.AppendOwn
import Derived.Lib.AppendStr
import Derived.Lib.UnsafeStr
import Derived.Test.YtjchnliaglecoaaGreatDoorZz
import Derived.Test.YtjchnliaglecoaaGreatDoorQr
import Derived.Test.YtjchnliaglecoaaGreatDoorAmSX
set_option linter.unusedVariables false
set_option linter.unusedSimpArgs false
set_option maxRecDepth 100000
set_option maxHeartbeats 8000000
namespace Go.Proofs.YtjchnliaglecoaaGreatDoor
open Go Go.RowKit Go.Nodes
theorem Tryz.infoByte:(Tryz.prog.info? 5).map (fun i=>(i.zero,i.size,i.bytes))=some (some (.int .u8 0),1,1):=by kernel_rfl
theorem uA:∃i,Tryz.prog.info? 5=some i∧i.zero=some (.int .u8 0)∧i.size=1∧i.bytes=1:=by
 obtain⟨i,hi,h⟩:=Option.map_eq_some_iff.1 Tryz.infoByte;simp only [Prod.mk.injEq] at h;exact⟨i,hi,h.1,h.2.1,h.2.2⟩
def Own (W:World) (B:Nat) (v:Value) (s:ByteArray) (w:World):Prop:=w.ownsRow B 5 1 v s.size (Lib.strCells s)∧Below B W w∧B≤w.heap.size
theorem Own.alloc {W w:World} {B:Nat} {v:Value} {s:ByteArray} (h:Own W B v s w) (o:Obj):Own W B v s (w.alloc o):=
 ⟨h.1.alloc o,h.2.1.alloc h.2.2 o,Nat.le_trans h.2.2 ((Below.refl 0 w).alloc (Nat.zero_le _) o).size⟩
theorem kF (s t:ByteArray):Lib.strCells (s++t)=Lib.strCells s++Lib.strCells t:=by
 simp [Lib.strCells_eq,Lib.byteCells]
theorem yR (t:ByteArray):∀u∈Lib.strCells t,u.oneCell'=true:=by
 intro u hu;rw [Lib.strCells_eq] at hu;obtain⟨x,_,rfl⟩:=List.mem_map.1 hu;rfl
theorem yS (t:ByteArray):(Lib.strCells t).length=t.size:=by
 rw [Lib.strCells_eq,Lib.byteCells_length];simp
theorem xy {W w:World} {B g:Nat} {v:Value} {s t:ByteArray} (h:Own W B v s w) (hg:w.heap[g]?=some (.cells (Lib.strCells t).toArray 5 (0,0))) (hlen:s.size+t.size≤1000000000):
  ∃v' w',(Builtin.append_ #[75,75] 75 #[v,.slice (some ⟨g,0,none⟩) t.size t.size]).run Tryz.prog w=.ok v' w'∧Own W B v' (s++t) w':=by
 obtain⟨i,hi,hz,hsz,hby⟩:=uA;obtain⟨v',w',hr,h2,h3,_⟩:=run_append_own (P:=Tryz.prog) _ B 75 75 5 i (.int .u8 0) 1 1 Tryz.underlying75 hi hz hsz hby rfl ai v s.size (Lib.strCells s) h.1 ⟨g,0,none⟩ t.size t.size (Lib.strCells t) (by rw [yS];omega)
  (fun j u hu=>by
   have:(⟨g,0,none⟩:Addr).add j=⟨g,j,none⟩:=by unfold Addr.add;split<;>simp_all
   rw [this,Lib.cell_of_heap hg];simpa using hu) (yR t) uB aa h.2.2
 refine⟨v',w',hr, ?_,h.2.1.grown h3 h.2.2 (fun k hk=>(h.1.lt k hk).1),Nat.le_trans h.2.2 h3.size⟩;rw [kF,ByteArray.size_append];exact h2
theorem Rm {W w:World} {B:Nat} {v:Value} {s t:ByteArray} (h:Own W B v s w) (hlen:s.size+t.size≤1000000000):
  ∃v' w',(Builtin.append_ #[75,75] 75 #[v,.slice (some ⟨w.heap.size,0,none⟩) t.size t.size]).run Tryz.prog (w.alloc (.cells (Lib.strCells t).toArray 5))=.ok v' w'∧Own W B v' (s++t) w':=
 xy (h.alloc _) (heap_alloc_new w _) hlen
theorem Own.later {W w w':World} {B:Nat} {v:Value} {s:ByteArray} (h:Own W B v s w) (hb:Below w.heap.size w w'):Own W B v s w':=by
 refine⟨⟨h.1.1, ?_⟩,h.2.1.trans (hb.mono h.2.2),Nat.le_trans h.2.2 hb.size⟩;rcases h.1.2 with h1|⟨g,cap,cur,h1,h2,h3,h4⟩
 ·exact .inl h1
 ·exact Km
theorem yT {ops:Array Oper} {rest:List Oper} {o:Oper} {a:Act} {Q:Exit→Act→World→Prop} (hgd:o.guard=none) (s x:Operand)
  (ho:o.op=.call {callee:=.builtin .append,args:=#[s,x],argTypes:=#[75,75]}) (hty:o.type=75) {W w:World} {B g:Nat} {v:Value} {q t:ByteArray} (h:Own W B v q w) (hg:w.heap[g]?=some (.cells (Lib.strCells t).toArray 5 (0,0))) (hs:a.eval s=v) (hx:a.eval x=.slice (some ⟨g,0,none⟩) t.size t.size) (hlen:q.size+t.size≤1000000000)
  (hk:∀v' w',Own W B v' (q++t) w'→wpList Tryz.prog ops Q rest (a.put o.dst v') w'):wpList Tryz.prog ops Q (o::rest) a w:=by
 refine wpList_plain hgd fun K hK=>?_
 obtain⟨v',w',hr,h2⟩:=xy h hg hlen;exact Kn
theorem kG {ops:Array Oper} {rest:List Oper} {o:Oper} {a:Act} {Q:Exit→Act→World→Prop} (hgd:o.guard=none) (s x:Operand)
  (ho:o.op=.call {callee:=.builtin .append,args:=#[s,x],argTypes:=#[75,75]}) (hty:o.type=75) {W w:World} {B:Nat} {v:Value} {q t:ByteArray} (h:Own W B v q w) (hs:a.eval s=v) (hx:a.eval x=.slice (some ⟨w.heap.size,0,none⟩) t.size t.size) (hlen:q.size+t.size≤1000000000)
  (hk:∀v' w',Own W B v' (q++t) w'→wpList Tryz.prog ops Q rest (a.put o.dst v') w'):wpList Tryz.prog ops Q (o::rest) a (w.alloc (.cells (Lib.strCells t).toArray 5)):=by
 refine wpList_plain hgd fun K hK=>?_
 obtain⟨v',w',hr,h2⟩:=Rm h hlen;exact Kn
theorem A5 {ops:Array Oper} {rest:List Oper} {o:Oper} {a:Act} {Q:Exit→Act→World→Prop} (hgd:o.guard=none) (s x:Operand)
  (ho:o.op=.call {callee:=.builtin .append,args:=#[s,x],argTypes:=#[75,9]}) {W w:World} {B:Nat} {v:Value} {q t:ByteArray} (h:Own W B v q w) (hs:a.eval s=v) (hx:a.eval x=.string t) (hlen:q.size+t.size≤1000000000)
  (hk:∀v' w',Own W B v' (q++t) w'→wpList Tryz.prog ops Q rest (a.put o.dst v') w'):wpList Tryz.prog ops Q (o::rest) a w:=by
 obtain⟨i,hi,hz,hsz,hby⟩:=uA;refine Lib.wpList_append_own_string w hgd s x 75 9 ho B 5 i Tryz.underlying75 Tryz.underlying9 hi hz hsz hby v q.size (Lib.strCells q) hs h.1 t hx uB aa h.2.2 fun v' w' h2 h3 _=>hk v' w' ⟨?_,h.2.1.grown h3 h.2.2 (fun k hk=>(h.1.lt k hk).1),Nat.le_trans h.2.2 h3.size⟩
 rw [kF,ByteArray.size_append];exact h2
theorem Dm {W w:World} {B:Nat} {v:Value} {s:ByteArray} (h:Own W B v s w) (h0:s.size≠0):(convert 75 9 v).run Tryz.prog w=.ok (.string s) w:=by
 rcases h.1.2 with⟨rfl,h1⟩|⟨g,cap,cur,rfl,_⟩
 ·exact absurd h1 h0
 ·have:=run_convert_bytes_back (P:=Tryz.prog) w 75 9 5 ⟨g,0,none⟩ cap s.data.toList Tryz.underlying75 Tryz.underlying5 Tryz.underlying9 (fun j hj=>by
   refine h.1.cells (g:=g) rfl j _ ?_;rw [Lib.strCells_eq,Lib.byteCells,List.getElem?_map,List.getElem?_eq_getElem hj];rfl)
  have e:s.data.toList.length=s.size:=ak;rw [e] at this;rw [this]
theorem Fl (h:Nat) (hh:h<16):CP h=(⟨#[48,49,50,51,52,53,54,55,56,57,97,98,99,100,101,102]⟩:ByteArray)[h]'hh:=by
 have:∀k:Fin 16,CP k.val=(⟨#[48,49,50,51,52,53,54,55,56,57,97,98,99,100,101,102]⟩:ByteArray)[k.val]'k.isLt:=ai;exact this ⟨h,hh⟩
theorem Gz:((List.range 256).all fun b=>decide (bits .and .u8 (b:Int) 15=((b % 16:Nat):Int)))=true:=by decide+kernel
theorem afK (b:Nat) (h:b<256):bits .and .u8 (b:Int) 15=(b:Int) % 16:=by
 have:=List.all_eq_true.1 Gz b (List.mem_range.2 h);simpa using this
def Ko (ov:Value) (b q r:Nat) (x y:UInt8) (B:Nat):Nat→World→Value→Prop
 |0,w,v=>v=ov
 |1,w,v=>v=.int .u8 b
 |2,w,v=>v=.int .u8 q
 |3,w,v=>v=.int .u8 ((x).toNat:Int)
 |4,w,v=>v=.int .u8 b
 |5,w,v=>v=.int .u8 r
 |6,w,v=>v=.int .u8 ((y).toNat:Int)
 |_,w,v=>∃U:Nat,v=.slice (some ⟨U,0,none⟩) 4 4∧w.heap[U]?=some (.cells #[.int .u8 92,.int .u8 120,.int .u8 ((x).toNat:Int),.int .u8 ((y).toNat:Int)] 5 (0,0))∧B≤U
theorem uC {ov:Value} {b q r:Nat} {x y:UInt8} {B:Nat}:∀(k:Nat) (w w':World) (v:Value),Below w.heap.size w w'→Ko ov b q r x y B k w v→Ko ov b q r x y B k w' v:=by
 intro k w w' v hb h;unfold Ko at*;split at h<;>first|exact h|exact(fun⟨U,e,hh,hB⟩=>⟨U,e,(hb.block U (Array.getElem?_eq_some_iff.1 hh).1).trans hh,hB⟩) h
theorem GA (s:ByteArray) (w:World) (hs:s.size≤100000):
  Calls Tryz.prog 54 #[.string s] w fun e w'=>e=.returned (.string (iL s))∧Below w.heap.size w w':=by
 go_enter Tryz.func54,Tryz.ntmps54;go_wp2;go_loopw [3,9] (fun ov iv wr=>∃i:Nat,i≤s.size∧iv=.int .i64 i∧Own w w.heap.size ov (tY s i) wr) (fun _ iv _=>s.size - (intOf iv).toNat)
 case atStart=>
  refine⟨0,Nat.zero_le _,rfl, ?_⟩;rw [wV];refine⟨⟨rfl,.inr ⟨w.heap.size,1,#[.int .u8 34],rfl,Nat.le_refl _,heap_alloc_new w _,by decide,by unfold maxLen;omega,rfl,rfl⟩⟩,(Below.refl _ _).alloc (Nat.le_refl _) _,((Below.refl 0 w).alloc (Nat.zero_le _) _).size⟩
 case round=>
  obtain⟨i,hi,rfl,hO⟩:=hrel;have hp:=qE s i;by_cases hlt:i<s.size
  ·have i0:(0:Int)≤(i:Int):=by omega
   have i1:(i:Int)<(s.size:Int):=aa;have wX:=hid (wW s i hlt);obtain⟨b,sZ⟩:∃b,(s[i]).toNat=b:=⟨_,rfl⟩;have fE:b<256:=by rw [←sZ];exact(s[i]).toNat_lt
   have HO:=hid hO;clear hO;by_cases h10:b=10
   ·subst h10;have hq:=hid (Xz sZ);go_wp2_with (at_builtin;refine A5 rfl _ _ rfl HO.out rfl rfl (by have:(⟨#[92,110]⟩:ByteArray).size=2:=rfl;omega) ?_);exact Kq
   have Q9:((b:Int)==10)=false:=cr;by_cases h92:b=92
   ·subst h92;have hq:=hid (yB aa (.inr sZ));have hcb:s[i]=92:=UInt8.toNat_inj.1 (by simpa using sZ);clear h10 Q9;go_wp2_with (at_builtin;refine kG (t:=⟨#[92,92]⟩) rfl _ _ rfl rfl HO.out rfl rfl (by have:(⟨#[92,92]⟩:ByteArray).size=2:=rfl;omega) ?_);exact Kr
   have e92:((b:Int)==92)=false:=cr;by_cases h34:b=34
   ·subst h34;have hq:=hid (yB aa (.inl sZ));have hcb:s[i]=34:=UInt8.toNat_inj.1 (by simpa using sZ);clear h10 Q9 h92 e92;go_wp2_with (at_builtin;refine kG (t:=⟨#[92,34]⟩) rfl _ _ rfl rfl HO.out rfl rfl (by have:(⟨#[92,34]⟩:ByteArray).size=2:=rfl;omega) ?_);exact Kr
   have e34:((b:Int)==34)=false:=cr;by_cases hx:b<32∨126<b
   ·have hq:=hid (CQ (c:=s[i]) aa aa aa aa);obtain⟨q,A6⟩:∃q,b / 16=q:=⟨_,rfl⟩;obtain⟨r,hrr⟩:∃r,b % 16=r:=⟨_,rfl⟩;have q1:q<16:=aa;have q2:r<16:=aa;have hand:bits .and .u8 (b:Int) 15=(r:Int):=by rw [afK b fE];omega
    have hdiv:(b:Int) / 16=(q:Int):=aa;have Ks:(0:Int)≤(r:Int):=aa;have nh:(r:Int)<16:=aa;have XS:(0:Int)≤(q:Int):=aa;have QE:(q:Int)<16:=aa;rw [sZ,A6,hrr,Fl q q1,Fl r q2] at hq;rcases hx with hx|hx
    ·have hx1:(b:Int)<32:=by omega
     go_wp2;refine wp_region_any ah ?_;refine Am.eJ _ 9 rfl ah ?_;simp only [List.take_succ_cons,List.take_zero];refine Am.eJ _ 8 rfl ah ?_;simp only [List.take_succ_cons,List.take_zero];refine Am.cq (Φ:=Ko u3 b q r ((⟨#[48,49,50,51,52,53,54,55,56,57,97,98,99,100,101,102]⟩:ByteArray)[q]'q1) ((⟨#[48,49,50,51,52,53,54,55,56,57,97,98,99,100,101,102]⟩:ByteArray)[r]'q2) wr.heap.size) (w0:=wr) ah ah uC ?_ ?_ _ ((Below.refl _ _).drew)
     ·exact afL
     ·have Kt:=trivial;exact XT
    ·have hx1:¬(b:Int)<32:=by omega
     have hx2:(126:Int)<(b:Int):=aa;go_wp2;refine wp_region_any ah ?_;refine Am.eJ _ 9 rfl ah ?_;simp only [List.take_succ_cons,List.take_zero];refine Am.eJ _ 8 rfl ah ?_;simp only [List.take_succ_cons,List.take_zero];refine Am.cq (Φ:=Ko u3 b q r ((⟨#[48,49,50,51,52,53,54,55,56,57,97,98,99,100,101,102]⟩:ByteArray)[q]'q1) ((⟨#[48,49,50,51,52,53,54,55,56,57,97,98,99,100,101,102]⟩:ByteArray)[r]'q2) wr.heap.size) (w0:=wr) ah ah uC ?_ ?_ _ ((Below.refl _ _).drew)
     ·exact afL
     ·have Ku:=trivial;exact XT
   ·have hx1:¬(b:Int)<32:=by omega
    have hx2:¬(126:Int)<(b:Int):=aa;have hq:=hid (Fb (c:=s[i]) aa aa aa aa aa);subst sZ;go_wp2_with (at_builtin;refine kG (t:=⟨#[s[i]]⟩) rfl _ _ rfl rfl HO.out rfl rfl (by have:(⟨#[s[i]]⟩:ByteArray).size=1:=rfl;omega) ?_);exact Kq
  ·obtain rfl:i=s.size:=by omega
   have He:=hid (tZ s);have HO:=hid hO;clear hO;go_wp2_with (at_builtin;refine kG (t:=⟨#[34]⟩) rfl _ _ rfl rfl HO.out rfl rfl (by have:(⟨#[34]⟩:ByteArray).size=1:=rfl;omega) ?_);intro v' w' Rn;rw [He.out] at Rn;have hc:=Dm Rn (by unfold iL;simp [ByteArray.size]);have HB:=hid Rn.2.1;clear Rn;go_wp2;go_ret;exact⟨rfl,HB.out⟩
end Go.Proofs.YtjchnliaglecoaaGreatDoor