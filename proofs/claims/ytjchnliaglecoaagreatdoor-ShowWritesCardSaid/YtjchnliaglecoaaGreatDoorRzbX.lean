/- A part of the proof. Conditions: none. -/
import Derived.Test.YtjchnliaglecoaaGreatDoorZz
import Derived.Test.YtjchnliaglecoaaGreatDoorRxX
import Derived.Test.YtjchnliaglecoaaGreatDoorDv
set_option linter.unusedVariables false
set_option linter.unusedSimpArgs false
set_option maxRecDepth 100000
set_option maxHeartbeats 8000000
namespace Go.Proofs.YtjchnliaglecoaaGreatDoor
open Go Go.RowKit Go.Nodes
section
variable {p:Option Addr} {c:Nat} {ns:List Nd} {W:World} (ht:Tr ns) (hN:aA W p ns) {E:Int→Nat→ByteArray} {K:Int→ByteArray} {S:Int→Nat→ByteArray} {N:Nat} (aJ:N≤ns.length) (hK:RK p c ns W K N) (hS:RS p c ns W S N)
include ht hN aJ hK
theorem rD (k:Int) (W':World) (hb:Below W.heap.size W W') (h0:0≤k) (h1:k<N) (hsz:(bO ns K k).size≤1000000000):
  Calls Tryz.prog 149 #[.slice p ns.length c,.int .i64 k] W' fun e w'=>e=.returned (.string (bO ns K k))∧Below W'.heap.size W' w':=by
 have zq:=ht;clear zq;have zq:=hN;clear zq;have zq:=aJ;clear zq;have zq:=hK;clear zq
 have Pr:=trivial;exact K9
omit hK in
include hS in
theorem mg (k:Int) (d:Nat) (W':World) (hb:Below W.heap.size W W') (h0:0≤k) (h1:k≤N) (h2:k<ns.length) (hd:(d:Int)+k≤2000) (hsz:(aL ns S k d).size≤1000000000):
  Calls Tryz.prog 49 #[.slice p ns.length c,.int .i64 k,.int .i64 (d:Int)] W' fun e w'=>e=.returned (.string (aL ns S k d))∧Below W'.heap.size W' w':=by
 have zq:=ht;clear zq;have zq:=hN;clear zq;have zq:=aJ;clear zq;have zq:=hS;clear zq
 obtain⟨m,rfl⟩:∃m:Nat,k=m:=⟨k.toNat,by omega⟩;have hm:m<ns.length:=aa;obtain⟨b,o,hp,hlt,c0,c1,c2,c3⟩:=bL hN hb hm;have hl:(m:Int)<(ns.length:Int):=aa;have hka:bp ns (m:Int)=ns[m].kids:=iH KZ;have aT:=(ht.few.2 ns[m] (List.getElem_mem hm)).1;have Lb:(ns[m].kids.length:Int)≤10000:=aa;have hq:∀i,i<ns[m].kids.length→0≤ns[m].kids.getD i 0∧ns[m].kids.getD i 0<m:=fun i hi=>cE ht (List.getElem?_eq_getElem hm) hi
 have jC:∀i (hi:i<ns[m].kids.length),∃b o,ns[m].kp=some ⟨b,o,none⟩∧b<W'.heap.size∧W'.cell? ⟨b,o+i,none⟩=some (.int .i64 (ns[m].kids.getD i 0)):=fun i hi=>cC hN hb hm hi
 unfold aL at hsz ⊢;rw [hka] at hsz ⊢;have iC:∀i,i≤ns[m].kids.length→(bt (fun i=>eM S (ns[m].kids.getD i 0) d) i).size≤1000000000:=fun i hi=>Nat.le_trans (tB _ i _ hi) hsz
 have hC:∀i,i<ns[m].kids.length→∀w,Below W.heap.size W w→Calls Tryz.prog 97 #[.slice p ns.length c,.int .i64 (ns[m].kids.getD i 0),.int .i64 (d:Int)] w fun e w'=>e=.returned (.string (S (ns[m].kids.getD i 0) d))∧Below w.heap.size w w':=fun i hi w hb2=>by
  refine hS _ d w hb2 (hq i hi).1 uF uF ?_;have:=iC (i+1) hi;unfold bt eM at this;simp only [ByteArray.size_append] at this;omega
 have iM:d≤100000:=aa;have HC:=hid hC;have HK:=hid jC;have HZ:=hid iC;have HB:=hid hb;have HP:=hid (fun w=>FW d iM w);subst hp;clear hC jC iC hb hS hN ht hq aT hka hsz c0 c1 c3 aJ h1 h2;generalize ns[m]=x at*;obtain⟨xk,xt,xp,xc,aK,aP⟩:=x;simp only at c2 HC HK HZ Lb ⊢;clear hm;generalize ns.length=L at*;go_enter Tryz.func49,Tryz.ntmps49;go_wp2;go_loopw [7,16] (fun sv iv wr=>∃(i:Nat) (g:fk),i≤aK.length∧sv=.string (bt (fun i=>eM S (aK.getD i 0) d) i)∧iv=.int .i64 (i:Int)∧wr=grow W' g) (fun _ iv _=>aK.length - (intOf iv).toNat)
 case atStart=>obtain⟨g0,hg0⟩:=ay (Below.refl W'.heap.size W');exact⟨0,g0,Nat.zero_le _,rfl,rfl,hg0⟩
 case round=>
  obtain⟨i,g,hi,rfl,rfl,rfl⟩:=hrel;by_cases di:i<aK.length
  ·obtain⟨bk,ok,rfl,fu,hcell⟩:=HK.out i di;have h1:(i:Int)<(aK.length:Int):=aa;have hstep:bt (fun i=>eM S (aK.getD i 0) d) (i+1)=bt (fun i=>eM S (aK.getD i 0) d) i++(bP d++S (aK.getD i 0) d++(⟨#[10]⟩:ByteArray)):=rfl;have hz1:=HZ.out (i+1) di;have wm:=hid (HC.out i di);rw [hstep] at hz1;have sR:=hid hstep;clear hstep HC HK HZ;generalize bt (fun i=>eM S (aK.getD i 0) d) i=T at*;generalize aK.getD i 0=q at*;generalize S q d=s at*;generalize Au:bP d=pd at*;simp only [ByteArray.size_append] at hz1;have hz2:(⟨#[10]⟩:ByteArray).size=1:=rfl;rw [hz2] at hz1;clear Au;go_wp2_with (first
    |(go_at_call 96;(with_reducible refine(HP.out _).mono ?_);rintro e w' ⟨rfl,hw⟩;rw [hw];clear hw w')
    |(go_at_call 97;(with_reducible refine(wm.out _ (bG HB.out _)).mono ?_);rintro e w' ⟨rfl,hb1⟩;obtain⟨G,rfl⟩:=ay hb1;clear hb1))
   refine⟨⟨i+1,_,by omega, ?_,by go_num,rfl⟩,by simp [intOf];omega⟩;rw [sR.out]
  ·obtain rfl:i=aK.length:=by omega
   go_wp2;exact zb
omit aJ hK in
theorem tD {W':World} (hb:Below W.heap.size W W') {z:Nat} (hz:z<ns.length) (h1:0<ns[z].kids.length) {b o:Nat} (hp:p=some ⟨b,o,none⟩):∃(bz oz:Nat),W'.cell? ⟨b,o+z*4+1,none⟩=some (.string (eY ns (z:Int)))∧W'.cell? ⟨b,o+z*4+2,none⟩=some (.slice (some ⟨bz,oz,none⟩) ns[z].kids.length ns[z].aG)∧bz<W'.heap.size∧
  W'.cell? ⟨bz,oz,none⟩=some (.int .i64 ((bp ns (z:Int)).getD 0 0))∧0≤(bp ns (z:Int)).getD 0 0∧(bp ns (z:Int)).getD 0 0<z:=by
 have zq:=ht;clear zq;have zq:=hN;clear zq
 obtain⟨b',o',xX,hlt,c0,c1,c2,c3⟩:=bL hN hb hz;rw [hp] at xX;cases xX;obtain⟨bz,oz,fO,bQ,ck⟩:=cC hN hb hz h1;have hka:bp ns (z:Int)=ns[z].kids:=iH (by rw [Int.toNat_natCast];exact List.getElem?_eq_getElem hz);have hq:=cE ht (List.getElem?_eq_getElem hz) h1;rw [hka];refine⟨bz,oz, ?_,by rw [c2,fO],bQ,ck,hq.1,hq.2⟩;rw [c1,eY,Int.toNat_natCast,List.getElem?_eq_getElem hz]
include hK hS in
theorem BW (m d:Nat) (W':World) (hb:Below W.heap.size W W') (bR:m≤N) (hm:m<ns.length) (hd:(d:Int)+m≤2000) (hk:ns[m].kind=22) (hsz:(fG ns K S ns[m] d).size≤1000000000):
  Calls Tryz.prog 151 #[.slice p ns.length c,.int .i64 (m:Int),.int .i64 (d:Int)] W' fun e w'=>e=.returned (.string (fG ns K S ns[m] d))∧Below W'.heap.size W' w':=by
 have zq:=ht;clear zq;have zq:=hN;clear zq;have zq:=aJ;clear zq;have zq:=hK;clear zq;have zq:=hS;clear zq
 obtain⟨b,o,hp,hlt,c0,c1,c2,c3⟩:=bL hN hb hm;have hl:(m:Int)<(ns.length:Int):=aa;have hv:=ht.all m ns[m] hm (List.getElem?_eq_getElem hm);have bK:=bM hv;rw [hk] at bK;have hk2:2≤ns[m].kids.length:=bK;have hf:=hv.fits;rw [hk] at hf;have aT:=(ht.few.2 ns[m] (List.getElem_mem hm)).1;have aX:=ht.cap ns[m] (List.getElem_mem hm);have hq:∀i,i<ns[m].kids.length→0≤ns[m].kids.getD i 0∧ns[m].kids.getD i 0<m:=fun i hi=>cE ht (List.getElem?_eq_getElem hm) hi
 have jC:∀i (hi:i<ns[m].kids.length),∃b o,ns[m].kp=some ⟨b,o,none⟩∧b<W'.heap.size∧W'.cell? ⟨b,o+i,none⟩=some (.int .i64 (ns[m].kids.getD i 0)):=fun i hi=>cC hN hb hm hi
 obtain⟨n2,yZ⟩:∃n2,ns[m].kids.length=n2+2:=⟨ns[m].kids.length - 2,by omega⟩;have hX:fG ns K S ns[m] d=(⟨#[40]⟩:ByteArray)++jt ⟨#[44,32]⟩ (fun i=>eC ns K (ns[m].kids.getD i 0)) n2++(⟨#[41]⟩:ByteArray)++bO ns K (ns[m].kids.getD n2 0)++(⟨#[10]⟩:ByteArray)
  ++aL ns S (ns[m].kids.getD (n2+1) 0) (d+1)++bP d++(⟨#[101,110,100]⟩:ByteArray):=by
  unfold fG;rw [yZ];rfl
 rw [hX] at hsz ⊢;have iC:∀i,i≤n2→(jt ⟨#[44,32]⟩ (fun i=>eC ns K (ns[m].kids.getD i 0)) i).size≤1000000000:=fun i hi=>by
  have h1:=jo ⟨#[44,32]⟩ (fun i=>eC ns K (ns[m].kids.getD i 0)) i _ hi;simp only [ByteArray.size_append] at hsz;omega
 have hpm:∀i,i<n2→∃(z bz oz zl zc:Nat) (kz:Int),ns[m].kids.getD i 0=(z:Int)∧(z:Int)<(ns.length:Int)∧W'.cell? ⟨b,o+z*4+1,none⟩=some (.string (eY ns (z:Int)))∧W'.cell? ⟨b,o+z*4+2,none⟩=some (.slice (some ⟨bz,oz,none⟩) zl zc)∧(0:Int)<(zl:Int)∧bz<W'.heap.size∧
   W'.cell? ⟨bz,oz,none⟩=some (.int .i64 kz)∧eC ns K (ns[m].kids.getD i 0)=eY ns (z:Int)++bO ns K kz∧(∀w,Below W.heap.size W w→Calls Tryz.prog 149 #[.slice p ns.length c,.int .i64 kz] w fun e w'=>e=.returned (.string (bO ns K kz))∧Below w.heap.size w w'):=fun i hi=>by
  have lq:i<ns[m].kids.length:=aa;obtain⟨h0,h1⟩:=hq i lq;have AO:=kr (c:=80) (f:=[116,98]) hf ai ai (i:=i) (by show i<ns[m].kids.length - 2;omega);obtain⟨z,hz⟩:∃z:Nat,ns[m].kids.getD i 0=z:=⟨(ns[m].kids.getD i 0).toNat,by omega⟩;rw [hz] at AO h0 h1;have hzl:z<ns.length:=aa;have h23:ns[z].kind.toNat=23:=FU;have Ec:=bM (ht.all z ns[z] hzl (List.getElem?_eq_getElem hzl));rw [h23] at Ec;obtain⟨bz,oz,d1,d2,d3,d4,d5,d6⟩:=tD ht hN hb hzl Ec hp;have IA:eC ns K (ns[m].kids.getD i 0)=eY ns (z:Int)++bO ns K ((bp ns (z:Int)).getD 0 0):=by rw [hz];rfl
  refine⟨z,bz,oz,_,_,_,hz,by omega,d1,d2,by have:1≤ns[z].kids.length:=Ec;omega,d3,d4,IA,fun w hb2=>?_⟩;refine rD ht hN aJ hK _ w hb2 d5 aa ?_;have:=iC (i+1) hi;unfold jt at this;rw [IA] at this;split at this<;>simp only [ByteArray.size_append] at this<;>omega
 have FV:=hq n2 aa;have hqb:=hq (n2+1) aa;obtain⟨bk,ok,fO,fu,uD⟩:=jC n2 aa;obtain⟨bk',ok',qb,BM,ckb⟩:=jC (n2+1) aa;rw [fO] at qb;cases qb;have iz:∀i,i<n2→W'.cell? ⟨bk,ok+i,none⟩=some (.int .i64 (ns[m].kids.getD i 0)):=fun i hi=>by
  exact EA
 have aj:=hsz;simp only [ByteArray.size_append] at aj;have QT:=hid (fun w hb2=>rD ht hN aJ hK (ns[m].kids.getD n2 0) w hb2 FV.1 aa aa);have hCb:=hid (fun w hb2=>mg ht hN aJ hS (ns[m].kids.getD (n2+1) 0) (d+1) w hb2 hqb.1 aa aa aa aa);have iM:d≤100000:=aa;have HP:=hid (fun w=>FW d iM w);have HZ:=hid iC;have HM:=hid hpm;have mh:=hid iz;have HB:=hid hb;have akO:(n2:Int)≤10000:=aa;have hd3:(d:Int)≤2000:=aa;obtain⟨kc,mj⟩:∃kc,ns[m].aG=kc:=⟨_,rfl⟩;have A7:(n2:Int)+2≤(kc:Int):=aa;rw [fO,yZ,mj] at c2;clear iC hpm hb hS hK hN ht hq hf aT hv bK hk2 jC iz hsz c0 c1 c3 aJ hX FV hqb aX mj fO yZ hk;generalize bO ns K (ns[m].kids.getD n2 0)=t1 at*;generalize aL ns S (ns[m].kids.getD (n2+1) 0) (d+1)=t2 at*;generalize ns[m].kids.getD n2 0=ka at*;generalize ns[m].kids.getD (n2+1) 0=kb at*;generalize bP d=pd at*;generalize ns[m].kids=aK at*;have KQ:¬(kc:Int)=0:=aa;have KR:¬kc=0:=aa;have Bg:((d+1:Nat):Int)=(d:Int)+1:=aa;rw [Bg] at hCb;clear Bg hm;subst hp;generalize ns.length=L at*;go_enter Tryz.func151,Tryz.ntmps151;go_wp2;go_loopw [8,22] (fun sv iv wr=>∃(i:Nat) (g:fk),i≤n2∧sv=.string ((⟨#[40]⟩:ByteArray)++jt ⟨#[44,32]⟩ (fun i=>eC ns K (aK.getD i 0)) i)∧iv=.int .i64 (i:Int)∧wr=grow W' g) (fun _ iv _=>n2 - (intOf iv).toNat)
 case atStart=>obtain⟨g0,hg0⟩:=ay (Below.refl W'.heap.size W');exact⟨0,g0,Nat.zero_le _,rfl,rfl,hg0⟩
 case round=>
  obtain⟨i,g,hi,rfl,rfl,rfl⟩:=hrel;by_cases di:i<n2
  ·obtain⟨z,bz,oz,zl,zc,kz,hz,ZU,d1,d2,d3,d4,d5,IA,hCz⟩:=HM.out i di;have hcell:=mh.out i di;have h1:(i:Int)<(n2:Int):=aa;have hstep:jt ⟨#[44,32]⟩ (fun i=>eC ns K (aK.getD i 0)) (i+1)=(if 0<i then jt ⟨#[44,32]⟩ (fun i=>eC ns K (aK.getD i 0)) i++⟨#[44,32]⟩ else jt ⟨#[44,32]⟩ (fun i=>eC ns K (aK.getD i 0)) i)++eC ns K (aK.getD i 0):=rfl;have hz0:=HZ.out i hi;have hz1:=HZ.out (i+1) di;rw [hstep,IA] at hz1;rw [IA] at hstep;rw [hz] at hcell;have TB:=hid hCz;have sR:=hid hstep;clear hstep mh HZ HM IA hz hCz QT hCb HP aj;generalize jt ⟨#[44,32]⟩ (fun i=>eC ns K (aK.getD i 0)) i=T at*;generalize bO ns K kz=tz at*;generalize eY ns (z:Int)=zt at*;have hz2:(⟨#[44,32]⟩:ByteArray).size=2:=rfl;have hz3:(⟨#[40]⟩:ByteArray).size=1:=rfl;by_cases nR:0<i
   ·have Jc:(0:Int)<(i:Int):=by omega
    rw [if_pos nR] at hz1;simp only [ByteArray.size_append,hz2] at hz1;have hzA:¬9223372036854775807<zt.size+tz.size:=aa;have hzB:¬9223372036854775807<T.size+(zt.size+tz.size):=aa;have adw:¬9223372036854775807<T.size+2+(zt.size+tz.size):=aa;have hzI:(0:Int)<(zl:Int):=aa;have hzJ:0<zl:=aa;have hzK:¬zl=0:=aa;have hzC1:¬9223372036854775807<1+T.size+2+(zt.size+tz.size):=aa;have hzC2:¬9223372036854775807<1+T.size+(zt.size+tz.size):=aa;go_wp2;go_region_held3 (fun w'=>w'.cell? ⟨b,o+z*4+1,none⟩=some (.string zt)∧w'.cell? ⟨b,o+z*4+2,none⟩=some (.slice (some ⟨bz,oz,none⟩) zl zc)∧w'.cell? ⟨bz,oz,none⟩=some (.int .i64 kz)∧Below W.heap.size W w')
     ((go_split_ands;(try refine⟨?_, ?_, ?_, ?_⟩)<;>first|assumption|((repeat (first|exact HB.out|assumption|refine bN ?_ _|refine bD ?_|refine bG ?_ _|refine bI ?_ _ _|refine bA ?_ _));done)|(simp [go_sem];done)|(simp only [size_grow,World.size_alloc];omega)|(simp [go_sem, *];done)))
     (first|(go_at_call 149;go_split_ands;((with_reducible refine(TB.out _ eL).mono ?_));rintro e w' ⟨rfl,hb1⟩;obtain⟨G0,rfl⟩:=ay hb1;clear hb1))
    go_wp2
    all_goals
     refine⟨⟨i+1,_,by omega, ?_,by go_num,rfl⟩,by simp [intOf];omega⟩;rw [sR.out,if_pos nR];simp only [ByteArray.append_assoc]
   ·have Jc:(i:Int)≤0:=by omega
    rw [if_neg nR] at hz1;simp only [ByteArray.size_append] at hz1;have hzA:¬9223372036854775807<zt.size+tz.size:=aa;have hzB:¬9223372036854775807<T.size+(zt.size+tz.size):=aa;have adw:¬9223372036854775807<T.size+2+(zt.size+tz.size):=aa;have hzI:(0:Int)<(zl:Int):=aa;have hzJ:0<zl:=aa;have hzK:¬zl=0:=aa;have hzC1:¬9223372036854775807<1+T.size+2+(zt.size+tz.size):=aa;have hzC2:¬9223372036854775807<1+T.size+(zt.size+tz.size):=aa;go_wp2;go_region_held3 (fun w'=>w'.cell? ⟨b,o+z*4+1,none⟩=some (.string zt)∧w'.cell? ⟨b,o+z*4+2,none⟩=some (.slice (some ⟨bz,oz,none⟩) zl zc)∧w'.cell? ⟨bz,oz,none⟩=some (.int .i64 kz)∧Below W.heap.size W w')
     ((go_split_ands;(try refine⟨?_, ?_, ?_, ?_⟩)<;>first|assumption|((repeat (first|exact HB.out|assumption|refine bN ?_ _|refine bD ?_|refine bG ?_ _|refine bI ?_ _ _|refine bA ?_ _));done)|(simp [go_sem];done)|(simp only [size_grow,World.size_alloc];omega)|(simp [go_sem, *];done)))
     (first|(go_at_call 149;go_split_ands;((with_reducible refine(TB.out _ eL).mono ?_));rintro e w' ⟨rfl,hb1⟩;obtain⟨G0,rfl⟩:=ay hb1;clear hb1))
    go_wp2
    all_goals
     refine⟨⟨i+1,_,by omega, ?_,by go_num,rfl⟩,by simp [intOf];omega⟩;rw [sR.out,if_neg nR];simp only [ByteArray.append_assoc]
  ·obtain rfl:i=n2:=by omega
   have hz0:=HZ.out i (Nat.le_refl _);clear mh HZ HM;generalize hT:jt ⟨#[44,32]⟩ (fun i=>eC ns K (aK.getD i 0)) i=T at*;have HT:=hid hT;clear hT;have aoo:T.size+t1.size+t2.size+pd.size≤1000000000:=aa;clear aj;obtain⟨wz,cV⟩:∃wz,wz=grow W' g:=⟨_,rfl⟩;have ji:=hid (show Below W.heap.size W wz by rw [cV];exact bG HB.out g);have dh:=hid (show Below W'.heap.size W' wz by rw [cV];exact bG (Below.refl _ _) g);have cza:wz.cell? ⟨bk,ok+i,none⟩=some (.int .i64 ka):=by rw [cV,dP _ _ _ _ fu];exact uD
   have czb:wz.cell? ⟨bk,ok+(i+1),none⟩=some (.int .i64 kb):=by rw [cV,dP _ _ _ _ fu];exact ckb
   have bQ:bk<wz.heap.size:=by rw [cV,size_grow];omega
   rw [←cV];clear cV uD ckb fu BM;go_wp2;refine Am.eV (Φ:=Am.pJ [.string ((⟨#[40]⟩:ByteArray)++T),.string ((⟨#[40]⟩:ByteArray)++T++(⟨#[41]⟩:ByteArray)),.slice (some ⟨b,o,none⟩) L c,.slice (some ⟨bk,ok,none⟩) (i+2) kc,.slice (some ⟨bk,ok,none⟩) (i+2) kc,.int .i64 ((i:Int)+2),.int .i64 (i:Int),.pointer (some ⟨bk,ok+i,none⟩),.int .i64 ka,.string t1,.string ((⟨#[40]⟩:ByteArray)++T++(⟨#[41]⟩:ByteArray)++t1),.string ((⟨#[40]⟩:ByteArray)++T++(⟨#[41]⟩:ByteArray)++t1++(⟨#[10]⟩:ByteArray)),.slice (some ⟨b,o,none⟩) L c,.slice (some ⟨bk,ok,none⟩) (i+2) kc,.slice (some ⟨bk,ok,none⟩) (i+2) kc,.int .i64 ((i:Int)+2),.int .i64 ((i:Int)+1),.pointer (some ⟨bk,ok+(i+1),none⟩),.int .i64 kb,.int .i64 (d:Int),.int .i64 ((d:Int)+1),.string t2,.string ((⟨#[40]⟩:ByteArray)++T++(⟨#[41]⟩:ByteArray)++t1++(⟨#[10]⟩:ByteArray)++t2),.int .i64 (d:Int),.string pd,.string ((⟨#[40]⟩:ByteArray)++T++(⟨#[41]⟩:ByteArray)++t1++(⟨#[10]⟩:ByteArray)++t2++pd),.string ((⟨#[40]⟩:ByteArray)++T++(⟨#[41]⟩:ByteArray)++t1++(⟨#[10]⟩:ByteArray)++t2++pd++(⟨#[101,110,100]⟩:ByteArray)),.string ((⟨#[40]⟩:ByteArray)++T++(⟨#[41]⟩:ByteArray)++t1++(⟨#[10]⟩:ByteArray)++t2++pd++(⟨#[101,110,100]⟩:ByteArray))]) ah ah ah Am.cS ?_ ?_
   ·intro kq o ca w1 ho hb ag K hK;have hw6:IntKind.i64.wrap (i:Int)=i:=Am.nQ aa aa;have akP:IntKind.i64.wrap ((i:Int)+2 - 1)=(i:Int)+1:=by rw [Am.nQ aa aa];omega
    have ag6:IntKind.i64.wrap ((d:Int)+1)=(d:Int)+1:=Am.nQ aa aa;have Il:=ji.out.trans (hb.mono ji.out.size);have hka:=(hb.cell (p:=⟨bk,_,none⟩) bQ).trans cza;have hkb:=(hb.cell (p:=⟨bk,_,none⟩) bQ).trans czb;have hfn:∀f,ca.eval (.func f)=.func (.func f) #[] #[]:=fun _=>rfl
    have hcs:∀v,ca.eval (.const v)=v:=fun _=>rfl
    rcases kq with _|_|_|_|_|_|_|_|_|_|_|_|_|_|_|_|_|_|_|_|_|_|_|_|_|_|_|_|kq
    ·cases ho;have aW:=Am.lo 8 ag rfl;exact dF
    ·cases ho;have aW:=Am.lk 49 0 ag fun _=>rfl
     exact dF
    ·exact fB
    ·exact eW
    ·exact eW
    ·cases ho;have aW:=Am.lk 53 4 ag fun _=>rfl
     exact dF
    ·cases ho;have aW:=Am.lk 54 5 ag fun _=>rfl
     refine Am.rv rfl rfl (hK _ _ (Below.refl _ _) rfl) ?_;generalize ca.eval=ev at*;simp [go_sem,execOp,hfn,hcs,aW,hw6]<;>first|omega|(intro hz;omega)
    ·cases ho;have aW:=Am.lk 52 3 ag fun _=>rfl
     have mQ:=Am.lk 55 6 ag fun _=>rfl
     exact jc
    ·cases ho;have aW:=Am.lk 56 7 ag fun _=>rfl
     refine Am.rv rfl rfl (hK _ _ (Below.refl _ _) rfl) ?_;generalize ca.eval=ev at*;simp [go_sem,execOp,hfn,hcs,aW,hka]<;>first|omega|(intro hz;omega)
    ·cases ho;have aW:=Am.lk 51 2 ag fun _=>rfl
     have mQ:=Am.lk 57 8 ag fun _=>rfl
     refine Am.bh rfl rfl (Am.cH (w':=w1) (f:=149) (args:=#[.slice (some ⟨b,o,none⟩) L c,.int .i64 ka]) ?_ ((QT.out w1 Il).mono ?_))
     ·exact ZR
     ·exact oW
    ·cases ho;have aW:=Am.lk 50 1 ag fun _=>rfl
     have mQ:=Am.lk 58 9 ag fun _=>rfl
     exact jc
    ·cases ho;have aW:=Am.lk 59 10 ag fun _=>rfl
     exact dF
    ·exact fB
    ·exact eW
    ·exact eW
    ·cases ho;have aW:=Am.lk 63 14 ag fun _=>rfl
     exact dF
    ·cases ho;have aW:=Am.lk 64 15 ag fun _=>rfl
     refine Am.rv rfl rfl (hK _ _ (Below.refl _ _) rfl) ?_;generalize ca.eval=ev at*;simp [go_sem,execOp,hfn,hcs,aW,akP]<;>first|omega|(intro hz;omega)
    ·cases ho;have aW:=Am.lk 62 13 ag fun _=>rfl
     have mQ:=Am.lk 65 16 ag fun _=>rfl
     exact jc
    ·cases ho;have aW:=Am.lk 66 17 ag fun _=>rfl
     refine Am.rv rfl rfl (hK _ _ (Below.refl _ _) rfl) ?_;generalize ca.eval=ev at*;simp [go_sem,execOp,hfn,hcs,aW,hkb]<;>first|omega|(intro hz;omega)
    ·exact fC
    ·cases ho;have aW:=Am.lk 68 19 ag fun _=>rfl
     exact ZC
    ·cases ho;have aW:=Am.lk 61 12 ag fun _=>rfl
     have mQ:=Am.lk 67 18 ag fun _=>rfl
     have Jg:=Am.lk 69 20 ag fun _=>rfl
     refine Am.bh rfl rfl (Am.cH (w':=w1) (f:=49) (args:=#[.slice (some ⟨b,o,none⟩) L c,.int .i64 kb,.int .i64 ((d:Int)+1)]) ?_ ((hCb.out w1 Il).mono ?_))
     ·exact vB
     ·exact oW
    ·cases ho;have aW:=Am.lk 60 11 ag fun _=>rfl
     have mQ:=Am.lk 70 21 ag fun _=>rfl
     exact jc
    ·exact fC
    ·cases ho;have aW:=Am.lk 72 23 ag fun _=>rfl
     refine Am.bh rfl rfl (Am.cH (w':=w1) (f:=96) (args:=#[.int .i64 (d:Int)]) ?_ ((HP.out w1).mono ?_))
     ·exact vC
     ·exact NT
    ·cases ho;have aW:=Am.lk 71 22 ag fun _=>rfl
     have mQ:=Am.lk 73 24 ag fun _=>rfl
     exact jc
    ·cases ho;have aW:=Am.lk 74 25 ag fun _=>rfl
     exact dF
    ·cases ho;have aW:=Am.lk 75 26 ag fun _=>rfl
     exact dF
    ·simp at ho
   ·intro ca w1 hb hd hs bV cQ;have h6:ca.tmps.getD 6 undef=.string ((⟨#[40]⟩:ByteArray)++T++(⟨#[41]⟩:ByteArray)++t1++(⟨#[10]⟩:ByteArray)++t2++pd++(⟨#[101,110,100]⟩:ByteArray)):=bV 27 _ 6 rfl rfl;have dV:=Am.dy hd hs cQ;simp only [List.foldl_cons,List.foldl_nil,h6] at dV;obtain⟨yf,pW⟩:∃y:Nat→Value,∀t,ca.tmps.getD t undef=y t:=⟨_,fun _=>rfl⟩;simp only [pW] at dV;clear pW;subst dV;simp only [List.setIfInBounds_toArray,List.set_cons_succ,List.set_cons_zero];clear hd hs bV cQ h6;have HBo:=hid (dh.out.trans (hb.mono dh.out.size));clear hb;go_wp2;go_ret;exact⟨by rw [HT.out];rfl,HBo.out⟩
end
end Go.Proofs.YtjchnliaglecoaaGreatDoor
/- A part of the proof. Conditions: none. -/
set_option maxRecDepth 100000
set_option maxHeartbeats 8000000
namespace Go.Proofs.YtjchnliaglecoaaGreatDoor
open Go Go.RowKit Go.Nodes
theorem pO (k:Int) (t:List UInt8):1≤aH k t∧aH k t≤8:=by
 unfold aH
 repeat' split
 all_goals decide
section
variable {p:Option Addr} {c:Nat} {ns:List Nd} {W:World} (ht:Tr ns) (hN:aA W p ns) {E:Int→Nat→ByteArray} {K:Int→ByteArray} {S:Int→Nat→ByteArray} {N:Nat} (aJ:N≤ns.length) (hE:RE p c ns W E N) (hK:RK p c ns W K N) (hS:RS p c ns W S N)
include ht hN aJ hE
include hK hS in
theorem Lj (m d:Nat) (W':World) (hb:Below W.heap.size W W') (bR:m≤N) (hm:m<ns.length) (hd:(d:Int)+m≤2000) (hk:ns[m].kind=22) (hsz:(aF ns E K S ns[m] d).size≤1000000000):
  Calls Tryz.prog 150 #[.slice p ns.length c,.int .i64 (m:Int),.int .i64 (d:Int)] W' fun e w'=>e=.returned (.string (aF ns E K S ns[m] d))∧Below W'.heap.size W' w':=by
 have zq:=ht;clear zq;have zq:=hN;clear zq;have zq:=aJ;clear zq;have zq:=hE;clear zq;have zq:=hK;clear zq;have zq:=hS;clear zq
 obtain⟨b,o,hp,hlt,c0,c1,c2,c3⟩:=bL hN hb hm;have hv:=ht.all m ns[m] hm (List.getElem?_eq_getElem hm);have bK:=bM hv;rw [hk] at bK;have aT:=ht.few.2 ns[m] (List.getElem_mem hm);have aX:=ht.cap ns[m] (List.getElem_mem hm);have hl:(m:Int)<(ns.length:Int):=aa;obtain⟨R,hR⟩:∃R,R=aF ns E K S ns[m] d:=⟨_,rfl⟩;rw [←hR] at hsz ⊢;have hX:R=(⟨#[102,117,110,99,116,105,111,110]⟩:ByteArray)++fG ns K S ns[m] d:=eT;have iY:ns[m].text.size≤4000:=aT.2;have aj:=hsz;rw [hX] at aj
 try simp only [ByteArray.size_append] at aj
 have dm:=hid (fun w hb2=>BW ht hN aJ hK hS m d w hb2 bR hm hd hk aa);generalize fG ns K S ns[m] d=s0 at*;have HX:=hid hX;have HB:=hid hb;clear hE hR hX hN ht hv aT aJ hsz bK hb aX hK hS;generalize ns[m]=x at*;obtain⟨xk,xt,xp,xc,aK,aP⟩:=x;simp only at c0 c1 c2 c3 hk iY HX dm;subst hk hp;generalize ns.length=L at*;generalize aK.length=xl at*;go_enter Tryz.func150,Tryz.ntmps150;go_wp2_with (first|(go_at_call 151;((with_reducible refine(dm.out _ rV).mono ?_));rintro e w' ⟨rfl,hb1⟩;obtain⟨G0,rfl⟩:=ay hb1;clear hb1));go_wp2
 all_goals (go_ret;exact⟨by rw [HX.out];rfl,fH⟩)
theorem Lp (m d:Nat) (W':World) (hb:Below W.heap.size W W') (bR:m≤N) (hm:m<ns.length) (hd:(d:Int)+m≤2000) (hk:ns[m].kind=27) (hsz:(aF ns E K S ns[m] d).size≤1000000000):
  Calls Tryz.prog 150 #[.slice p ns.length c,.int .i64 (m:Int),.int .i64 (d:Int)] W' fun e w'=>e=.returned (.string (aF ns E K S ns[m] d))∧Below W'.heap.size W' w':=by
 have zq:=ht;clear zq;have zq:=hN;clear zq;have zq:=aJ;clear zq;have zq:=hE;clear zq
 have UI:=trivial;exact Mh
theorem Ls (m d:Nat) (W':World) (hb:Below W.heap.size W W') (bR:m≤N) (hm:m<ns.length) (hd:(d:Int)+m≤2000) (hk:ns[m].kind=29) (hsz:(aF ns E K S ns[m] d).size≤1000000000):
  Calls Tryz.prog 150 #[.slice p ns.length c,.int .i64 (m:Int),.int .i64 (d:Int)] W' fun e w'=>e=.returned (.string (aF ns E K S ns[m] d))∧Below W'.heap.size W' w':=by
 have zq:=ht;clear zq;have zq:=hN;clear zq;have zq:=aJ;clear zq;have zq:=hE;clear zq
 have UJ:=trivial;exact Mh
theorem Lt (m d:Nat) (W':World) (hb:Below W.heap.size W W') (bR:m≤N) (hm:m<ns.length) (hd:(d:Int)+m≤2000) (hk:ns[m].kind=30) (hsz:(aF ns E K S ns[m] d).size≤1000000000):
  Calls Tryz.prog 150 #[.slice p ns.length c,.int .i64 (m:Int),.int .i64 (d:Int)] W' fun e w'=>e=.returned (.string (aF ns E K S ns[m] d))∧Below W'.heap.size W' w':=by
 have zq:=ht;clear zq;have zq:=hN;clear zq;have zq:=aJ;clear zq;have zq:=hE;clear zq
 have UK:=trivial;exact Mh
end
end Go.Proofs.YtjchnliaglecoaaGreatDoor