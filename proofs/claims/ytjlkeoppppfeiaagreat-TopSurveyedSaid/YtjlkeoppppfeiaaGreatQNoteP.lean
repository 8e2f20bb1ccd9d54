/- Lemmas. -/
import Derived.Test.YtjlkeoppppfeiaaGreatQAppS
import Derived.Test.YtjlkeoppppfeiaaGreatQCorn
import Derived.Test.YtjlkeoppppfeiaaGreatQValid
import Derived.Test.YtjlkeoppppfeiaaGreatQBase
import Derived.Test.YtjlkeoppppfeiaaGreatQReg7
import Derived.Test.YtjlkeoppppfeiaaGreatQOrdM
import Derived.Test.YtjlkeoppppfeiaaGreatQReg
import Derived.Test.YtjlkeoppppfeiaaGreatQLeaf
import Derived.Shelf.Slices.Empties
import Derived.Shelf.Strings.Search2
import Derived.Shelf.Strings.Prefix
import Derived.Shelf.Slices.SearchI
import Derived.Shelf.RegionOpen
import Derived.Lib.SmallJoins
import Derived.MakeChecks
import Derived.Stop.LaidErr
import Derived.Test.YtjlkeoppppfeiaaGreatRows
import Derived.Lib.ItoaLen
namespace Go.Proofs.YtjlkeoppppfeiaaGreat
open Go.RowKit Go.Shelf Go.Sort Go.Proofs
theorem aG (x lo hi:Int) (w:World) :
  Calls Tryz.prog 131 #[.int .i64 x,.int .i64 lo,.int .i64 hi] w fun e w'=>e = .returned (.bool (decide (lo≤x)&&decide (x≤hi)))∧w=w':=by
 by_cases h:lo≤x
 ·have e:(decide (lo≤x)&&decide (x≤hi))=decide (x≤hi):=by simp[h]
  rw[e];clear e;go_enter Tryz.func131,Tryz.ntmps131
  go_wp2
  go_ret
  exact⟨rfl,rfl⟩
 ·have e:(decide (lo≤x)&&decide (x≤hi))=false:=by simp[h]
  rw[e];clear e;go_enter Tryz.func131,Tryz.ntmps131
  go_wp2
  go_ret
  exact⟨rfl,rfl⟩
end Go.Proofs.YtjlkeoppppfeiaaGreat
namespace Go.Proofs.YtjlkeoppppfeiaaGreat
open Go.RowKit Go.Shelf Go.Sort Go.Lib Go.Proofs
def pJ:Go.Shelf.Ren:=⟨fun|219=>299|217=>304|225=>305|224=>306|267=>307|266=>308|314=>309|n=>n,fun|9=>9|3=>3|4=>4|5=>5|46=>280|146=>402|51=>335|n=>n,fun|1=>0|n=>n⟩
theorem xT:Go.Proofs.Lays.n219 Tryz.prog pJ:={
 mixed:=by kernel_rfl
 f217:=Tryz.func304.trans (congrArg some (by kernel_rfl))
 f219:=Tryz.func299.trans (congrArg some (by kernel_rfl))
 f224:=Tryz.func306.trans (congrArg some (by kernel_rfl))
 f225:=Tryz.func305.trans (congrArg some (by kernel_rfl))
 f266:=Tryz.func308.trans (congrArg some (by kernel_rfl))
 f267:=Tryz.func307.trans (congrArg some (by kernel_rfl))
 f314:=Tryz.func309.trans (congrArg some (by kernel_rfl))
 t3:=Tryz.underlying3
 a3:=Tryz.isAgg3
 z3:=Tryz.sizeOf3
 v3:=Tryz.zeroValue3
 t4:=Tryz.underlying4
 a4:=Tryz.isAgg4
 z4:=Tryz.sizeOf4
 v4:=Tryz.zeroValue4
 t5:=Tryz.underlying5
 a5:=Tryz.isAgg5
 z5:=Tryz.sizeOf5
 v5:=Tryz.zeroValue5
 t9:=Tryz.underlying9
 a9:=Tryz.isAgg9
 z9:=Tryz.sizeOf9
 v9:=Tryz.zeroValue9
 t46:=Tryz.underlying280
 a46:=Tryz.isAgg280
 z46:=Tryz.sizeOf280
 v46:=Tryz.zeroValue280
 t51:=Tryz.underlying335
 a51:=Tryz.isAgg335
 z51:=Tryz.sizeOf335
 v51:=Tryz.zeroValue335
 t146:=Tryz.underlying402
 a146:=Tryz.isAgg402
 z146:=Tryz.sizeOf402
 v146:=Tryz.zeroValue402
 g1:=by kernel_rfl }
theorem gC (s:ByteArray) (c:UInt8) (w:World) :
 Calls Tryz.prog 299 #[.string s,.string ⟨#[c]⟩] w fun e w'=>e = .returned (.int .i64 (Lib.indexByte s.data.toList c))∧w'=w:=Any.stringslite_Index_one xT s c w
def qJ:Go.Shelf.Ren:=⟨fun|99=>241|206=>287|n=>n,fun|9=>9|4=>4|3=>3|n=>n,fun|n=>n⟩
theorem aA5:Go.Proofs.Lays.n99 Tryz.prog qJ:={
 mixed:=by kernel_rfl
 f99:=Tryz.func241.trans (congrArg some (by kernel_rfl))
 f206:=Tryz.func287.trans (congrArg some (by kernel_rfl))
 t3:=Tryz.underlying3
 a3:=Tryz.isAgg3
 z3:=Tryz.sizeOf3
 v3:=Tryz.zeroValue3
 t4:=Tryz.underlying4
 a4:=Tryz.isAgg4
 z4:=Tryz.sizeOf4
 v4:=Tryz.zeroValue4
 t9:=Tryz.underlying9
 a9:=Tryz.isAgg9
 z9:=Tryz.sizeOf9
 v9:=Tryz.zeroValue9 }
theorem jA (s p:ByteArray) (w:World) :
 Calls Tryz.prog 241 #[.string s,.string p] w fun e w'=>e = .returned (.bool (Lib.hasPrefix s.data.toList p.data.toList))∧w'=w:=Any.strings_HasPrefix aA5 s p w
def mT:Go.Shelf.Ren:=⟨fun|25=>193|31=>249|32=>250|37=>126|n=>n,fun|22=>27|3=>3|4=>4|40=>280|0=>0|n=>n,fun|n=>n⟩
theorem lU:Go.Proofs.Lays2.n25 Tryz.prog mT:={
 mixed:=by kernel_rfl
 f25:=Tryz.func193.trans (congrArg some (by kernel_rfl))
 f31:=Tryz.func249.trans (congrArg some (by kernel_rfl))
 f32:=Tryz.func250.trans (congrArg some (by kernel_rfl))
 f37:=Tryz.func126.trans (congrArg some (by kernel_rfl))
 t0:=Tryz.underlying0
 a0:=Tryz.isAgg0
 z0:=Tryz.sizeOf0
 v0:=Tryz.zeroValue0
 t3:=Tryz.underlying3
 a3:=Tryz.isAgg3
 z3:=Tryz.sizeOf3
 v3:=Tryz.zeroValue3
 t4:=Tryz.underlying4
 a4:=Tryz.isAgg4
 z4:=Tryz.sizeOf4
 v4:=Tryz.zeroValue4
 t22:=Tryz.underlying27
 a22:=Tryz.isAgg27
 z22:=Tryz.sizeOf27
 v22:=Tryz.zeroValue27
 t40:=Tryz.underlying280
 a40:=Tryz.isAgg280
 z40:=Tryz.sizeOf280
 v40:=Tryz.zeroValue280 }
theorem fI (b off n c:Nat) (zs:List Int) (x:Int) (w:World) (hz:n≤zs.length) (hbig:n<4611686018427387904) (hc:∀j,j<zs.length→w.cell? ⟨b,off+j,none⟩=some (.int .i64 (zs.getD j 0))) (hs:(zs.take n).Pairwise (·≤·)) :
 Calls Tryz.prog 193 #[.slice (some ⟨b,off,none⟩) n c,.int .i64 x] w fun e w'=>e = .returned (.tuple #[.int .i64 ((zs.take n).countP (·<x):Nat),.bool ((zs.take n).contains x)])∧∃q,w'=w.drewN q:=Any.slices_BinarySearch_int lU b off n c zs x w hz hbig hc hs
theorem dV (a:Option Addr) (c:Nat) (x:Int) (w:World) :
 Calls Tryz.prog 193 #[.slice a 0 c,.int .i64 x] w fun e w'=>e = .returned (.tuple #[.int .i64 0,.bool false])∧w'=w:=Any.slices_BinarySearch_int_empty lU a c x w
end Go.Proofs.YtjlkeoppppfeiaaGreat
namespace Go.Proofs.YtjlkeoppppfeiaaGreat
open Go.RowKit Go.Shelf Go.Sort Go.Proofs
structure BkR where
 gs:List Int
 sh:Int
 lo:Int
 ra:Int
 an:Int
 io:Int
 st:Int
 ga:Int
 le:Int
def bkA (A:Option Addr) (c:Nat) (b:BkR):Value:=.agg #[.slice A b.gs.length c,.int .i64 b.sh,.int .i64 b.lo,.int .i64 b.ra,.int .i64 b.an,.int .i64 b.io,.int .i64 b.st,.int .i64 b.ga,.int .i64 b.le]
structure BkOK (b:BkR):Prop where
 n8:b.gs.length≤8
 sh1:1≤b.sh
 shl:b.sh<b.lo
 lo1:b.lo≤10000
 ra1:101≤b.ra
 ra2:b.ra≤1000
 an1:0≤b.an
 an2:b.an≤b.io
 io2:b.io≤1000
 st1:1≤b.st
 st2:b.st≤100
 ga1:0≤b.ga
 ga2:b.ga≤1000
 le1:1≤b.le
 le2:b.le≤10000
 rng:∀g∈b.gs,6≤g∧g≤2000
 inc:b.gs.Pairwise (· < ·)
theorem bk9 {b:BkR} {w:World} {g n c:Nat} {A:Option Addr} (h:BK w g 31 #[.slice A n c,.int .i64 b.sh,.int .i64 b.lo,.int .i64 b.ra,.int .i64 b.an,.int .i64 b.io,.int .i64 b.st,.int .i64 b.ga,.int .i64 b.le]) :
  w.cell? ⟨g,0,none⟩=some (.slice A n c)∧w.cell? ⟨g,1,none⟩=some (.int .i64 b.sh)∧w.cell? ⟨g,2,none⟩=some (.int .i64 b.lo)∧w.cell? ⟨g,3,none⟩=some (.int .i64 b.ra)∧w.cell? ⟨g,4,none⟩=some (.int .i64 b.an)∧w.cell? ⟨g,5,none⟩=some (.int .i64 b.io)∧w.cell? ⟨g,6,none⟩=some (.int .i64 b.st)∧w.cell? ⟨g,7,none⟩=some (.int .i64 b.ga)∧w.cell? ⟨g,8,none⟩=some (.int .i64 b.le):=by
 have c0:=h.cell 0;have c1:=h.cell 1;have c2:=h.cell 2;have c3:=h.cell 3;have c4:=h.cell 4;have c5:=h.cell 5;have c6:=h.cell 6;have c7:=h.cell 7;have c8:=h.cell 8;simp only[List.getElem?_toArray,List.getElem?_cons_zero,List.getElem?_cons_succ]at c0 c1 c2 c3 c4 c5 c6 c7 c8
 exact⟨c0,c1,c2,c3,c4,c5,c6,c7,c8⟩
theorem aU (x lo hi:Int) (w:World) :
 Calls Tryz.prog 131 #[.int .i64 x,.int .i64 lo,.int .i64 hi] w fun e w'=>e = .returned (.bool (inR x lo hi))∧w=w':=(aG x lo hi w).mono fun e w' ⟨h,k⟩=>⟨by rw[h];rfl,k⟩
theorem BkOK.step {b:BkR} (h:BkOK b) {k:Nat} (hk:k+1<b.gs.length):b.gs[k]<b.gs[k+1]:=List.pairwise_iff_getElem.1 h.inc k (k+1) (by omega) hk (by omega)
set_option maxRecDepth 100000 in
set_option maxHeartbeats 4000000 in
theorem rN (b:BkR) (hv:BkOK b) (A:Option Addr) (c:Nat) (w:World) (h:SL iC 1 w w.heap.size A b.gs.length b.gs) :
  Calls Tryz.prog 53 #[bkA A c b] w fun e w'=>e = .returned (.int .i64 0)∧Below w.heap.size w w':=by
 obtain⟨n,hn⟩ : ∃n,n=b.gs.length:=⟨_,rfl⟩
 obtain⟨w0,hw0⟩ : ∃w0,w0=w.alloc (.cells #[.slice A n c,.int .i64 b.sh,.int .i64 b.lo,.int .i64 b.ra,.int .i64 b.an,.int .i64 b.io,.int .i64 b.st,.int .i64 b.ga,.int .i64 b.le] 31):=⟨_,rfl⟩
 have hX:BK w0 w.heap.size 31 #[.slice A n c,.int .i64 b.sh,.int .i64 b.lo,.int .i64 b.ra,.int .i64 b.an,.int .i64 b.io,.int .i64 b.st,.int .i64 b.ga,.int .i64 b.le]:=by rw[hw0];exact BK.new w _ _
 have hB0:Below w.heap.size w w0:=by rw[hw0];exact(Below.refl _ w).alloc (Nat.le_refl _) _
 have hS:SL iC 1 w0 w.heap.size A n b.gs:=by rw[hn];exact h.below hB0
 have hv1:=hv.shl;have hv2:=hv.lo1;have hv3:=hv.sh1;have hw1:IntKind.i64.wrap (b.lo-1)=b.lo-1:=IntWalk.i64_in _ (by omega)
 have i1:inR b.sh 1 (b.lo-1)=true:=by simp[inR];omega
 have i2:inR b.ra 101 1000=true:=by have:=hv.ra1;have:=hv.ra2;simp[inR];omega
 have i3:inR b.an 0 b.io=true:=by have:=hv.an1;have:=hv.an2;simp[inR];omega
 have i4:inR b.st 1 100=true:=by have:=hv.st1;have:=hv.st2;simp[inR];omega
 have i5:inR b.ga 0 1000=true:=by have:=hv.ga1;have:=hv.ga2;simp[inR];omega
 have i6:inR b.le 1 10000=true:=by have:=hv.le1;have:=hv.le2;simp[inR];omega
 have hn8:n≤8:=by rw[hn];exact hv.n8
 have hio:=hv.io2;have d1:decide (8<(n:Int))=false:=by simp;omega
 have d2:decide (10000<b.lo)=false:=by simp;omega
 have d3:decide (1000<b.io)=false:=by simp;omega
 have HV:=Lib.hid hv;have HN:=Lib.hid hn;obtain⟨c0,c1,c2,c3,c4,c5,c6,c7,c8⟩:=bk9 hX;unfold bkA;rw[←hn];clear hv hn hv1 hv2 hv3 h;go_enter Tryz.func53,Tryz.ntmps53
 go_wp2_with fail
 rw[←hw0];clear hw0;go_wp2_with(go_at_call 131;refine(aU _ _ _ _).mono ?_;rintro e w' ⟨rfl,rfl⟩)
 clear i1 i2 i3 i4 i5 i6 d1 d2 d3 hw1 hio c1 c2 c3 c4 c5 c6 c7 c8;go_loopw [65] (fun i wr=>∃k:Nat,k≤n∧i = .int .i64 k∧wr=w0) (fun i _=>n-(intOf i).toNat)
 case atStart=>exact⟨0,Nat.zero_le _,rfl,rfl⟩
 case round=>
  obtain⟨k,hk,rfl,hwr⟩:=hrel;subst hwr;by_cases hlt:k<n
  ·have hkl:k<b.gs.length:=by rw[←HN.out];exact hlt
   obtain⟨ab,off,hA,hbB,ck⟩:=IS.at_ hS hkl;subst hA;have hin:inR b.gs[k] 6 2000=true:=by have:=HV.out.rng _ (List.getElem_mem hkl);simp[inR,this]
   have g1:(0:Int)≤(k:Int):=by omega
   have g2:(k:Int)<(n:Int):=by omega
   rcases k with _|k
   ·rw[Nat.add_zero]at ck
    have hgt:decide ((0:Int)<((0:Nat):Int))=false:=by decide
    go_wp2_with(go_at_call 131;refine(aU _ _ _ _).mono ?_;rintro e w' ⟨rfl,rfl⟩)
    go_roundw
    case rel=>exact⟨1,by omega,by go_num,trivial⟩
    case measure=>simp[intOf];omega
   ·have hst:=HV.out.step (k:=k) hkl
    obtain⟨ab',off',hA',-,cp⟩:=IS.at_ hS (k:=k) (by omega)
    injection hA' with hA'
    injection hA' with h1 h2
    subst h1;subst h2;have hle:decide (b.gs[k+1]≤b.gs[k])=false:=by simp;omega
    have hgt:decide ((0:Int)<((k+1:Nat):Int))=true:=by rw[decide_eq_true_eq];omega
    have hw2:IntKind.i64.wrap (((k+1:Nat):Int)-1)=(k:Int):=by rw[show ((k+1:Nat):Int)-1=(k:Int) by omega];exact IntWalk.i64_in _ (by omega)
    have g3:(0:Int)≤(k:Int):=by omega
    have g4:(k:Int)<(n:Int):=by omega
    have HLE:=Lib.hid hle;clear hst;go_wp2_with(go_at_call 131;refine(aU _ _ _ _).mono ?_;rintro e w' ⟨rfl,rfl⟩)
    go_roundw
    case rel=>exact⟨k+2,by omega,by go_num,trivial⟩
    case measure=>simp[intOf];omega
  ·obtain rfl:k=n:=by omega
   go_wp2_with fail
   go_ret
   exact⟨rfl,hB0⟩
def bB (b:BkR) (x:Int):Int:=(b.gs.countP (fun g=>decide (g≤x)):Nat)+1
theorem vE:∀(l:List Int) (x:Int),l.Pairwise (· < ·)→l.countP (fun g=>decide (g≤x))=l.countP (fun g=>decide (g<x))+(if l.contains x then 1 else 0)
 | [],x,_=>rfl
 |a::l,x,h=>by
  obtain⟨h1,h2⟩:=List.pairwise_cons.1 h;have ih:=vE l x h2;rw[List.countP_cons,List.countP_cons,ih,List.contains_cons];by_cases e:x=a
  ·subst e
   have h3:l.contains x=false:=by
    rw[Bool.eq_false_iff];intro hc;have:=h1 x (by simpa using hc)
    omega
   rw[h3];simp
  ·have e2:(x == a)=false:=by simpa using e
   rw[e2,Bool.false_or];by_cases h4:a<x
   ·have h5:a≤x:=by omega
    simp[h4,h5];omega
   ·have h5:¬a≤x:=by omega
    simp[h4,h5]
theorem aEM {k:Nat} (h:k≤8):IntKind.i64.wrap ((k:Int)+1)=(k:Int)+1:=IntWalk.i64_in _ (by omega)
theorem aEN {k:Nat} (h:k≤8):IntKind.i64.wrap ((k:Int)+1+1)=(k:Int)+1+1:=IntWalk.i64_in _ (by omega)
set_option maxRecDepth 100000 in
set_option maxHeartbeats 4000000 in
theorem eK (b:BkR) (hv:BkOK b) (A:Option Addr) (c:Nat) (x:Int) (w:World) (h:SL iC 1 w w.heap.size A b.gs.length b.gs) :
  Calls Tryz.prog 136 #[bkA A c b,.int .i64 x] w fun e w'=>e = .returned (.int .i64 (bB b x))∧Below w.heap.size w w':=by
 obtain⟨n,hn⟩ : ∃n,n=b.gs.length:=⟨_,rfl⟩
 obtain⟨w0,hw0⟩ : ∃w0,w0=w.alloc (.cells #[.slice A n c,.int .i64 b.sh,.int .i64 b.lo,.int .i64 b.ra,.int .i64 b.an,.int .i64 b.io,.int .i64 b.st,.int .i64 b.ga,.int .i64 b.le] 31):=⟨_,rfl⟩
 have hX:BK w0 w.heap.size 31 #[.slice A n c,.int .i64 b.sh,.int .i64 b.lo,.int .i64 b.ra,.int .i64 b.an,.int .i64 b.io,.int .i64 b.st,.int .i64 b.ga,.int .i64 b.le]:=by rw[hw0];exact BK.new w _ _
 have hB0:Below w.heap.size w w0:=by rw[hw0];exact(Below.refl _ w).alloc (Nat.le_refl _) _
 have hS:SL iC 1 w0 w.heap.size A n b.gs:=by rw[hn];exact h.below hB0
 have hn8:n≤8:=by rw[hn];exact hv.n8
 have hcl:=vE b.gs x hv.inc;have hpw:b.gs.Pairwise (·≤·):=hv.inc.imp (fun h=>Int.le_of_lt h)
 have HC:Calls Tryz.prog 193 #[.slice A n c,.int .i64 x] w0 fun e w'=>∃(k:Nat) (m:Bool),e = .returned (.tuple #[.int .i64 (k:Nat),.bool m])∧b.gs.countP (fun g=>decide (g≤x))=k+(if m then 1 else 0)∧k≤8∧Below w0.heap.size w0 w':=by
  rcases Nat.eq_zero_or_pos n with h0|h0
  ·subst h0
   refine(dV A c x w0).mono ?_
   rintro e w' ⟨rfl,rfl⟩;refine⟨0,false,rfl,?_,by omega,Below.refl _ _⟩
   rw[List.length_eq_zero_iff.1 hn.symm]
   rfl
  ·obtain⟨ab,off,rfl,-,-⟩:=IS.at_ hS (k:=0) (by omega)
   have ht:b.gs.take n=b.gs:=by rw[hn];exact List.take_length
   refine(fI ab off n c b.gs x w0 (by omega) (by omega) (fun j hj=>?_) (by rw[ht];exact hpw)).mono ?_
   ·obtain⟨ab',off',e,-,hc⟩:=IS.at_ hS hj
    injection e with e
    injection e with e1 e2
    subst e1;subst e2;rw[hc,List.getD_eq_getElem?_getD,List.getElem?_eq_getElem hj]
    rfl
   ·rintro e w' ⟨rfl,q,rfl⟩
    rw[ht];exact⟨_,_,rfl,hcl,Nat.le_trans List.countP_le_length (by omega),⟨rfl,rfl,rfl,Nat.le_refl _,fun _ _=>rfl⟩⟩
 have HH:=Lib.hid HC;have c0:=hX.cell 0;simp only[List.getElem?_toArray,List.getElem?_cons_zero]at c0
 unfold bkA bB;rw[←hn];clear hv hn h hcl HC hpw;go_enter Tryz.func136,Tryz.ntmps136
 go_wp2_with fail
 rw[←hw0];clear hw0;go_wp2_with(go_at_call 193;refine HH.out.mono ?_;rintro e w' ⟨k,m,rfl,hk,hk8,hb⟩;have hw1:=aEM hk8;have hw2:=aEN hk8;cases m)
 ·go_ret
  simp only[Bool.false_eq_true,if_false]at hk;exact⟨by rw[hk];rfl,hB0.trans (hb.mono hB0.size)⟩
 ·go_ret
  simp only[if_true]at hk;exact⟨by rw[hk];rfl,hB0.trans (hb.mono hB0.size)⟩
end Go.Proofs.YtjlkeoppppfeiaaGreat
namespace Go.Proofs.YtjlkeoppppfeiaaGreat
open Go.Lib
structure NoteR where
 k:Int
 tu:Int
 gr:Int
 lo:Int
 ch:Int
 ton:Int
 me:Int
 si:Int
 wa:Int
 ar:Int
def aDr (n:NoteR):Prop:=(n.tu = -1∨n.tu=1)∧(1≤n.gr∧n.gr≤9)∧(-1≤n.lo∧n.lo≤1)∧((n.ch=0∧n.ton=0)∨(n.ch = -1∧n.gr+1≤n.ton∧n.ton≤9)∨(n.ch=1∧1≤n.ton∧n.ton≤n.gr-1))
def mU (n:NoteR):Prop:=n.tu=0∧n.gr=0∧n.lo=0∧n.ch=0∧n.ton=0
instance (n:NoteR):Decidable (aDr n):=by unfold aDr;infer_instance
instance (n:NoteR):Decidable (mU n):=by unfold mU;infer_instance
def aR (n:NoteR):Bool:=
 if n.k=1 then decide (aDr n∧n.me=0∧n.si=0∧n.wa=0∧n.ar=0)
 else if n.k=2 then decide (mU n∧1≤n.me∧n.me≤9999∧n.si=0∧n.wa=0∧n.ar=0)
 else if n.k=3∨n.k=4 then decide (mU n∧n.me=0∧n.si=0∧n.wa=0∧n.ar=0)
 else if n.k=5∨n.k=6 then decide (mU n∧n.me=0∧1≤n.si∧n.si≤3∧n.wa=0∧n.ar=0)
 else if n.k=7 then decide (mU n∧n.me=0∧n.si=0∧2≤n.ar∧n.ar≤6∧1≤n.wa∧n.wa≤n.ar)
 else false
section
variable (tu gr lo ch ton me si wa ar:Int)
theorem cZ:aR ⟨1,tu,gr,lo,ch,ton,me,si,wa,ar⟩=true↔((tu = -1∨tu=1)∧(1≤gr∧gr≤9)∧(-1≤lo∧lo≤1)∧((ch=0∧ton=0)∨(ch = -1∧gr+1≤ton∧ton≤9)∨(ch=1∧1≤ton∧ton≤gr-1)))∧me=0∧si=0∧wa=0∧ar=0:=decide_eq_true_iff
theorem rO:aR ⟨2,tu,gr,lo,ch,ton,me,si,wa,ar⟩=true↔(tu=0∧gr=0∧lo=0∧ch=0∧ton=0)∧1≤me∧me≤9999∧si=0∧wa=0∧ar=0:=decide_eq_true_iff
theorem aDR:aR ⟨3,tu,gr,lo,ch,ton,me,si,wa,ar⟩=true↔(tu=0∧gr=0∧lo=0∧ch=0∧ton=0)∧me=0∧si=0∧wa=0∧ar=0:=decide_eq_true_iff
theorem aDS:aR ⟨4,tu,gr,lo,ch,ton,me,si,wa,ar⟩=true↔(tu=0∧gr=0∧lo=0∧ch=0∧ton=0)∧me=0∧si=0∧wa=0∧ar=0:=decide_eq_true_iff
theorem aB9:aR ⟨5,tu,gr,lo,ch,ton,me,si,wa,ar⟩=true↔(tu=0∧gr=0∧lo=0∧ch=0∧ton=0)∧me=0∧1≤si∧si≤3∧wa=0∧ar=0:=decide_eq_true_iff
theorem aBa:aR ⟨6,tu,gr,lo,ch,ton,me,si,wa,ar⟩=true↔(tu=0∧gr=0∧lo=0∧ch=0∧ton=0)∧me=0∧1≤si∧si≤3∧wa=0∧ar=0:=decide_eq_true_iff
theorem vF:aR ⟨7,tu,gr,lo,ch,ton,me,si,wa,ar⟩=true↔(tu=0∧gr=0∧lo=0∧ch=0∧ton=0)∧me=0∧si=0∧2≤ar∧ar≤6∧1≤wa∧wa≤ar:=decide_eq_true_iff
theorem aBb (k:Int) (m1:¬k=1) (m2:¬k=2) (m3:¬k=3) (m4:¬k=4) (m5:¬k=5) (m6:¬k=6) (m7:¬k=7):aR ⟨k,tu,gr,lo,ch,ton,me,si,wa,ar⟩=false:=by
 simp[aR, *]
end
def nbs (l:List UInt8):ByteArray:=⟨l.toArray⟩
theorem cS (t:List UInt8):(nbs t).size=t.length:=by simp[nbs,ByteArray.size]
theorem aCz (t:List UInt8) (p:Nat) (h:p<(nbs t).size):t[p]?=some ((nbs t)[p]'h):=by
 have h':p<t.length:=by rw[←cS];exact h
 rw[List.getElem?_eq_getElem h']
 rfl
def xU (n:NoteR):List UInt8:=
 if n.k=1 then (if n.tu<0 then [76] else [82])++itoa n.gr++(if n.lo<0 then [32,115,104,111,114,116] else if 0<n.lo then [32,108,111,110,103] else [])++(if n.ch<0 then [32,111,112,101,110,115,32]++itoa n.ton else if 0<n.ch then [32,116,105,103,104,116,101,110,115,32]++itoa n.ton else [])
 else if n.k=2 then itoa n.me
 else if n.k=3 then [105,110,116,111]
 else if n.k=4 then [97,110,100]
 else if n.k=5 then (if n.si=1 then [99,114,101,115,116] else if n.si=2 then [106,117,109,112] else [98,105,103,106,117,109,112])
 else if n.k=6 then (if n.si=1 then [33] else if n.si=2 then [33,33] else [33,33,33])
 else [106,117,110,99,116,105,111,110,32]++itoa n.wa++[32,111,102,32]++itoa n.ar
def nIn (n:NoteR):Prop:=∀x∈[n.k,n.tu,n.gr,n.lo,n.ch,n.ton,n.me,n.si,n.wa,n.ar],-9223372036854775808≤x∧x≤9223372036854775807
theorem nIn.all {n:NoteR} (h:nIn n):(-9223372036854775808≤n.k∧n.k≤9223372036854775807)∧(-9223372036854775808≤n.tu∧n.tu≤9223372036854775807)∧(-9223372036854775808≤n.gr∧n.gr≤9223372036854775807)∧(-9223372036854775808≤n.lo∧n.lo≤9223372036854775807)∧(-9223372036854775808≤n.ch∧n.ch≤9223372036854775807)∧(-9223372036854775808≤n.ton∧n.ton≤9223372036854775807)∧(-9223372036854775808≤n.me∧n.me≤9223372036854775807)∧(-9223372036854775808≤n.si∧n.si≤9223372036854775807)∧(-9223372036854775808≤n.wa∧n.wa≤9223372036854775807)∧(-9223372036854775808≤n.ar∧n.ar≤9223372036854775807):=
 ⟨h _ (by simp),h _ (by simp),h _ (by simp),h _ (by simp),h _ (by simp),h _ (by simp),h _ (by simp),h _ (by simp),h _ (by simp),h _ (by simp)⟩
end Go.Proofs.YtjlkeoppppfeiaaGreat
namespace Go.Proofs.YtjlkeoppppfeiaaGreat
open Go.RowKit Go.Shelf Go.Sort Go.Proofs
def aBc:Array Value:=#[.string (ByteArray.mk #[99,114,101,115,116]),.string (ByteArray.mk #[106,117,109,112]),.string (ByteArray.mk #[98,105,103,106,117,109,112])]
theorem vG (w:World):Calls Tryz.prog 284 #[] w fun e w'=>∃b,e = .returned (.slice (some ⟨b,0,none⟩) 3 3)∧BK w' b 9 aBc∧Below w.heap.size w w':=by
 go_enter Tryz.func284,Tryz.ntmps284
 go_wp2_with fail
 go_ret
 exact⟨w.heap.size,rfl,BK.new w _ _,(Below.refl _ _).alloc (Nat.le_refl _) _⟩
end Go.Proofs.YtjlkeoppppfeiaaGreat
