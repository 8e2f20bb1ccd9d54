/- Lemmas. -/
import Derived.Test.YtjlkeoppppfeiaaGreatQNoteP
import Derived.Test.YtjlkeoppppfeiaaGreatQNoteV
namespace Go.Proofs.YtjlkeoppppfeiaaGreat
open Go.RowKit Go.Shelf Go.Sort Go.Proofs
def xZ (b:BkR):Prop:=¬(8<b.gs.length)∧¬(b.sh<1)∧¬(b.lo≤b.sh)∧¬(10000<b.lo)∧¬(¬(101≤b.ra∧b.ra≤1000))∧¬(b.an<0)∧¬(b.io<b.an)∧¬(1000<b.io)∧¬(¬(1≤b.st∧b.st≤100))∧¬(¬((0≤b.ga∧b.ga≤1000)∧1≤b.le∧b.le≤10000))
theorem BkOK.head {b:BkR} (h:BkOK b):xZ b:=by
 have:=h.n8;have:=h.sh1;have:=h.shl;have:=h.lo1;have:=h.ra1;have:=h.ra2;have:=h.an1;have:=h.an2;have:=h.io2;have:=h.st1;have:=h.st2;have:=h.ga1;have:=h.ga2;have:=h.le1;have:=h.le2;refine⟨?_,?_,?_,?_,?_,?_,?_,?_,?_,?_⟩<;>omega
theorem BkOK.mk' {b:BkR} (h:xZ b) (h1:∀g∈b.gs,6≤g∧g≤2000) (h2:b.gs.Pairwise (· < ·)):BkOK b:=by
 obtain⟨a1,a2,a3,a4,a5,a6,a7,a8,a9,a10⟩:=h
 constructor<;>first|exact h1|exact h2|omega
theorem vM (x lo hi:Int) (w:World) :
  Calls Tryz.prog 115 #[.int .i64 x,.int .i64 lo,.int .i64 hi] w fun e w'=>e = .returned (.bool (decide (lo≤x)&&decide (x≤hi)))∧w=w':=by
 by_cases h:lo≤x
 ·have e:(decide (lo≤x)&&decide (x≤hi))=decide (x≤hi):=by simp[h]
  rw[e];clear e;go_enter Tryz.func115,Tryz.ntmps115
  go_wp2
  go_ret
  exact⟨rfl,rfl⟩
 ·have e:(decide (lo≤x)&&decide (x≤hi))=false:=by simp[h]
  rw[e];clear e;go_enter Tryz.func115,Tryz.ntmps115
  go_wp2
  go_ret
  exact⟨rfl,rfl⟩
theorem rBends_any (ga le:Int) (w:World) :
  Calls Tryz.prog 37 #[.agg #[.int .i64 ga,.int .i64 le]] w fun e w'=>e = .returned (.bool ((decide (0≤ga)&&decide (ga≤1000))&&(decide (1≤le)&&decide (le≤10000))))∧Below w.heap.size w w':=by
 have hX:BK (w.alloc (.cells #[.int .i64 ga,.int .i64 le] 29)) w.heap.size 29 #[.int .i64 ga,.int .i64 le]:=BK.new _ _ _;have hB:Below w.heap.size w (w.alloc (.cells #[.int .i64 ga,.int .i64 le] 29)):=(Below.refl _ _).alloc (Nat.le_refl _) _;cases hg:(decide (0≤ga)&&decide (ga≤1000)) with
 |false=>
  rw[Bool.false_and];go_enter Tryz.func37,Tryz.ntmps37
  go_wp2_with(go_at_call 115;refine(vM _ _ _ _).mono ?_;rintro e w' ⟨rfl,rfl⟩)
  go_ret
  exact⟨rfl,hB⟩
 |true=>
  rw[Bool.true_and];go_enter Tryz.func37,Tryz.ntmps37
  go_wp2_with(go_at_call 115;refine(vM _ _ _ _).mono ?_;rintro e w' ⟨rfl,rfl⟩)
  go_ret
  exact⟨rfl,hB⟩
set_option maxRecDepth 100000 in
set_option maxHeartbeats 8000000 in
theorem vN (b:BkR) (A:Option Addr) (c:Nat) (w:World) (h:SL iC 1 w w.heap.size A b.gs.length b.gs) :
  Calls Tryz.prog 8 #[bkA A c b] w fun e w'=>∃m:Bool,e = .returned (.bool m)∧(m=true↔BkOK b)∧Below w.heap.size w w':=by
 obtain⟨n,hn⟩ : ∃n,n=b.gs.length:=⟨_,rfl⟩
 obtain⟨w0,hw0⟩ : ∃w0,w0=w.alloc (.cells #[.slice A n c,.int .i64 b.sh,.int .i64 b.lo,.int .i64 b.ra,.int .i64 b.an,.int .i64 b.io,.int .i64 b.st,.int .i64 b.ga,.int .i64 b.le] 31):=⟨_,rfl⟩
 have hX:BK w0 w.heap.size 31 #[.slice A n c,.int .i64 b.sh,.int .i64 b.lo,.int .i64 b.ra,.int .i64 b.an,.int .i64 b.io,.int .i64 b.st,.int .i64 b.ga,.int .i64 b.le]:=by rw[hw0];exact BK.new w _ _
 have hB0:Below w.heap.size w w0:=by rw[hw0];exact(Below.refl _ w).alloc (Nat.le_refl _) _
 have hS:SL iC 1 w0 w.heap.size A n b.gs:=by rw[hn];exact h.below hB0
 have HX:=Lib.hid hX;have HB0:=Lib.hid hB0;have HN:=Lib.hid hn;have HS:=Lib.hid hS;obtain⟨c0,c1,c2,c3,c4,c5,c6,c7,c8⟩:=bk9 hX;unfold bkA;rw[←hn];clear h hX hB0 hS;by_cases k0:8<b.gs.length
 ·have HF:=Lib.hid k0
  have g0:decide ((8:Int)<(n:Int))=true:=by simp;omega
  clear k0 hn;go_enter Tryz.func8,Tryz.ntmps8
  go_wp2_with fail
  rw[←hw0];clear hw0;go_wp2_with(first|(go_at_call 36;refine(cU _ _ _ _).mono ?_;rintro e w' ⟨rfl,rfl⟩)|(go_at_call 37;refine(rBends_any _ _ _).mono ?_;rintro e w' ⟨rfl,hb⟩))
  go_ret
  exact⟨false,rfl,⟨fun q=>(nomatch q),fun q=>absurd HF.out (by obtain⟨a1,a2,a3,a4,a5,a6,a7,a8,a9,a10⟩:=q.head;exact a1)⟩,HB0.out⟩
 have g0:decide ((8:Int)<(n:Int))=false:=by simp;omega
 by_cases k1:b.sh<1
 ·have HF:=Lib.hid k1
  have g1:decide (b.sh<1)=true:=decide_eq_true k1;clear k0 k1 hn;go_enter Tryz.func8,Tryz.ntmps8
  go_wp2_with fail
  rw[←hw0];clear hw0;go_wp2_with(first|(go_at_call 36;refine(cU _ _ _ _).mono ?_;rintro e w' ⟨rfl,rfl⟩)|(go_at_call 37;refine(rBends_any _ _ _).mono ?_;rintro e w' ⟨rfl,hb⟩))
  go_ret
  exact⟨false,rfl,⟨fun q=>(nomatch q),fun q=>absurd HF.out (by obtain⟨a1,a2,a3,a4,a5,a6,a7,a8,a9,a10⟩:=q.head;exact a2)⟩,HB0.out⟩
 have g1:decide (b.sh<1)=false:=decide_eq_false k1;by_cases k2:b.lo≤b.sh
 ·have HF:=Lib.hid k2
  have g2:decide (b.lo≤b.sh)=true:=decide_eq_true k2;clear k0 k1 k2 hn;go_enter Tryz.func8,Tryz.ntmps8
  go_wp2_with fail
  rw[←hw0];clear hw0;go_wp2_with(first|(go_at_call 36;refine(cU _ _ _ _).mono ?_;rintro e w' ⟨rfl,rfl⟩)|(go_at_call 37;refine(rBends_any _ _ _).mono ?_;rintro e w' ⟨rfl,hb⟩))
  go_ret
  exact⟨false,rfl,⟨fun q=>(nomatch q),fun q=>absurd HF.out (by obtain⟨a1,a2,a3,a4,a5,a6,a7,a8,a9,a10⟩:=q.head;exact a3)⟩,HB0.out⟩
 have g2:decide (b.lo≤b.sh)=false:=decide_eq_false k2;by_cases k3:10000<b.lo
 ·have HF:=Lib.hid k3
  have g3:decide (10000<b.lo)=true:=decide_eq_true k3;clear k0 k1 k2 k3 hn;go_enter Tryz.func8,Tryz.ntmps8
  go_wp2_with fail
  rw[←hw0];clear hw0;go_wp2_with(first|(go_at_call 36;refine(cU _ _ _ _).mono ?_;rintro e w' ⟨rfl,rfl⟩)|(go_at_call 37;refine(rBends_any _ _ _).mono ?_;rintro e w' ⟨rfl,hb⟩))
  go_ret
  exact⟨false,rfl,⟨fun q=>(nomatch q),fun q=>absurd HF.out (by obtain⟨a1,a2,a3,a4,a5,a6,a7,a8,a9,a10⟩:=q.head;exact a4)⟩,HB0.out⟩
 have g3:decide (10000<b.lo)=false:=decide_eq_false k3;by_cases k4:¬(101≤b.ra∧b.ra≤1000)
 ·have HF:=Lib.hid k4
  have g4:(decide (101≤b.ra)&&decide (b.ra≤1000))=false:=by rw[←Bool.not_eq_true];simp only[Bool.and_eq_true,decide_eq_true_eq];exact k4
  clear k0 k1 k2 k3 k4 hn;go_enter Tryz.func8,Tryz.ntmps8
  go_wp2_with fail
  rw[←hw0];clear hw0;go_wp2_with(first|(go_at_call 36;refine(cU _ _ _ _).mono ?_;rintro e w' ⟨rfl,rfl⟩)|(go_at_call 37;refine(rBends_any _ _ _).mono ?_;rintro e w' ⟨rfl,hb⟩))
  go_ret
  exact⟨false,rfl,⟨fun q=>(nomatch q),fun q=>absurd HF.out (by obtain⟨a1,a2,a3,a4,a5,a6,a7,a8,a9,a10⟩:=q.head;exact a5)⟩,HB0.out⟩
 have g4:(decide (101≤b.ra)&&decide (b.ra≤1000))=true:=by simp only[Bool.and_eq_true,decide_eq_true_eq];omega
 by_cases k5:b.an<0
 ·have HF:=Lib.hid k5
  have g5:decide (b.an<0)=true:=decide_eq_true k5;clear k0 k1 k2 k3 k4 k5 hn;go_enter Tryz.func8,Tryz.ntmps8
  go_wp2_with fail
  rw[←hw0];clear hw0;go_wp2_with(first|(go_at_call 36;refine(cU _ _ _ _).mono ?_;rintro e w' ⟨rfl,rfl⟩)|(go_at_call 37;refine(rBends_any _ _ _).mono ?_;rintro e w' ⟨rfl,hb⟩))
  go_ret
  exact⟨false,rfl,⟨fun q=>(nomatch q),fun q=>absurd HF.out (by obtain⟨a1,a2,a3,a4,a5,a6,a7,a8,a9,a10⟩:=q.head;exact a6)⟩,HB0.out⟩
 have g5:decide (b.an<0)=false:=decide_eq_false k5;by_cases k6:b.io<b.an
 ·have HF:=Lib.hid k6
  have g6:decide (b.io<b.an)=true:=decide_eq_true k6;clear k0 k1 k2 k3 k4 k5 k6 hn;go_enter Tryz.func8,Tryz.ntmps8
  go_wp2_with fail
  rw[←hw0];clear hw0;go_wp2_with(first|(go_at_call 36;refine(cU _ _ _ _).mono ?_;rintro e w' ⟨rfl,rfl⟩)|(go_at_call 37;refine(rBends_any _ _ _).mono ?_;rintro e w' ⟨rfl,hb⟩))
  go_ret
  exact⟨false,rfl,⟨fun q=>(nomatch q),fun q=>absurd HF.out (by obtain⟨a1,a2,a3,a4,a5,a6,a7,a8,a9,a10⟩:=q.head;exact a7)⟩,HB0.out⟩
 have g6:decide (b.io<b.an)=false:=decide_eq_false k6;by_cases k7:1000<b.io
 ·have HF:=Lib.hid k7
  have g7:decide (1000<b.io)=true:=decide_eq_true k7;clear k0 k1 k2 k3 k4 k5 k6 k7 hn;go_enter Tryz.func8,Tryz.ntmps8
  go_wp2_with fail
  rw[←hw0];clear hw0;go_wp2_with(first|(go_at_call 36;refine(cU _ _ _ _).mono ?_;rintro e w' ⟨rfl,rfl⟩)|(go_at_call 37;refine(rBends_any _ _ _).mono ?_;rintro e w' ⟨rfl,hb⟩))
  go_ret
  exact⟨false,rfl,⟨fun q=>(nomatch q),fun q=>absurd HF.out (by obtain⟨a1,a2,a3,a4,a5,a6,a7,a8,a9,a10⟩:=q.head;exact a8)⟩,HB0.out⟩
 have g7:decide (1000<b.io)=false:=decide_eq_false k7;by_cases k8:¬(1≤b.st∧b.st≤100)
 ·have HF:=Lib.hid k8
  have g8:(decide (1≤b.st)&&decide (b.st≤100))=false:=by rw[←Bool.not_eq_true];simp only[Bool.and_eq_true,decide_eq_true_eq];exact k8
  clear k0 k1 k2 k3 k4 k5 k6 k7 k8 hn;go_enter Tryz.func8,Tryz.ntmps8
  go_wp2_with fail
  rw[←hw0];clear hw0;go_wp2_with(first|(go_at_call 36;refine(cU _ _ _ _).mono ?_;rintro e w' ⟨rfl,rfl⟩)|(go_at_call 37;refine(rBends_any _ _ _).mono ?_;rintro e w' ⟨rfl,hb⟩))
  go_ret
  exact⟨false,rfl,⟨fun q=>(nomatch q),fun q=>absurd HF.out (by obtain⟨a1,a2,a3,a4,a5,a6,a7,a8,a9,a10⟩:=q.head;exact a9)⟩,HB0.out⟩
 have g8:(decide (1≤b.st)&&decide (b.st≤100))=true:=by simp only[Bool.and_eq_true,decide_eq_true_eq];omega
 by_cases k9:¬((0≤b.ga∧b.ga≤1000)∧1≤b.le∧b.le≤10000)
 ·have HF:=Lib.hid k9
  have g9:((decide (0≤b.ga)&&decide (b.ga≤1000))&&(decide (1≤b.le)&&decide (b.le≤10000)))=false:=by rw[←Bool.not_eq_true];simp only[Bool.and_eq_true,decide_eq_true_eq];exact k9
  clear k0 k1 k2 k3 k4 k5 k6 k7 k8 k9 hn;go_enter Tryz.func8,Tryz.ntmps8
  go_wp2_with fail
  rw[←hw0];clear hw0;go_wp2_with(first|(go_at_call 36;refine(cU _ _ _ _).mono ?_;rintro e w' ⟨rfl,rfl⟩)|(go_at_call 37;refine(rBends_any _ _ _).mono ?_;rintro e w' ⟨rfl,hb⟩))
  go_ret
  exact⟨false,rfl,⟨fun q=>(nomatch q),fun q=>absurd HF.out (by obtain⟨a1,a2,a3,a4,a5,a6,a7,a8,a9,a10⟩:=q.head;exact a10)⟩,HB0.out.trans (hb.mono HB0.out.size)⟩
 have g9:((decide (0≤b.ga)&&decide (b.ga≤1000))&&(decide (1≤b.le)&&decide (b.le≤10000)))=true:=by simp only[Bool.and_eq_true,decide_eq_true_eq];omega
 have HH:Hid (xZ b):=⟨k0,k1,k2,k3,k4,k5,k6,k7,k8,k9⟩;have hn8:n≤8:=by omega
 clear k0 k1 k2 k3 k4 k5 k6 k7 k8 k9 hn;go_enter Tryz.func8,Tryz.ntmps8
 go_wp2_with fail
 rw[←hw0];clear hw0;go_wp2_with(first|(go_at_call 36;refine(cU _ _ _ _).mono ?_;rintro e w' ⟨rfl,rfl⟩)|(go_at_call 37;refine(rBends_any _ _ _).mono ?_;rintro e w' ⟨rfl,hb⟩))
 have HB1:=Lib.hid hb;clear hb c0 c1 c2 c3 c4 c5 c6 c7 c8 g0 g1 g2 g3 g4 g5 g6 g7 g8 g9;go_loopw [3] (fun iv wr=>∃k:Nat,k≤n∧iv = .int .i64 (k:Nat)∧(∀g∈b.gs.take k,6≤g∧g≤2000)∧(b.gs.take k).Pairwise (· < ·)∧Below w0.heap.size w0 wr) (fun iv _=>n-(intOf iv).toNat)
 case atStart=>exact⟨0,Nat.zero_le _,rfl,by simp,by simp,HB1.out⟩
 case round=>
  obtain⟨k,hk,rfl,hrg,hpw,hbr⟩:=hrel;obtain⟨c0,-⟩:=bk9 (HX.out.below hbr HX.out.lt);have HBR:=Lib.hid hbr;have HRG:=Lib.hid hrg;have HPW:=Lib.hid hpw;clear hrg hpw;by_cases hlt:k<n
  ·have hkl:k<b.gs.length:=by rw[←HN.out];exact hlt
   obtain⟨ab,off,hA,hbB,ck⟩:=IS.at_ (HS.out.below (hbr.mono HB0.out.size)) hkl;subst hA;have HTK:Hid (b.gs.take (k+1)=b.gs.take k++[b.gs[k]]):=by
    show _=_
    rw[List.take_add_one,List.getElem?_eq_getElem hkl]
    rfl
   have hk0:(0:Int)≤(k:Int):=by omega
   have hkn:(k:Int)<(n:Int):=by omega
   have gk:decide ((k:Int)<(n:Int))=true:=by simp;omega
   have hmem:=List.getElem_mem hkl;have HMEM:=Lib.hid hmem;have HFAIL:Hid (BkOK b→6≤b.gs[k]∧b.gs[k]≤2000):=fun q=>q.rng _ HMEM.out
   by_cases hin:6≤b.gs[k]∧b.gs[k]≤2000
   ·have gi:(decide (6≤b.gs[k])&&decide (b.gs[k]≤2000))=true:=by simp only[Bool.and_eq_true,decide_eq_true_eq];exact hin
    have HIN:=Lib.hid hin;rcases k with _|k
    ·simp only[Nat.add_zero]at ck
     have hgt:decide ((0:Int)<((0:Nat):Int))=false:=by decide
     generalize b.gs[0]'hkl=g at *
     clear hbr hin hmem;go_wp2_with fail
     go_quiet((go_at_call 36;exact Calls.quiet_of_same ((cU _ _ _ _).mono fun _ _ ⟨a,b⟩=>⟨a,b.symm⟩)))
     go_wp2_with fail
     go_roundw
     case rel=>exact⟨1,by omega,by go_num,fun x hx=>by rw[show (1:Nat)=0+1 from rfl,HTK.out]at hx;simp at hx;subst hx;exact HIN.out,by rw[show (1:Nat)=0+1 from rfl,HTK.out];simp,aD HBR.out _⟩
     case measure=>simp[intOf];omega
    ·obtain⟨ab',off',hA',-,cp⟩:=IS.at_ (HS.out.below (hbr.mono HB0.out.size)) (k:=k) (by omega)
     injection hA' with hA'
     injection hA' with h1 h2
     subst h1;subst h2;have hgt:decide ((0:Int)<((k+1:Nat):Int))=true:=by rw[decide_eq_true_eq];omega
     have hw2:IntKind.i64.wrap (((k+1:Nat):Int)-1)=(k:Int):=by rw[show ((k+1:Nat):Int)-1=(k:Int) by omega];exact IntWalk.i64_in _ (by omega)
     have g3:(0:Int)≤(k:Int):=by omega
     have g4:(k:Int)<(n:Int):=by omega
     have HTK0:Hid (b.gs.take (k+1)=b.gs.take k++[b.gs[k]]):=by
      show _=_
      rw[List.take_add_one,List.getElem?_eq_getElem (by omega)]
      rfl
     have HST:Hid (BkOK b→b.gs[k]<b.gs[k+1]):=fun q=>q.step hkl
     by_cases hst:b.gs[k]<b.gs[k+1]
     ·have hle:decide (b.gs[k+1]≤b.gs[k])=false:=by simp;omega
      have hp2:(b.gs.take (k+1+1)).Pairwise (· < ·):=by
       have h5:=HPW.out;rw[HTK.out,List.pairwise_append];refine⟨h5,List.pairwise_singleton _ _,fun x hx y hy=>?_⟩
       rw[List.mem_singleton]at hy;subst hy;rw[HTK0.out]at h5 hx;rcases List.mem_append.1 hx with hx|hx
       ·have:=(List.pairwise_append.1 h5).2.2 x hx _ (List.mem_singleton_self _)
        omega
       ·rw[List.mem_singleton]at hx
        omega
      have HP2:=Lib.hid hp2;have HR2:Hid (∀g∈b.gs.take (k+1+1),6≤g∧g≤2000):=fun x hx=>by
       rw[HTK.out]at hx;rcases List.mem_append.1 hx with hx|hx
       ·exact HRG.out x hx
       ·rw[List.mem_singleton]at hx
        subst hx;exact HIN.out
      generalize b.gs[k+1]'hkl=g at *
      generalize b.gs[k]'_=g' at *
      clear hbr hin hmem hst hp2;go_wp2_with fail
      go_quiet((go_at_call 36;exact Calls.quiet_of_same ((cU _ _ _ _).mono fun _ _ ⟨a,b⟩=>⟨a,b.symm⟩)))
      go_wp2_with fail
      go_roundw
      case rel=>exact⟨k+1+1,by omega,by go_num,HR2.out,HP2.out,aD HBR.out _⟩
      case measure=>simp[intOf];omega
     ·have hle:decide (b.gs[k+1]≤b.gs[k])=true:=by simp;omega
      have HNO:Hid (¬BkOK b):=fun q=>hst (HST.out q)
      generalize b.gs[k+1]'hkl=g at *
      generalize b.gs[k]'_=g' at *
      clear hbr hin hmem hst;go_wp2_with fail
      go_quiet((go_at_call 36;exact Calls.quiet_of_same ((cU _ _ _ _).mono fun _ _ ⟨a,b⟩=>⟨a,b.symm⟩)))
      go_wp2_with fail
      go_ret
      exact⟨false,rfl,⟨fun q=>(nomatch q),fun q=>absurd q HNO.out⟩,aD (HB0.out.trans (HBR.out.mono HB0.out.size)) _⟩
   ·have gi:(decide (6≤b.gs[k])&&decide (b.gs[k]≤2000))=false:=by rw[←Bool.not_eq_true];simp only[Bool.and_eq_true,decide_eq_true_eq];exact hin
    have HNO:Hid (¬BkOK b):=fun q=>hin (HFAIL.out q)
    generalize b.gs[k]'hkl=g at *
    clear hbr hin hmem;go_wp2_with fail
    go_quiet((go_at_call 36;exact Calls.quiet_of_same ((cU _ _ _ _).mono fun _ _ ⟨a,b⟩=>⟨a,b.symm⟩)))
    go_wp2_with fail
    go_ret
    exact⟨false,rfl,⟨fun q=>(nomatch q),fun q=>absurd q HNO.out⟩,aD (HB0.out.trans (HBR.out.mono HB0.out.size)) _⟩
  ·obtain rfl:k=n:=by omega
   have gk:decide ((k:Int)<(k:Int))=false:=by simp
   have hx:b.gs.take k=b.gs:=by rw[HN.out,List.take_length]
   have HOK:Hid (BkOK b):=BkOK.mk' HH.out (by have:=HRG.out;rwa [hx]at this) (by have:=HPW.out;rwa [hx]at this)
   clear hx hbr;go_wp2_with fail
   go_ret
   exact⟨true,rfl,⟨fun _=>HOK.out,fun _=>rfl⟩,HB0.out.trans (HBR.out.mono HB0.out.size)⟩
end Go.Proofs.YtjlkeoppppfeiaaGreat
