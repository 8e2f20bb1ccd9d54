/- Lemmas. -/
import Derived.Test.YtjlkeoppppfeiaaGreatQCorned
import Derived.Test.YtjlkeoppppfeiaaGreatQTSymM
import Derived.Test.YtjlkeoppppfeiaaGreatQAppS
import Derived.Test.YtjlkeoppppfeiaaGreatQCorn
import Derived.Test.YtjlkeoppppfeiaaGreatQValid
import Derived.Test.YtjlkeoppppfeiaaGreatQBase
import Derived.Test.YtjlkeoppppfeiaaGreatQReg7
import Derived.Test.YtjlkeoppppfeiaaGreatQOrdM
import Derived.Test.YtjlkeoppppfeiaaGreatQReg
import Derived.Test.YtjlkeoppppfeiaaGreatQLeaf
namespace Go.Proofs.YtjlkeoppppfeiaaGreat
open Go.RowKit Go.Shelf Go.Sort Go.Proofs
theorem yI (a b:Int) (w:World) (h0:0≤a) (h1:a≤1000000000) (h2:1≤b) (h3:b≤1000000000) :
  Calls Tryz.prog 138 #[.int .i64 a,.int .i64 b] w fun e w'=>e = .returned (.int .i64 ((2*a+b)/(2*b)))∧w'=w:=by
 go_enter Tryz.func138,Tryz.ntmps138
 go_wp2
 go_ret
 exact⟨rfl,rfl⟩
def aAm (b:BkR) (d:Int):Int:=min 9999 (max b.st ((2*d+b.st) / (2*b.st)*b.st))
def eA (b:BkR) (d:Int) (first:Bool):Option NoteR:=
 if b.io<d then some ⟨2,0,0,0,0,0,aAm b d,0,0,0⟩
 else if first then none
 else if d≤b.an then some ⟨4,0,0,0,0,0,0,0,0,0⟩
 else some ⟨3,0,0,0,0,0,0,0,0,0⟩
theorem bk2 (w:World) (t t2:TypeId) (cs cs2:Array Value):BK ((w.alloc (.cells cs2 t2)).alloc (.cells cs t)) (w.heap.size+1) t cs:=by
 have:=BK.new (w.alloc (.cells cs2 t2)) t cs
 rwa [World.size_alloc]at this
def noteOr (o:Option NoteR):Value:=match o with|some n=>nA n|none=>nA ⟨0,0,0,0,0,0,0,0,0,0⟩
theorem iM {fn:Func} {t u:Nat} (hr:fn.results=#[.cell t 118,.tmp u]) (tm:Array Value) (w:World) (b:Nat) (v:Value) (cs:Array Value) (hsz:cs.size=10) (ht:tm[t]?=some (.pointer (some ⟨b,0,none⟩))) (hu:tm[u]?=some v) (hb:BK w b 118 cs) :
  (results fn tm).run Tryz.prog w = .ok (.tuple #[.agg cs,v]) w:=by
 obtain⟨l⟩:=cs
 match l,hsz with
 | [c0,c1,c2,c3,c4,c5,c6,c7,c8,c9],_=>
 have x0:=hb.cell 0;have x1:=hb.cell 1;have x2:=hb.cell 2;have x3:=hb.cell 3;have x4:=hb.cell 4;have x5:=hb.cell 5;have x6:=hb.cell 6;have x7:=hb.cell 7;have x8:=hb.cell 8;have x9:=hb.cell 9;simp only[List.getElem?_toArray,List.getElem?_cons_zero,List.getElem?_cons_succ]at x0 x1 x2 x3 x4 x5 x6 x7 x8 x9
 simp[results,hr,ht,hu,go_sem,Tryz.isAgg118,Tryz.sizeOf118,x0,x1,x2,x3,x4,x5,x6,x7,x8,x9]
set_option maxRecDepth 100000 in
set_option maxHeartbeats 4000000 in
theorem aCN (b:BkR) (hv:BkOK b) (A:Option Addr) (c:Nat) (d:Int) (first:Bool) (h0:0≤d) (h1:d≤10000000) (w:World) :
  Calls Tryz.prog 59 #[bkA A c b,.int .i64 d,.bool first] w fun e w'=>e = .returned (.tuple #[noteOr (eA b d first),.bool (eA b d first).isSome])∧Below w.heap.size w w':=by
 have hmo:Tryz.prog.follows .mixedOrders=true:=by kernel_rfl
 obtain⟨w0,hw0⟩ : ∃w0,w0=(w.alloc (.cells #[.slice A b.gs.length c,.int .i64 b.sh,.int .i64 b.lo,.int .i64 b.ra,.int .i64 b.an,.int .i64 b.io,.int .i64 b.st,.int .i64 b.ga,.int .i64 b.le] 31)).alloc (.cells #[.int .i64 0,.int .i64 0,.int .i64 0,.int .i64 0,.int .i64 0,.int .i64 0,.int .i64 0,.int .i64 0,.int .i64 0,.int .i64 0] 118):=⟨_,rfl⟩
 have hX0:BK w0 w.heap.size 31 #[.slice A b.gs.length c,.int .i64 b.sh,.int .i64 b.lo,.int .i64 b.ra,.int .i64 b.an,.int .i64 b.io,.int .i64 b.st,.int .i64 b.ga,.int .i64 b.le]:=by rw[hw0];exact(BK.new w _ _).alloc _
 have hR0:BK w0 (w.heap.size+1) 118 #[.int .i64 0,.int .i64 0,.int .i64 0,.int .i64 0,.int .i64 0,.int .i64 0,.int .i64 0,.int .i64 0,.int .i64 0,.int .i64 0]:=by
  rw[hw0];have:=BK.new (w.alloc (.cells #[.slice A b.gs.length c,.int .i64 b.sh,.int .i64 b.lo,.int .i64 b.ra,.int .i64 b.an,.int .i64 b.io,.int .i64 b.st,.int .i64 b.ga,.int .i64 b.le] 31)) 118 #[.int .i64 0,.int .i64 0,.int .i64 0,.int .i64 0,.int .i64 0,.int .i64 0,.int .i64 0,.int .i64 0,.int .i64 0,.int .i64 0];rw[World.size_alloc]at this;exact this
 have hB0:Below w.heap.size w w0:=by rw[hw0];exact((Below.refl _ w).alloc (Nat.le_refl _) _).alloc (by simp) _
 have hs1:=hv.st1;have hs2:=hv.st2;obtain⟨Q,hQ⟩ : ∃Q,Q=(2*d+b.st) / (2*b.st):=⟨_,rfl⟩
 have hQ0:0≤Q:=by rw[hQ];exact Int.ediv_nonneg (by omega) (by omega)
 obtain⟨M,hM⟩ : ∃M,M=Q*b.st:=⟨_,rfl⟩
 have hM0:0≤M:=by rw[hM];exact Int.mul_nonneg hQ0 (by omega)
 have hM1:M≤20000000:=by
  have h2:Q*(2*b.st)≤2*d+b.st:=by rw[hQ];exact Int.ediv_mul_le _ (by omega)
  have h3:Q*(2*b.st)=2*M:=by rw[hM,Int.mul_left_comm]
  omega
 have hw1:IntKind.i64.wrap (Q*b.st)=M:=by rw[←hM];exact IntWalk.i64_in _ (by omega)
 obtain⟨X,hX⟩ : ∃X,X=max b.st M:=⟨_,rfl⟩
 have hi1:(if b.st<M then M else b.st)=X:=by rw[hX,Int.max_def];split<;>split<;>omega
 obtain⟨Y,hY⟩ : ∃Y,Y=min 9999 X:=⟨_,rfl⟩
 have hi2:(if X<9999 then X else 9999)=Y:=by rw[hY,Int.min_def];split<;>split<;>omega
 have HQ:=Lib.hid hQ;have HY:Hid (aAm b d=Y):=by show _=_;unfold aAm;rw[hY,hX,hM,hQ]
 have HV:=Lib.hid hv;have hX:=hX;clear hQ hM hM0 hM1 hv;obtain⟨x0',x1',x2',x3',x4',x5',x6',x7',x8'⟩:=bk9 hX0;have x6:=fun d os=>cell_regrown x6' d os
 have r0:=hR0.cell 0;have r1:=hR0.cell 1;have r2:=hR0.cell 2;have r3:=hR0.cell 3;have r4:=hR0.cell 4;have r5:=hR0.cell 5;have r6:=hR0.cell 6;have r7:=hR0.cell 7;have r8:=hR0.cell 8;have r9:=hR0.cell 9;simp only[List.getElem?_toArray,List.getElem?_cons_zero,List.getElem?_cons_succ]at r0 r1 r2 r3 r4 r5 r6 r7 r8 r9
 have rf:=hR0.frozen;have rl:=hR0.lt;have HR:=Lib.hid hR0;unfold bkA;by_cases c1:b.io<d
 ·have HL:Hid (eA b d first=some ⟨2,0,0,0,0,0,Y,0,0,0⟩):=by show _=_;unfold eA;rw[if_pos c1,HY.out]
  go_enter Tryz.func59,Tryz.ntmps59
  go_wp2_with fail
  rw[←hw0];clear hw0 hX0 hR0;go_quiet(first|(go_at_call 138;exact(yI _ _ _ h0 (by omega) hs1 (by omega)).mono fun _ _ ⟨a,e⟩=>⟨by rw[a,←HQ.out],_,e⟩))
  obtain⟨w1,hw1'⟩ : ∃w1,w1=w0.drewN nq:=⟨_,rfl⟩
  have hR1:BK w1 (w.heap.size+1) 118 #[.int .i64 0,.int .i64 0,.int .i64 0,.int .i64 0,.int .i64 0,.int .i64 0,.int .i64 0,.int .i64 0,.int .i64 0,.int .i64 0]:=by rw[hw1'];exact HR.out
  have hB1:Below w.heap.size w w1:=by rw[hw1'];exact hB0.trans ⟨rfl,rfl,rfl,Nat.le_refl _,fun _ _=>rfl⟩
  rw[←hw1'];clear hw1' x0' x1' x2' x3' x4' x5' x6' x7' x8' x6 r0 r1 r2 r3 r4 r5 r6 r7 r8 r9 rf rl hB0;have r0:=hR1.cell 0;have r1:=hR1.cell 1;have r2:=hR1.cell 2;have r3:=hR1.cell 3;have r4:=hR1.cell 4;have r5:=hR1.cell 5;have r6:=hR1.cell 6;have r7:=hR1.cell 7;have r8:=hR1.cell 8;have r9:=hR1.cell 9;simp only[List.getElem?_toArray,List.getElem?_cons_zero,List.getElem?_cons_succ]at r0 r1 r2 r3 r4 r5 r6 r7 r8 r9
  have rf:=hR1.frozen;have rl:=hR1.lt;have HR1:=Lib.hid hR1;clear hR1;go_wp2_with fail
  exact bodyPost_ret (iM (t:=6) (u:=7) rfl _ _ _ _ _ rfl rfl rfl (HR1.out.set10 rfl)) rfl ⟨by rw[HL.out,hY,hX];rfl,bM hB1 (by omega)⟩
 ·clear x0' x1' x2' x3' x4' x5' x6' x7' x8' x6 r0 r1 r2 r3 r4 r5 r6 r7 r8 r9 rf rl HR hR0 hX0 hB0 hw0 w0
  cases first
  ·by_cases c2:d≤b.an
   ·have HL:Hid (eA b d false=some ⟨4,0,0,0,0,0,0,0,0,0⟩):=by show _=_;unfold eA;rw[if_neg c1,if_neg (by simp),if_pos c2]
    go_enter Tryz.func59,Tryz.ntmps59
    go_wp2_with fail
    exact bodyPost_ret (iM (t:=6) (u:=7) rfl _ _ _ _ _ rfl rfl rfl (bk2 _ _ _ _ _)) rfl ⟨by rw[HL.out];rfl,((Below.refl _ w).alloc (Nat.le_refl _) _).alloc (by simp) _⟩
   ·have HL:Hid (eA b d false=some ⟨3,0,0,0,0,0,0,0,0,0⟩):=by show _=_;unfold eA;rw[if_neg c1,if_neg (by simp),if_neg c2]
    go_enter Tryz.func59,Tryz.ntmps59
    go_wp2_with fail
    exact bodyPost_ret (iM (t:=6) (u:=7) rfl _ _ _ _ _ rfl rfl rfl (bk2 _ _ _ _ _)) rfl ⟨by rw[HL.out];rfl,((Below.refl _ w).alloc (Nat.le_refl _) _).alloc (by simp) _⟩
  ·have HL:Hid (eA b d true=none):=by show _=_;unfold eA;rw[if_neg c1,if_pos rfl]
   go_enter Tryz.func59,Tryz.ntmps59
   go_wp2_with fail
   exact bodyPost_ret (iM (t:=6) (u:=7) rfl _ _ _ _ _ rfl rfl rfl (bk2 _ _ _ _ _)) rfl ⟨by rw[HL.out];rfl,((Below.refl _ w).alloc (Nat.le_refl _) _).alloc (by simp) _⟩
end Go.Proofs.YtjlkeoppppfeiaaGreat
namespace Go.Proofs.YtjlkeoppppfeiaaGreat
open Go.RowKit Go.Shelf Go.Sort Go.Proofs
theorem aED:∀N,aCP N
 |0=>fun base b n c a m e P L R Q w hN h hP hm he hL hR=>by omega
 |N+1=>fun base b n c a m e P L R Q w hN h hP hm he hL hR hLs hRs hn=>by
  by_cases h1:L.length=1
  ·exact aE9 base b n c a m e P L R Q w h hP hm he h1 hRs hn
  ·by_cases h2:R.length=1
   ·exact aEa base b n c a m e P L R Q w h hP hm he (by omega) h2 hLs hn
   ·exact aEb N (aED N) base b n c a m e P L R Q w hN h hP hm he (by omega) (by omega) hLs hRs hn
set_option maxRecDepth 100000 in
set_option maxHeartbeats 8000000 in
theorem aE6 (base b n c:Nat) (xs:List ThR) (w:World) (h:OW thC 13 147 base w (some ⟨b,0,none⟩) n c xs) (hn:n≤100000) :
  Calls Tryz.prog 137 #[.slice (some ⟨b,0,none⟩) n c,.int .i64 n,.func (.func 57) #[] #[]] w fun ev w'=>(∃v,ev = .returned v)∧OW thC 13 147 base w' (some ⟨b,0,none⟩) n c (aK (fun x:ThR=>x.pos) xs)∧w.grownBy w' (some b):=by
 have HH:=Lib.hid h;have HN:=Lib.hid h.2;clear h;go_enter Tryz.func137,Tryz.ntmps137
 go_wp2_with fail
 go_loopw [7,8] (fun av bv wr=>∃k a0 b0:Nat,av = .int .i64 a0∧bv = .int .i64 b0∧Hid (a0=k*20)∧Hid (b0=a0+20)∧a0≤n∧OW thC 13 147 base wr (some ⟨b,0,none⟩) n c (bl (fun x:ThR=>x.pos) 20 k xs)∧w.grownBy wr (some b))
  (fun av _ _=>n-(intOf av).toNat)
 case atStart=>exact⟨0,0,20,rfl,rfl,Lib.hid (by omega),Lib.hid rfl,Nat.zero_le _,HH.out,World.grownBy.refl w _⟩
 case round=>
  obtain⟨k,a0,b0,rfl,rfl,HA0,HB0,hann,hO,hg⟩:=hrel;have han:a0≤n:=hann;obtain⟨A,hA1,hA2,hA3⟩:=oB (fun x:ThR=>x.pos) 20 k xs (by have h1:=HA0.out;have h2:=HN.out;omega)
  rw[hA2]at hO;have hA1':A.length=a0:=by rw[hA1];exact HA0.out.symm
  obtain⟨C,hC⟩ : ∃C,C=(xs.drop (k*20)).take 20:=⟨_,rfl⟩
  obtain⟨B,hB⟩ : ∃B,B=(xs.drop (k*20)).drop 20:=⟨_,rfl⟩
  have hCl:C.length=min 20 (n-a0):=by rw[hC,List.length_take,List.length_drop,←HN.out,←HA0.out]
  rw[←hC,←hB]at hO hA3;have HA3:=Lib.hid hA3;have HAL:=Lib.hid hA1';have HCL:=Lib.hid hCl;clear hA1 hA2 hA3 hC hB hA1' hCl;by_cases hlt:b0≤n
  ·obtain⟨b1,hb1⟩ : ∃b1,b1=b0+20:=⟨_,rfl⟩
   have hwb:IntKind.i64.wrap ((b0:Int)+20)=(b1:Int):=by rw[show (b0:Int)+20=(b1:Int) by omega];exact IntWalk.i64_in _ (by omega)
   have HB1:=Lib.hid hb1;clear hb1;go_wp2_with fail
   refine(aE5 base b n c a0 b0 A C B _ hO HAL.out (by have h1:=HCL.out;have h2:=HB0.out;omega) hn).mono ?_
   rintro ev w2 ⟨⟨v,rfl⟩,hO2,hg2⟩;rw[←HA3.out]at hO2;go_wp2_with fail
   go_roundw
   case rel=>exact⟨k+1,b0,b1,rfl,rfl,Lib.hid (by have h1:=HA0.out;have h2:=HB0.out;omega),HB1,hlt,hO2,aN hg hg2⟩
   case measure=>have:=HB0.out;simp[intOf];omega
  ·go_wp2_with fail
   refine(aE5 base b n c a0 n A C B _ hO HAL.out (by have h1:=HCL.out;have h2:=HB0.out;omega) hn).mono ?_
   rintro ev w2 ⟨⟨v,rfl⟩,hO2,hg2⟩;have hbs:bl (fun x:ThR=>x.pos) 20 (k+1) xs=bs (fun x:ThR=>x.pos) 20 xs:=qV (fun x:ThR=>x.pos) (by omega) (by have h1:=HA0.out;have h2:=HB0.out;have h3:=HN.out;omega)
   rw[←HA3.out,hbs]at hO2;have HG:=Lib.hid (aN hg hg2);have HO:=Lib.hid hO2;clear hO2 hg hg2 hO hbs HA3 HAL HCL HA0 HB0;go_wp2_with fail
   go_loopw [6] (fun sv wq=>∃S:Nat,sv = .int .i64 S∧1≤S∧S≤400000∧OW thC 13 147 base wq (some ⟨b,0,none⟩) n c (bs (fun x:ThR=>x.pos) S xs)∧w.grownBy wq (some b))
    (fun sv _=>n-(intOf sv).toNat)
   case atStart=>exact⟨20,rfl,by omega,by omega,HO.out,HG.out⟩
   case round=>
    obtain⟨S,rfl,hS1,hS2,hOS,hgS⟩:=hrel;by_cases hlt2:S<n
    ·obtain⟨S2,hSS⟩ : ∃S2,S2=2*S:=⟨_,rfl⟩
     have hw1:IntKind.i64.wrap (2*(S:Int))=(S2:Int):=by rw[show 2*(S:Int)=(S2:Int) by omega];exact IntWalk.i64_in _ (by omega)
     have hw2:IntKind.i64.wrap ((S:Int)*2)=(S2:Int):=by rw[show (S:Int)*2=(S2:Int) by omega];exact IntWalk.i64_in _ (by omega)
     have HSS:=Lib.hid hSS;have HOS:=Lib.hid hOS;have HGS:=Lib.hid hgS;clear hSS hOS hgS;go_wp2_with fail
     go_loopw [7,8] (fun av bv wr=>∃k a0 b0:Nat,av = .int .i64 a0∧bv = .int .i64 b0∧Hid (a0=k*(2*S))∧Hid (b0=a0+S2)∧a0≤n∧OW thC 13 147 base wr (some ⟨b,0,none⟩) n c (mx (fun x:ThR=>x.pos) S k xs)∧w.grownBy wr (some b))
      (fun av _ _=>n-(intOf av).toNat)
     case atStart=>exact⟨0,0,S2,rfl,rfl,Lib.hid (by omega),Lib.hid (by omega),Nat.zero_le _,HOS.out,HGS.out⟩
     case round=>
      obtain⟨j,a0,b0,rfl,rfl,HA0,HB0,han2,hO,hg⟩:=hrel;have han3:a0≤n:=han2;obtain⟨A,hA1,hA2,hA3⟩:=oD (fun x:ThR=>x.pos) S hS1 j xs (by have h1:=HA0.out;have h2:=HN.out;omega)
      have hA1':A.length=a0:=by rw[hA1];exact HA0.out.symm
      obtain⟨D,hD⟩ : ∃D,D=xs.drop (j*(2*S)):=⟨_,rfl⟩
      rw[←hD]at hA2 hA3;have hDl:D.length=n-a0:=by rw[hD,List.length_drop,←HN.out,←HA0.out]
      have HAL:=Lib.hid hA1';have HDL:=Lib.hid hDl;have HA2:=Lib.hid hA2;have HA3:=Lib.hid hA3;have hm1:Hid (mrg (fun x:ThR=>x.pos) (aK (fun x:ThR=>x.pos) (D.take S)) (aK (fun x:ThR=>x.pos) ((D.drop S).take S))=aK (fun x:ThR=>x.pos) (D.take (2*S))):=by show _=_;rw[jP,oX]
      have hm2:Hid (mx (fun x:ThR=>x.pos) S j xs=A++(aK (fun x:ThR=>x.pos) (D.take S)++(aK (fun x:ThR=>x.pos) ((D.drop S).take S)++bs (fun x:ThR=>x.pos) S (D.drop (2*S))))):=by show _=_;rw[HA2.out,wW (fun x:ThR=>x.pos) D hS1]
      clear hA1 hA2 hA3 hD hA1' hDl;obtain⟨m0,hm0⟩ : ∃m0,m0=a0+S:=⟨_,rfl⟩
      have hwm:IntKind.i64.wrap ((a0:Int)+(S:Int))=(m0:Int):=by rw[show (a0:Int)+(S:Int)=(m0:Int) by omega];exact IntWalk.i64_in _ (by omega)
      have HM0:=Lib.hid hm0;clear hm0;have hl1:Hid (S≤n-a0→(aK (fun x:ThR=>x.pos) (D.take S)).length=S):=by
       show _→_
       intro hh;rw[ssort_len,List.length_take,HDL.out];omega
      have hl2:Hid ((aK (fun x:ThR=>x.pos) ((D.drop S).take S)).length=min S (n-a0-S)):=by show _=_;rw[ssort_len,List.length_take,List.length_drop,HDL.out]
      by_cases hlt3:b0≤n
      ·obtain⟨b1,hb1⟩ : ∃b1,b1=b0+S2:=⟨_,rfl⟩
       have hwb:IntKind.i64.wrap ((b0:Int)+(S2:Int))=(b1:Int):=by rw[show (b0:Int)+(S2:Int)=(b1:Int) by omega];exact IntWalk.i64_in _ (by have:=HSS.out;omega)
       have HB1:=Lib.hid hb1;clear hb1;rw[hm2.out]at hO;go_wp2_with fail
       refine(aED (b0-a0) base b n c a0 m0 b0 A _ _ _ _ (Nat.le_refl _) hO HAL.out (by have h1:=hl1.out (by have:=HB0.out;have:=HSS.out;omega);have:=HM0.out;omega) (by have h1:=hl2.out;have:=HB0.out;have:=HSS.out;have:=HM0.out;omega) (by have h1:=hl1.out (by have:=HB0.out;have:=HSS.out;omega);omega) (by have h1:=hl2.out;have:=HB0.out;have:=HSS.out;omega) (bU _ _) (bU _ _) hn).mono ?_
       rintro ev w3 ⟨⟨v3,rfl⟩,hO3,hg3⟩;rw[hm1.out,←HA3.out]at hO3;go_wp2_with fail
       go_roundw
       case rel=>exact⟨j+1,b0,b1,rfl,rfl,Lib.hid (by have h1:=HA0.out;have h2:=HB0.out;have h3:=HSS.out;rw[Nat.succ_mul];omega),HB1,hlt3,hO3,aN hg hg3⟩
       case measure=>have:=HB0.out;have:=HSS.out;simp[intOf];omega
      ·by_cases hlt4:m0<n
       ·rw[hm2.out]at hO
        go_wp2_with fail
        refine(aED (n-a0) base b n c a0 m0 n A _ _ _ _ (Nat.le_refl _) hO HAL.out (by have h1:=hl1.out (by have:=HM0.out;omega);have:=HM0.out;omega) (by have h1:=hl2.out;have:=HB0.out;have:=HSS.out;have:=HM0.out;omega) (by have h1:=hl1.out (by have:=HM0.out;omega);omega) (by have h1:=hl2.out;have:=HM0.out;omega) (bU _ _) (bU _ _) hn).mono ?_
        rintro ev w3 ⟨⟨v3,rfl⟩,hO3,hg3⟩;have hall:mx (fun x:ThR=>x.pos) S (j+1) xs=bs (fun x:ThR=>x.pos) (2*S) xs:=wX (fun x:ThR=>x.pos) hS1 xs (by have h1:=HA0.out;have h2:=HB0.out;have h3:=HSS.out;have h4:=HN.out;rw[Nat.succ_mul];omega)
        rw[hm1.out,←HA3.out,hall,←HSS.out]at hO3;clear hall;go_wp2_with fail
        go_roundw
        case rel=>exact⟨S2,rfl,by have:=HSS.out;omega,by have:=HSS.out;omega,hO3,aN hg hg3⟩
        case measure=>have:=HSS.out;simp[intOf];omega
       ·have hall:mx (fun x:ThR=>x.pos) S j xs=bs (fun x:ThR=>x.pos) (2*S) xs:=sI (fun x:ThR=>x.pos) hS1 xs (by have h1:=HA0.out;have h4:=HN.out;omega) (by have h1:=HA0.out;have h3:=HM0.out;have h4:=HN.out;omega)
        rw[hall,←HSS.out]at hO;clear hall;go_wp2_with fail
        go_roundw
        case rel=>exact⟨S2,rfl,by have:=HSS.out;omega,by have:=HSS.out;omega,hO,hg⟩
        case measure=>have:=HSS.out;simp[intOf];omega
    ·have hfin:bs (fun x:ThR=>x.pos) S xs=aK (fun x:ThR=>x.pos) xs:=bs_one (fun x:ThR=>x.pos) hS1 (by rw[←HN.out];omega)
     rw[hfin]at hOS;clear hfin;go_wp2_with fail
     go_end0
     exact⟨⟨_,rfl⟩,hOS,hgS⟩
set_option maxRecDepth 100000 in
theorem aE7 (c:Nat) (w:World):Calls Tryz.prog 194 #[.slice none 0 c,.int .i64 0,.int .i64 0,.func (.func 57) #[] #[]] w fun ev w'=>(∃v,ev = .returned v)∧w'=w:=by
 go_enter Tryz.func194,Tryz.ntmps194
 go_wp2_with fail
 go_loopw [8] (fun iv wr=>iv = .int .i64 1∧wr=w) (fun _ _=>0)
 case atStart=>exact⟨rfl,rfl⟩
 case round=>
  obtain⟨rfl,rfl⟩:=hrel;go_wp2_with fail
  go_end0
  exact⟨⟨_,rfl⟩,rfl⟩
set_option maxRecDepth 100000 in
theorem aEE (c:Nat) (w:World):Calls Tryz.prog 137 #[.slice none 0 c,.int .i64 0,.func (.func 57) #[] #[]] w fun ev w'=>(∃v,ev = .returned v)∧w'=w:=by
 go_enter Tryz.func137,Tryz.ntmps137
 go_wp2_with fail
 go_loopw [7,8] (fun av bv wr=>av = .int .i64 0∧bv = .int .i64 20∧wr=w) (fun _ _ _=>0)
 case atStart=>exact⟨rfl,rfl,rfl⟩
 case round=>
  obtain⟨rfl,rfl,rfl⟩:=hrel;go_wp2_with fail
  refine(aE7 c _).mono ?_
  rintro ev w2 ⟨⟨v,rfl⟩,rfl⟩;go_wp2_with fail
  go_loopw [6] (fun sv wq=>sv = .int .i64 20∧wq=w2) (fun _ _=>0)
  case atStart=>exact⟨rfl,rfl⟩
  case round=>
   obtain⟨rfl,rfl⟩:=hrel;go_wp2_with fail
   go_end0
   exact⟨⟨_,rfl⟩,rfl⟩
set_option maxRecDepth 100000 in
theorem aCO (base:Nat) (A:Option Addr) (n c:Nat) (xs:List ThR) (w:World) (h:OW thC 13 147 base w A n c xs) (hn:n≤100000) :
  Calls Tryz.prog 56 #[.slice A n c,.func (.func 57) #[] #[]] w fun ev w'=>(∃v,ev = .returned v)∧OW thC 13 147 base w' A n c (aK (fun x:ThR=>x.pos) xs)∧w.grownBy w' (A.map (·.block)):=by
 rcases A with _|a
 ·obtain⟨rfl,rfl,rfl⟩:=h.none_
  go_enter Tryz.func56,Tryz.ntmps56
  go_wp2_with fail
  refine(aEE 0 _).mono ?_
  rintro ev w2 ⟨⟨v,rfl⟩,rfl⟩;go_wp2_with fail
  go_end0
  exact⟨⟨_,rfl⟩,OW.nil_,World.grownBy.refl _ _⟩
 ·rcases h.1.2 with⟨h3,_⟩|⟨g',cap,cur,h3,_⟩
  ·cases h3
  ·have HH:=Lib.hid h
   clear h
   injection h3 with h3 h4 h5
   injection h3 with h3
   subst h3;clear h4 h5;go_enter Tryz.func56,Tryz.ntmps56
   go_wp2_with fail
   refine(aE6 base g' n c xs _ HH.out hn).mono ?_
   rintro ev w2 ⟨⟨v,rfl⟩,hO,hg⟩;go_wp2_with fail
   go_end0
   exact⟨⟨_,rfl⟩,hO,hg⟩
end Go.Proofs.YtjlkeoppppfeiaaGreat
namespace Go.Proofs.YtjlkeoppppfeiaaGreat
open Go.RowKit Go.Shelf Go.Sort Go.Proofs
def thOf (a e:Int) (o:Fin 3) (n:NoteR):ThR:=⟨a,e,o,n.k,n.tu,n.gr,n.lo,n.ch,n.ton,n.me,n.si,n.wa,n.ar⟩
def ThR.nt (t:ThR):NoteR:=⟨t.nk,t.ntu,t.ngr,t.nlo,t.nch,t.nto,t.nme,t.nsi,t.nwa,t.nar⟩
def jTh (j:Junc):ThR:=thOf j.pos j.pos 0 ⟨7,0,0,0,0,0,0,0,j.way,j.arms⟩
def cTh (c:Crest):ThR:=thOf c.pos c.pos 1 ⟨5,0,0,0,0,0,0,c.siz,0,0⟩
def kTh (b:BkR) (k:Corner):ThR:=thOf k.fr k.til 2 (iN b k)
def things (b:BkR) (R:Road):List ThR:=R.js.map jTh++(R.cs.map cTh++(eR b.ga b.le R).map (kTh b))
def sthings (b:BkR) (R:Road):List ThR:=aK (fun x:ThR=>x.pos) (things b R)
def mkL (b:BkR):Int→Bool→List ThR→List NoteR
 |_,_,[]=>[]
 |e,f,t::r=>(eA b (max 0 (t.at_-e)) f).toList++t.nt::mkL b (max e t.en) false r
def makeL (b:BkR) (R:Road):List NoteR:=mkL b 0 true (sthings b R)
theorem nI {α:Type} (key:α→Int) {z:α} (l:List α):z∈aK key l→z∈l:=by
 induction l using eQ with
 |h0=>exact id
 |h1 l x ih=>
  intro h;rw[ssort_snoc]at h;rcases insR_mem key h with rfl|h
  ·simp
  ·exact List.mem_append_left _ (ih h)
theorem wR {p:Piece} (h:pOk p=true):0≤p.rad∧p.rad≤2000:=by
 unfold pOk at h;simp only[Bool.and_eq_true]at h;have h5:=h.2.2.2.2
 split at h5
 ·have:p.rad=0:=by simpa using h5
  omega
 ·have:5≤p.rad∧p.rad≤2000:=by simpa[inR]using h5
  omega
theorem wS {R:Road} (hv:OK R) {gap least:Int} {c:Corner} (h:c∈eR gap least R):(0≤c.inn∧c.inn≤2000)∧(0≤c.out∧c.out≤2000):=by
 unfold eR at h;obtain⟨g,hg,rfl⟩:=List.mem_map.1 (List.mem_filter.1 h).1;have hb:∀e∈g,pOk e.2=true:=fun e he=>by
  have h1:=eZ hg he;unfold bds at h1;have h2:=(List.mem_filter.1 h1).1;exact hv.pk _ (oH R.ps 0 e (fun p hp=>by have:=aP (hv.pk p hp);omega) h2).2.2
 have hne:=sO _ _ g hg;obtain⟨f,hf⟩ : ∃f,g.head?=some f:=by cases g with
  |nil=>exact absurd rfl hne
  |cons a l=>exact⟨a,rfl⟩
 obtain⟨l,hl⟩ : ∃l,g.getLast?=some l:=⟨_,List.getLast?_eq_some_getLast hne⟩
 unfold crn;rw[hf,hl];exact⟨wR (hb f (List.mem_of_head? hf)),wR (hb l (List.mem_of_getLast? hl))⟩
theorem aAn {b:BkR} {R:Road} (hv:OK R):∀t∈things b R,(0≤t.at_∧t.at_≤100000)∧0≤t.en∧t.en≤100000:=by
 intro t ht;have hn:=hv.n1;rcases List.mem_append.1 ht with h|h
 ·obtain⟨j,hj,rfl⟩:=List.mem_map.1 h
  obtain⟨i,hi,rfl⟩:=List.getElem_of_mem hj;have h1:=(hv.jk i hi _ (List.getElem?_eq_getElem hi)).1
  simp only[inR,Bool.and_eq_true,decide_eq_true_eq]at h1;exact⟨⟨h1.1,by show R.js[i].pos≤_;omega⟩,h1.1,by show R.js[i].pos≤_;omega⟩
 rcases List.mem_append.1 h with h|h
 ·obtain⟨c,hc,rfl⟩:=List.mem_map.1 h
  obtain⟨i,hi,rfl⟩:=List.getElem_of_mem hc;have h1:=(hv.ck i hi _ (List.getElem?_eq_getElem hi)).1
  simp only[inR,Bool.and_eq_true,decide_eq_true_eq]at h1;exact⟨⟨h1.1,by show R.cs[i].pos≤_;omega⟩,h1.1,by show R.cs[i].pos≤_;omega⟩
 ·obtain⟨k,hk,rfl⟩:=List.mem_map.1 h
  have:=pL hv hk;have h1:=this.lt;have h2:=this.lo;have h3:=this.hi;exact⟨⟨h2,by show k.fr≤_;omega⟩,by show 0≤k.til;omega,by show k.til≤_;omega⟩
theorem yJ {b:BkR} {R:Road} (hv:OK R):∀t∈sthings b R,(0≤t.at_∧t.at_≤100000)∧0≤t.en∧t.en≤100000:=fun t ht=>aAn hv t (nI _ _ ht)
theorem yK {b:BkR} {R:Road} (hv:OK R):(things b R).length≤3200:=by
 have h1:=pM b.ga b.le R;have h2:=hv.p2;have h3:=hv.c1;have h4:=hv.j1;unfold things;simp;omega
theorem jL {b:BkR} {R:Road}:(sthings b R).length=(things b R).length:=ssort_len _ _
end Go.Proofs.YtjlkeoppppfeiaaGreat
