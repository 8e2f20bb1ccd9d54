/- Lemmas. -/
import Derived.Test.YtjlkeoppppfeiaaGreatQAppS
import Derived.Test.YtjlkeoppppfeiaaGreatQCorn
import Derived.Test.YtjlkeoppppfeiaaGreatQValid
import Derived.Test.YtjlkeoppppfeiaaGreatQBase
import Derived.Test.YtjlkeoppppfeiaaGreatQReg7
import Derived.Test.YtjlkeoppppfeiaaGreatQOrdM
import Derived.Test.YtjlkeoppppfeiaaGreatQReg
import Derived.Test.YtjlkeoppppfeiaaGreatQLeaf
import Derived.Test.YtjlkeoppppfeiaaGreatQNRead4
import Derived.Test.YtjlkeoppppfeiaaGreatQReadR
import Derived.Defers
import Derived.Recover
import Derived.TacticsInMore
import Derived.RegionIn
import Derived.LoopNIn
import Derived.LoopIn
import Derived.RecoverIn
import Derived.OwnWalkIn
import Derived.Laws.EntriesVeiled
namespace Go.Proofs.YtjlkeoppppfeiaaGreat
open Go.RowKit Go.Shelf Go.Sort Go.Proofs
structure But (m:Nat) (x y:World):Prop where
 os:y.os=x.os
 tape:y.tape=x.tape
 output:y.output=x.output
 size:x.heap.size≤y.heap.size
 block:∀b,b<x.heap.size→b≠m→y.heap[b]?=x.heap[b]?
section
variable {m:Nat} {W W':World}
theorem But.refl (m:Nat) (x:World):But m x x:=⟨rfl,rfl,rfl,Nat.le_refl _,fun _ _ _=>rfl⟩
theorem But.trans {x y z:World} (h:But m x y) (k:But m y z):But m x z:=
 ⟨k.os.trans h.os,k.tape.trans h.tape,k.output.trans h.output,Nat.le_trans h.size k.size,fun b hb hm=>(k.block b (Nat.lt_of_lt_of_le hb h.size) hm).trans (h.block b hb hm)⟩
theorem But.of_below (h:Below W.heap.size W W'):But m W W':=⟨h.os,h.tape,h.output,h.size,fun b hb _=>h.block b hb⟩
theorem But.setCell {x y:World} (h:But m x y) (o:Nat) (u:Value):But m x (y.setCell ⟨m,o,none⟩ u):=
 ⟨h.os,h.tape,h.output,by rw[World.size_setCell];exact h.size,fun b hb hm=>(Below.heap_setCell _ _ _ b hm).trans (h.block b hb hm)⟩
theorem But.grown {x y z:World} (h:But m x y) (k:y.grownBy z (some m)):But m x z:=
 ⟨k.os.trans h.os,k.tape.trans h.tape,k.output.trans h.output,Nat.le_trans h.size k.size,fun b hb hm=>(k.block b (Nat.lt_of_lt_of_le hb h.size) (fun e=>hm (by cases e;rfl))).trans (h.block b hb hm)⟩
theorem But.bk (h:But m W W') {b:Nat} {t:TypeId} {cs:Array Value} (hb:BK W b t cs) (hm:b≠m):BK W' b t cs:=(h.block b hb.lt hm).trans hb
theorem But.ow (h:But m W W') {α:Type} {f:α→List Value} {sz:Nat} {e:TypeId} {base:Nat} {A:Option Addr} {n c:Nat} {xs:List α} (ho:OW f sz e base W A n c xs) (hm:∀g,A=some g→g.block≠m):OW f sz e base W' A n c xs:=
 ho.keep (fun g hg=>h.block _ (ho.lt hg).2 (hm g hg))
theorem But.below (h:But m W W') {n0:Nat} (h1:n0≤m) (h2:n0≤W.heap.size):Below n0 W W':=
 ⟨h.os,h.tape,h.output,h.size,fun b hb=>h.block b (by omega) (by omega)⟩
theorem But.keeps (h:But m W W') {t:TypeId} {cs:Array Value} (hm:BK W m t cs) (B:Nat):KeepsFrom B W W':=
 ⟨h.size,fun k o _ hk ho=>(h.block k (Array.getElem?_eq_some_iff.1 hk).1 (fun e=>by subst e;rw[show W.heap[k]?=_ from hm]at hk;cases hk;cases ho)).trans hk⟩
theorem aCx (m:Nat) (W:World) (o:Obj) (d:Nat) (os:Array Obj):But m W (grow (redrawn (W.putObj m o) d) os):=by
 have h1:But m W (W.putObj m o):=⟨rfl,rfl,rfl,by simp[World.putObj],fun b _ hm=>World.putObj_heap_other hm⟩
 exact h1.trans (But.of_below (below_regrown _ d os))
theorem aEe (h:But m W W') (hm:m<W.heap.size) {o:Obj} (ho:W'.heap[m]?=some o):∃p:Regrown,W'=grow (redrawn (W.putObj m o) p.d) p.os:=by
 refine regrown_of_below ⟨h.os,h.tape,h.output,by simpa[World.putObj]using h.size,fun b hb=>?_⟩
 have hb':b<W.heap.size:=by simpa[World.putObj]using hb
 by_cases e:b=m
 ·subst e
  rw[World.putObj_heap_same hm,ho]
 ·rw[World.putObj_heap_other e,h.block b hb' e]
end
structure RegO where
 o:Obj
 d:Nat
 os:Array Obj
instance:Inhabited RegO:=⟨⟨.cells #[] 0,0,#[]⟩⟩
theorem aDq {α:Type} {f:α→List Value} {sz:Nat} {e:TypeId} {base:Nat} {w:World} {M n c:Nat} {xs:List α} (h:OW f sz e base w (some ⟨M,0,none⟩) n c xs):∃cur,w.heap[M]?=some (.cells cur e (0,0)):=by
 rcases h.1.2 with⟨h3,_⟩|⟨g',cap,cur,h3,_,hg',_⟩
 ·cases h3
 ·injection h3 with h3
  injection h3 with h3
  injection h3 with h3
  subst h3;exact⟨cur,hg'⟩
end Go.Proofs.YtjlkeoppppfeiaaGreat
namespace Go.Proofs.YtjlkeoppppfeiaaGreat
open Go.RowKit Go.Shelf Go.Sort Go.Proofs
attribute [local go_sem] Oper.semAt_some
def dA:List UInt8→List UInt8×List UInt8×Bool
 | []=>([],[],false)
 |b::r=>if b=32 then ([],r,true) else (b::(dA r).1,(dA r).2.1,(dA r).2.2)
theorem oL:∀(s:List UInt8),(dA s).2.2=false→dA s=(s,[],false)∧bK s=[s]
 | [],_=>⟨rfl,rfl⟩
 |b::r,h=>by
  unfold dA at h ⊢
  split at h
  ·cases h
  ·rename_i hb
   obtain⟨h1,h2⟩:=oL r h;rw[if_neg hb,h1];refine⟨rfl,?_⟩
   unfold bK;rw[if_neg hb,h2]
theorem lS:∀(s:List UInt8),(dA s).2.2=true→s=(dA s).1++32::(dA s).2.1∧bK s=(dA s).1::bK (dA s).2.1∧32∉(dA s).1
 | [],h=>by cases h
 |b::r,h=>by
  unfold dA at h ⊢
  split at h
  ·rename_i hb
   rw[if_pos hb,hb];refine⟨rfl,?_,by simp⟩
   rw[bK,if_pos rfl]
  ·rename_i hb
   obtain⟨h1,h2,h3⟩:=lS r h;rw[if_neg hb];refine⟨by rw[List.cons_append,←h1],?_,by simp only[List.mem_cons,not_or];exact⟨fun hh=>hb hh.symm,h3⟩⟩
   conv=>lhs;unfold bK
   rw[if_neg hb,h2]
theorem vC (s:List UInt8):(dA s).1.length≤s.length∧(dA s).2.1.length≤s.length:=by
 cases h:(dA s).2.2 with
 |false=>rw[(oL s h).1];exact⟨Nat.le_refl _,by simp⟩
 |true=>
  have:=congrArg List.length (lS s h).1;simp at this;omega
theorem zF:∀(s:List UInt8),Lib.indexByte s 32=if (dA s).2.2 then ((dA s).1.length:Int) else -1
 | []=>rfl
 |b::r=>by
  have ih:=zF r;unfold Lib.indexByte dA;by_cases hb:b=32
  ·subst hb
   simp
  ·have hb2:(b == 32)=false:=by simpa using hb
   rw[hb2,if_neg hb];simp only[Bool.false_eq_true,if_false];rw[ih];cases (dA r).2.2 with
   |false=>simp
   |true=>
    simp only[if_true];rw[if_neg (by simp)]
    simp only[List.length_cons];omega
theorem nM (s:List UInt8) (a b:Nat):(nbs s).extract a b=nbs ((s.drop a).take (b-a)):=by
 apply ByteArray.ext
 rw[ByteArray.data_extract];apply Array.ext'
 simp[nbs]
set_option maxRecDepth 100000 in
theorem aA3 (s:List UInt8) (hl:s.length≤1000000) (w:World) :
  Calls Tryz.prog 282 #[.string (nbs s),.string (ByteArray.mk #[32])] w fun e w'=>e = .returned (.tuple #[.string (nbs (dA s).1),.string (nbs (dA s).2.1),.bool (dA s).2.2])∧Below w.heap.size w w':=by
 have hix:=gC (nbs s) 32 w;rw[show (nbs s).data.toList=s by simp[nbs],zF]at hix
 cases h:(dA s).2.2 with
 |false=>
  have hc:=Lib.hid (oL s h).1;rw[h]at hix;simp only[Bool.false_eq_true,if_false]at hix;go_enter Tryz.func282,Tryz.ntmps282
  go_wp2_with(go_at_call 299;refine hix.mono ?_;rintro e w' ⟨rfl,rfl⟩)
  go_ret3
  exact⟨by rw[hc.out];rfl,Below.refl _ _⟩
 |true=>
  have hc:=Lib.hid (lS s h).1;have hle:=Lib.hid (vC s).1;rw[h]at hix;simp only[if_true]at hix;obtain⟨i,hi⟩ : ∃i,i=(dA s).1.length:=⟨_,rfl⟩
  rw[←hi]at hix;have HI:=Lib.hid hi;have hz:=cS s;have hlen:i+1≤s.length:=by
   have:=congrArg List.length hc.out;simp at this;omega
  clear hi;have h32:(ByteArray.mk #[(32:UInt8)]).size=1:=rfl;have c1:(0:Int)≤(i:Int):=by omega
  have c2:(i:Int)≤((nbs s).size:Int):=by rw[hz];omega
  have c3:(0:Int)≤(i:Int)+1:=by omega
  have c4:(i:Int)+1≤((nbs s).size:Int):=by rw[hz];omega
  have mixed:Tryz.prog.follows .mixedOrders=true:=by kernel_rfl
  clear hz;have e1:Hid ((nbs s).extract 0 i=nbs (dA s).1):=by
   show _=_
   rw[nM,HI.out,List.drop_zero,Nat.sub_zero];have h2:=congrArg (List.take (dA s).1.length) hc.out;rw[h2];simp
  have e2:Hid ((nbs s).extract (i+1) (nbs s).size=nbs (dA s).2.1):=by
   show _=_
   rw[nM,cS,List.take_of_length_le (by simp),HI.out]
   have h2:=congrArg (List.drop ((dA s).1.length+1)) hc.out;rw[h2];simp
  go_enter Tryz.func282,Tryz.ntmps282
  go_wp2_with(go_at_call 299;refine hix.mono ?_;rintro e w' ⟨rfl,rfl⟩)
  go_region_o
  go_wp2
  go_ret3
  exact⟨by rw[←e1.out,←e2.out];rfl,(Below.refl _ _).drew⟩
theorem aCy (s:List UInt8) (hl:s.length≤1000000) (w:World) :
  Calls Tryz.prog 234 #[.string (nbs s),.string (ByteArray.mk #[32])] w fun e w'=>e = .returned (.tuple #[.string (nbs (dA s).1),.string (nbs (dA s).2.1),.bool (dA s).2.2])∧Below w.heap.size w w':=by
 go_enter Tryz.func234,Tryz.ntmps234
 go_wp2_with(go_at_call 282;refine(aA3 s hl _).mono ?_;rintro e w' ⟨rfl,hb⟩)
 go_ret3
 exact⟨rfl,hb⟩
theorem rM (s:List UInt8) (w:World) :
  Calls Tryz.prog 185 #[.string (nbs s)] w fun e w'=>e = .returned (.func (.func 233) #[] #[.pointer (some ⟨w.heap.size,0,none⟩)])∧w'=w.alloc (.cells #[.string (nbs s)] 9):=by
 go_enter Tryz.func185,Tryz.ntmps185
 go_wp2
 go_ret
 exact⟨rfl,rfl⟩
theorem pI (s:List UInt8):(bK s).length≤s.length+1:=by
 induction s with
 |nil=>simp[bK]
 |cons b r ih=>
  unfold bK
  split
  ·simp;omega
  ·split
   ·simp
   ·rename_i x xs he
    rw[he]at ih;simp at ih ⊢;omega
def tB (w:World) (sb:Nat):Nat:=match w.cell? ⟨sb,0,none⟩ with|some (.string b)=>b.size|_=>0
theorem mS {w:World} {sb:Nat} {t:TypeId} {r:List UInt8} (h:BK w sb t #[.string (nbs r)]):tB w sb=r.length:=by
 have c:=h.cell 0;simp only[List.getElem?_toArray,List.getElem?_cons_zero]at c
 unfold tB;rw[c];exact cS r
theorem oM (r:List UInt8):((nbs r).toList == ([]:List UInt8))=r.isEmpty:=by
 rw[ByteArray.toList_eq];cases r<;>rfl
theorem lT (r:List UInt8):((nbs r).toList == (ByteArray.mk #[]).toList)=r.isEmpty:=by
 rw[ByteArray.toList_eq,ByteArray.toList_eq];cases r<;>rfl
def KX (sb:Nat) (W W':World):Prop:=W'.heap[sb]?=W.heap[sb]?
set_option maxRecDepth 100000 in
set_option maxHeartbeats 4000000 in
theorem xR (n:Nat) (hn:1≤n) (s0:List UInt8) (hl:s0.length≤1000000) (sb:Nat) (w:World) (hbx:BK w sb 9 #[.string (nbs s0)]) :
  aBj Fence.wide n Tryz.prog 233 #[.pointer (some ⟨sb,0,none⟩)] (fun x:Wd=>#[.string (nbs x)]) sb (KX sb) (fun xs=>xs=dQ s0) (s0.length+1) w:=by
 intro l J W hbW hJX hY h0;have hS0:=hbx.below hbW hbx.lt;have hSL:=pI s0;clear hbx;refine callsIn_of_wp Tryz.func233 rfl trivial ?_ rfl
 simp only[Tryz.ntmps233,List.size_toArray,List.length_cons,List.length_nil,Nat.reduceAdd,Nat.reduceSub,Array.replicate_succ,Array.replicate_zero,List.push_toArray,List.append_toArray,List.nil_append,List.cons_append]
 gi_wp2_with fail
 gi_loopw [3] (fun _ wr=>∃(r:List UInt8) (pre:List Wd),Hid ((r=[]∧dQ s0=pre)∨(r≠[]∧s0≠[]∧bK s0=pre++bK r))∧r.length≤s0.length∧BK wr sb 9 #[.string (nbs r)]∧J pre wr)
  (fun _ wr=>tB wr sb)
 case atStart=>
  refine⟨s0,[],?_,Nat.le_refl _,hS0,h0⟩
  show _∨_
  by_cases hs:s0=[]
  ·exact .inl ⟨hs,by unfold dQ;rw[if_pos hs]⟩
  ·exact .inr ⟨hs,hs,rfl⟩
 case round=>
  obtain⟨r,pre,HW,hrl,hS,hJ⟩:=hrel;have c0:=hS.cell 0;have f0:=hS.frozen 0;simp only[List.getElem?_toArray,List.getElem?_cons_zero]at c0
  by_cases hr:r=[]
  ·have g1:((nbs r).toList == ([]:List UInt8))=true:=by rw[oM,hr];rfl
   have g2:((nbs r).toList == (ByteArray.mk #[]).toList)=true:=by rw[lT,hr];rfl
   have HX:Hid (pre=dQ s0):=by
    rcases HW.out with h|h
    ·exact h.2.symm
    ·exact absurd hr h.1
   clear HW hr
   gi_wp2_with fail
   go_end0
   exact⟨⟨_,rfl⟩,pre,HX.out,hJ⟩
  ·have g1:((nbs r).toList == ([]:List UInt8))=false:=by rw[oM];cases r with|nil=>exact absurd rfl hr|cons b t=>rfl
   have g2:((nbs r).toList == (ByteArray.mk #[]).toList)=false:=by rw[lT];cases r with|nil=>exact absurd rfl hr|cons b t=>rfl
   have HX:Hid (s0≠[]∧bK s0=pre++bK r):=by
    rcases HW.out with h|h
    ·exact absurd h.1 hr
    ·exact h.2
   have HR0:=Lib.hid hr;clear HW hr
   gi_wp2_with fail
   clear g1 g2;refine cin ((aCy r (by omega) wr).mono ?_)
   rintro e w1 ⟨rfl,hk⟩;have hS1:=hS.below hk hS.lt;have hJ1:=hJX pre wr w1 hJ ⟨hk.os,hk.tape,hk.output,hk.size,fun k hk' _=>hk.block k hk'⟩
   have HBL:Hid (tB wr sb=r.length):=mS hS;clear hS hJ hk c0 f0;have HLN:=Lib.hid (vC r);cases hct:(dA r).2.2 with
   |false=>
    obtain⟨hc1,hc2⟩:=oL r hct;rw[hc1];have hlen:pre.length<s0.length+1:=by
     have h1:=congrArg List.length HX.out.2;rw[hc2]at h1;simp at h1;omega
    have HY1:=hY pre r w1 hJ1 hlen;obtain⟨fn,tmps,assign,body,hy,hR⟩:=HY1;have HR:=Lib.hid hR;have HC2:=Lib.hid hc2;clear hR hc1 hc2 hct hlen HLN
    gi_wp2_with fail
    refine HR.out.mono ?_
    rintro e W3 ⟨rfl,hJ3,hK3⟩;have hS3:BK W3 sb 9 #[.string (nbs r)]:=hS1.same hK3;have c3:=hS3.cell 0;have f3:=hS3.frozen 0;simp only[List.getElem?_toArray,List.getElem?_cons_zero]at c3
    clear hy HR hJ1 hS1 hK3
    gi_wp2_with fail
    go_roundw
    case rel=>
     refine⟨[],pre++[r],.inl ⟨rfl,?_⟩,by simp,hS3.set_ 0 _,hJX _ _ _ hJ3 (bH _ _ _)⟩
     unfold dQ;rw[if_neg HX.out.1,HX.out.2,HC2.out]
    case measure=>
     rw[HBL.out,mS (hS3.set_ 0 (.string (nbs [])))];have:=HR0.out;cases r with
     |nil=>exact absurd rfl this
     |cons b t=>simp
   |true=>
    obtain⟨hc1,hc2,-⟩:=lS r hct;have HC1:=Lib.hid (congrArg List.length hc1);have HC2:=Lib.hid hc2;clear hc1 hc2 hct;have hl0:(pre++bK r).length≤s0.length+1:=by rw[←HX.out.2];exact hSL
    rw[HC2.out]at hl0
    generalize (dA r).1=x at *
    generalize (dA r).2.1=y at *
    have hpy:1≤(bK y).length:=List.length_pos_iff.2 (aAe y);simp only[List.length_append,List.length_cons]at hl0;have HY1:=hY pre x w1 hJ1 (by omega)
    obtain⟨fn,tmps,assign,body,hy,hR⟩:=HY1;have HR:=Lib.hid hR;clear hR;by_cases hye:y=[]
    ·have gy1:((nbs y).toList == ([]:List UInt8))=true:=by rw[oM,hye];rfl
     have gy2:((nbs y).toList == (ByteArray.mk #[]).toList)=true:=by rw[lT,hye];rfl
     have HYE:=Lib.hid hye;have hN2:(pre++[x]).length<s0.length+1:=by simp;omega
     clear hye
     gi_wp2_with fail
     clear gy1 gy2;refine HR.out.mono ?_
     rintro e W3 ⟨rfl,hJ3,hK3⟩;have HY2:=hY (pre++[x]) [] W3 hJ3 hN2;clear hy HR hJ1 hS1 hK3;obtain⟨fn2,tmps2,assign2,body2,hy2,hR2⟩:=HY2;have HR2:=Lib.hid hR2
     replace hy2:(Instr.yield l #[.string (ByteArray.mk #[])]).run Tryz.prog W3 = .ok (.round l fn2 tmps2 assign2 body2) W3:=hy2
     clear hR2 hJ3
     gi_wp2_with fail
     refine HR2.out.mono ?_
     rintro e W4 ⟨rfl,hJ4,hK4⟩;clear hy2 HR2
     gi_wp2_with fail
     refine bodyPost_ret (results_none rfl _ _ _) rfl ⟨⟨_,rfl⟩,pre++[x]++[[]],?_,hJ4⟩
     unfold dQ;rw[if_neg HX.out.1,HX.out.2,HC2.out,HYE.out];simp[bK]
    ·have gy1:((nbs y).toList == ([]:List UInt8))=false:=by rw[oM];cases y with|nil=>exact absurd rfl hye|cons b t=>rfl
     have gy2:((nbs y).toList == (ByteArray.mk #[]).toList)=false:=by rw[lT];cases y with|nil=>exact absurd rfl hye|cons b t=>rfl
     have HYE:=Lib.hid hye;clear hye
     gi_wp2_with fail
     clear gy1 gy2;refine HR.out.mono ?_
     rintro e W3 ⟨rfl,hJ3,hK3⟩;have hS3:BK W3 sb 9 #[.string (nbs r)]:=hS1.same hK3;have c3:=hS3.cell 0;have f3:=hS3.frozen 0;simp only[List.getElem?_toArray,List.getElem?_cons_zero]at c3
     clear hy HR hJ1 hS1 hK3
     gi_wp2_with fail
     go_roundw
     case rel=>
      refine⟨y,pre++[x],.inr ⟨HYE.out,HX.out.1,?_⟩,by have:=HLN.out;omega,hS3.set_ 0 _,hJX _ _ _ hJ3 (bH _ _ _)⟩
      rw[HX.out.2,HC2.out];simp
     case measure=>
      rw[HBL.out,mS (hS3.set_ 0 (.string (nbs y)))];have:=HC1.out;simp at this;omega
end Go.Proofs.YtjlkeoppppfeiaaGreat
namespace Go.Proofs.YtjlkeoppppfeiaaGreat
open Go.RowKit Go.Shelf Go.Sort Go.Proofs
set_option maxRecDepth 100000 in
theorem xS (n:Nat) (b0 b1:Nat) (w:World) :
  CallsDIn Fence.wide n Tryz.prog 184 #[.pointer (some ⟨b0,0,none⟩),.pointer (some ⟨b1,0,none⟩)] .returning w fun e u' w'=>e = .returned (.tuple #[])∧u' = .returning∧w'=w:=by
 refine callsDIn_of_wpSIn Tryz.func184 rfl trivial fun c₀ cs hu=>?_
 simp only[Tryz.ntmps184,List.size_toArray,List.length_cons,List.length_nil,Nat.reduceAdd,Nat.reduceSub,Array.replicate_succ,Array.replicate_zero,List.push_toArray,List.append_toArray,List.nil_append,List.cons_append];apply wpSIn_seq
 apply wpSIn_region
 simp[wpOpsSIn,go_sem,recoverD,hu,Exit.thenS];refine wpSIn_of_wpIn rfl ?_
 gi_wp2_with fail
 cases c₀
 simp_all [bodyPostS,results,Tryz.results184]
theorem aA4 (v:Value) (w:World):(Instr.typeAssert (.iface 295 v) 20 295 true).run Tryz.prog w = .ok (.tuple #[v,.bool true]) w:=by kernel_rfl
set_option maxRecDepth 100000 in
set_option maxHeartbeats 4000000 in
theorem tD (n:Nat) (b0 b1:Nat) (v0 v1:Value) (older:List PanicEntry) (w:World) (h0:BK w b0 42 #[v0]) (h1:BK w b1 36 #[v1]) (hne:b0≠b1) :
  CallsDIn Fence.wide n Tryz.prog 184 #[.pointer (some ⟨b0,0,none⟩),.pointer (some ⟨b1,0,none⟩)] (.panicking ({ v:=.iface 295 (.agg #[.int .i64 3]),recovered:=false }::older)) w fun e u' w'=>
   e = .returned (.tuple #[])∧u' = .panicking ({ v:=.iface 295 (.agg #[.int .i64 3]),recovered:=true }::older)∧BK w' b0 42 #[.slice none 0 0]∧BK w' b1 36 #[.int .i64 3] ∧
    (∀m,m≤b0→m≤b1→m≤w.heap.size→Below m w w')∧(∀k,k≠b0→k≠b1→k<w.heap.size→w'.heap[k]?=w.heap[k]?):=by
 refine callsDIn_of_wpSIn Tryz.func184 rfl trivial fun c₀ cs hu=>?_
 have hmo:Tryz.prog.follows .mixedOrders=true:=by kernel_rfl
 simp only[Tryz.ntmps184,List.size_toArray,List.length_cons,List.length_nil,Nat.reduceAdd,Nat.reduceSub,Array.replicate_succ,Array.replicate_zero,List.push_toArray,List.append_toArray,List.nil_append,List.cons_append];apply wpSIn_seq
 apply wpSIn_region
 simp[wpOpsSIn,go_sem,recoverD,hu,Exit.thenS];have hta:=aA4;refine wpSIn_of_wpIn rfl ?_
 gi_wp2_with fail
 have c0:=h0.cell 0;have f0:=h0.frozen 0;have c1:=h1.cell 0;have f1:=h1.frozen 0;have hl0:=h0.lt;have hl1:=h1.lt;simp only[List.getElem?_toArray,List.getElem?_cons_zero]at c0 c1
 gi_region
 all_goals gi_wp2_with fail
 have hA:BK (((w.setCell ⟨b0,0,none⟩ (.slice none 0 0)).setCell ⟨b1,0,none⟩ (.int .i64 3)).alloc (.cells #[.int .i64 3] 295)).drew b0 42 #[.slice none 0 0]:=(((h0.set_ 0 _).far (p:=⟨b1,0,none⟩) hne _).alloc _).drew;have hB:BK (((w.setCell ⟨b0,0,none⟩ (.slice none 0 0)).setCell ⟨b1,0,none⟩ (.int .i64 3)).alloc (.cells #[.int .i64 3] 295)).drew b1 36 #[.int .i64 3]:=(((h1.far (p:=⟨b0,0,none⟩) (Ne.symm hne) _).set_ 0 _).alloc _).drew;refine⟨rfl,_,rfl,.tuple #[],by simp[results,Tryz.results184,go_sem],rfl,rfl,hA,hB,fun m m0 m1 mw=>?_,fun k k0 k1 kw=>?_⟩
 ·exact((((Below.refl m w).setCell (p:=⟨b0,0,none⟩) m0 _).setCell (p:=⟨b1,0,none⟩) m1 _).alloc (by simpa using mw) _).drew
 ·exact(Below.heap_alloc _ _ _ (by simpa using kw)).trans ((Below.heap_setCell _ _ _ k (by simpa using k1)).trans (Below.heap_setCell _ _ _ k (by simpa using k0)))
end Go.Proofs.YtjlkeoppppfeiaaGreat
