/- Lemmas. -/
import Derived.Test.YtjlkeoppppfeiaaGreatQAppS
import Derived.Lib.AppendZeros
namespace Go.Proofs.YtjlkeoppppfeiaaGreat
open Go.RowKit Go.Shelf Go.Sort Go.Proofs
theorem OW.empty {α:Type} {f:α→List Value} {sz:Nat} {e:TypeId} {base:Nat} {w:World} {N c:Nat} {cur:Array Value} (hb:BK w N e cur) (hN:base≤N) (hc:cur.size=c*sz) (hm:c≤maxLen):OW f sz e base w (some ⟨N,0,none⟩) 0 c ([]:List α):=
 ⟨⟨by simp,.inr ⟨N,c,cur,rfl,hN,hb,Nat.zero_le _,hm,hc,by simp⟩⟩,rfl⟩
set_option maxRecDepth 100000 in
set_option maxHeartbeats 2000000 in
theorem aAH (m:Nat) (w:World) (hm:m≤1000000) :
  Calls Tryz.prog 187 #[.slice none 0 0,.int .i64 m] w fun e w'=>∃A c,e = .returned (.slice A 0 c)∧OW cC 2 52 w.heap.size w' A 0 c []∧Below w.heap.size w w':=by
 have hw1:IntKind.i64.wrap ((m:Int)-0)=(m:Int):=IntWalk.i64_in _ (by omega)
 have hw2:IntKind.i64.wrap ((0:Int)-0)=0:=rfl;by_cases h0:m=0
 ·subst h0
  clear hw1;go_enter Tryz.func187,Tryz.ntmps187
  go_wp2_with fail
  go_ret
  exact⟨_,_,rfl,OW.nil_,Below.refl _ _⟩
 ·have hm0:0<m:=by omega
  have hmi:(0:Int)<(m:Int):=by omega
  have hmn:¬((m:Int)<0):=by omega
  obtain⟨i,hi',hz,hsize,hbytes'⟩:=info_parts uD;have hrun:=Lib.run_append_nil_zeros w 23 3 23 52 i (.agg #[.int .i64 0,.int .i64 0]) .i64 .i64 Tryz.underlying23 Tryz.underlying3 hi' hz m hm0 (by rw[hsize];decide) (by omega) (by rw[hbytes'];omega)
  obtain⟨G,hG⟩ : ∃G,G=grownCap w m 0 52:=⟨_,rfl⟩
  obtain⟨cur,hcur⟩ : ∃cur,cur=Builtin.zeroCells (Value.cells (.agg #[.int .i64 0,.int .i64 0])) m++Builtin.zeroCells (Value.cells (.agg #[.int .i64 0,.int .i64 0])) (grownCap w m 0 52-m):=⟨_,rfl⟩
  have hge:=grownCap_ge w m 0 52;have hle:=grownCap_le_maxLen w m 0 52 (by unfold maxLen;omega)
  have hcs:cur.size=G*2:=by
   rw[hcur,Array.size_append,size_zeroCells,size_zeroCells,hG];show m*2+(grownCap w m 0 52-m)*2=_
   omega
  rw[←hcur,←hG]at hrun;rw[←hG]at hge hle;have HH:=Lib.hid (And.intro hcs hle);clear hcur hG hcs hz hsize hbytes' hi' hle h0;obtain⟨w',hw'⟩ : ∃w',w'=w.drew.alloc (.cells cur 52):=⟨_,rfl⟩
  have hb:BK w' w.heap.size 52 cur:=by rw[hw'];exact BK.new w.drew _ _
  have hbel:Below w.heap.size w w':=by rw[hw'];exact(Below.refl w.heap.size w).drew.alloc (Nat.le_refl _) _
  rw[←hw']at hrun;clear hw';have HRUN:=Lib.hid hrun;clear hrun;have hgi:(m:Int)≤(G:Int):=by omega
  go_enter Tryz.func187,Tryz.ntmps187
  go_wp2_with(at_builtin;refine Lib.wpList_append_run _ rfl _ _ _ _ rfl _ _ rfl rfl _ _ HRUN.out ?_)
  go_ret
  exact⟨_,_,rfl,OW.empty hb (Nat.le_refl _) HH.out.1 HH.out.2,hbel⟩
set_option maxRecDepth 100000 in
set_option maxHeartbeats 4000000 in
theorem uK (b off:Nat) (q:Nat) (A1:Option Addr) (n1 c1:Nat) (xs:List Crest) (A2:Option Addr) (n2 c2:Nat) (ys:List Crest) (w:World) (hb:b<w.heap.size) (h0:w.cell? ⟨b,off,none⟩=some (.slice A1 n1 c1)) (h1:w.cell? ⟨b,off+1,none⟩=some (.slice A2 n2 c2))
  (hx:SL cC 2 w w.heap.size A1 n1 xs) (hy:SL cC 2 w w.heap.size A2 n2 ys) (hn1:n1≤100000) (hn2:n2≤100000) :
  Calls Tryz.prog 123 #[.slice (some ⟨b,off,none⟩) 2 q] w fun e w'=>∃A c,e = .returned (.slice A (n1+n2) c)∧OW cC 2 52 w.heap.size w' A (n1+n2) c (xs++ys)∧Below w.heap.size w w':=by
 have hX:=Lib.hid hx;have hY:=Lib.hid hy;clear hx hy;go_enter Tryz.func123,Tryz.ntmps123
 go_wp2_with fail
 go_loopw [3,11] (fun s i wr=>((i = .int .i64 0∧s = .int .i64 0)∨(i = .int .i64 1∧s = .int .i64 n1)∨(i = .int .i64 2∧s = .int .i64 (n1+n2)))∧wr=w)
  (fun _ i _=>2-(intOf i).toNat)
 case atStart=>exact⟨.inl ⟨rfl,rfl⟩,rfl⟩
 case round=>
  obtain⟨hor,rfl⟩:=hrel;rcases hor with⟨rfl,rfl⟩|⟨rfl,rfl⟩|⟨rfl,rfl⟩
  ·have hw1:IntKind.i64.wrap (n1:Int)=(n1:Int):=IntWalk.i64_in _ (by omega)
   have hng:¬((n1:Int)<0):=by omega
   go_wp2_with fail
   go_roundw
   case rel=>exact⟨.inr (.inl ⟨rfl,rfl⟩),by first|rfl|trivial⟩
   case measure=>simp[intOf]
  ·have hw1:IntKind.i64.wrap ((n1:Int)+(n2:Int))=(n1:Int)+(n2:Int):=IntWalk.i64_in _ (by omega)
   have hng:¬((n1:Int)+(n2:Int)<0):=by omega
   go_wp2_with fail
   go_roundw
   case rel=>exact⟨.inr (.inr ⟨rfl,rfl⟩),by first|rfl|trivial⟩
   case measure=>simp[intOf]
  ·go_wp2_with fail
   have hg:=aAH (n1+n2) wr (by omega)
   rw[show ((n1+n2:Nat):Int)=(n1:Int)+(n2:Int) by omega]at hg
   refine hg.mono ?_
   rintro e w1 ⟨A,c,rfl,ho,hb1⟩;have d0:=(bc hb1 hb).trans h0;have d1:=(bc hb1 hb).trans h1;have HO:=Lib.hid ho;have hz1:=hb1.size;clear hg ho;obtain⟨w0,rfl⟩ : ∃w0:World,w0=wr:=⟨_,rfl⟩
   clear h0 h1;go_wp2_with fail
   go_loopw [6,27] (fun s i wv=>(∃A c,(i = .int .i64 0∧s = .slice A 0 c∧OW cC 2 52 w0.heap.size wv A 0 c [])∨(i = .int .i64 1∧s = .slice A n1 c∧OW cC 2 52 w0.heap.size wv A n1 c xs)∨(i = .int .i64 2∧s = .slice A (n1+n2) c∧OW cC 2 52 w0.heap.size wv A (n1+n2) c (xs++ys)))∧Below w0.heap.size w0 wv∧w1.heap.size≤wv.heap.size)
    (fun _ i _=>2-(intOf i).toNat)
   case atStart=>exact⟨⟨A,c,.inl ⟨rfl,rfl,HO.out⟩⟩,hb1,Nat.le_refl _⟩
   case round=>
    obtain⟨⟨A,c,hor⟩,hbv,hzv⟩:=hrel;have e0:=(bc hbv hb).trans ((bc hb1 hb).symm.trans d0);have e1:=(bc hbv hb).trans ((bc hb1 hb).symm.trans d1);clear d0 d1 HO;rcases hor with⟨rfl,rfl,ho⟩|⟨rfl,rfl,ho⟩|⟨rfl,rfl,ho⟩
    ·go_wp2_with(at_builtin;refine dR rfl _ _ 23 rfl w0.heap.size 52 _ 2 16 Tryz.underlying23 uD rfl (by decide) cC _ 0 _ [] rfl ho w0.heap.size A1 n1 c1 xs rfl (hX.out.below hbv) aZ aCT (by omega) (by omega) (by omega) ?_;intro A' c' w2 hap;have HAP:=Lib.hid hap;clear hap)
     go_roundw
     case rel=>
      have hap:=HAP.out;have h1:=hap.own;rw[List.nil_append,Nat.zero_add]at h1;exact⟨⟨_,_,.inr (.inl ⟨rfl,rfl,h1⟩)⟩,hbv.trans hap.bel,by have:=hap.size;omega⟩
     case measure=>simp[intOf]
    ·go_wp2_with(at_builtin;refine dR rfl _ _ 23 rfl w0.heap.size 52 _ 2 16 Tryz.underlying23 uD rfl (by decide) cC _ n1 _ xs rfl ho w0.heap.size A2 n2 c2 ys rfl (hY.out.below hbv) aZ aCT (by omega) (by omega) (by omega) ?_;intro A' c' w2 hap;have HAP:=Lib.hid hap;clear hap)
     go_roundw
     case rel=>
      have hap:=HAP.out;exact⟨⟨_,_,.inr (.inr ⟨rfl,rfl,hap.own⟩)⟩,hbv.trans hap.bel,by have:=hap.size;omega⟩
     case measure=>simp[intOf]
    ·have HO:=Lib.hid ho
     clear ho;go_wp2_with fail
     go_ret
     exact⟨_,_,rfl,HO.out,hbv⟩
set_option maxRecDepth 100000 in
set_option maxHeartbeats 2000000 in
theorem aAI (m:Nat) (w:World) (hm:m≤1000000) :
  Calls Tryz.prog 189 #[.slice none 0 0,.int .i64 m] w fun e w'=>∃A c,e = .returned (.slice A 0 c)∧OW jC 3 54 w.heap.size w' A 0 c []∧Below w.heap.size w w':=by
 have hw1:IntKind.i64.wrap ((m:Int)-0)=(m:Int):=IntWalk.i64_in _ (by omega)
 have hw2:IntKind.i64.wrap ((0:Int)-0)=0:=rfl;by_cases h0:m=0
 ·subst h0
  clear hw1;go_enter Tryz.func189,Tryz.ntmps189
  go_wp2_with fail
  go_ret
  exact⟨_,_,rfl,OW.nil_,Below.refl _ _⟩
 ·have hm0:0<m:=by omega
  have hmi:(0:Int)<(m:Int):=by omega
  have hmn:¬((m:Int)<0):=by omega
  obtain⟨i,hi',hz,hsize,hbytes'⟩:=info_parts uE;have hrun:=Lib.run_append_nil_zeros w 24 3 24 54 i (.agg #[.int .i64 0,.int .i64 0,.int .i64 0]) .i64 .i64 Tryz.underlying24 Tryz.underlying3 hi' hz m hm0 (by rw[hsize];decide) (by omega) (by rw[hbytes'];omega)
  obtain⟨G,hG⟩ : ∃G,G=grownCap w m 0 54:=⟨_,rfl⟩
  obtain⟨cur,hcur⟩ : ∃cur,cur=Builtin.zeroCells (Value.cells (.agg #[.int .i64 0,.int .i64 0,.int .i64 0])) m++Builtin.zeroCells (Value.cells (.agg #[.int .i64 0,.int .i64 0,.int .i64 0])) (grownCap w m 0 54-m):=⟨_,rfl⟩
  have hge:=grownCap_ge w m 0 54;have hle:=grownCap_le_maxLen w m 0 54 (by unfold maxLen;omega)
  have hcs:cur.size=G*3:=by
   rw[hcur,Array.size_append,size_zeroCells,size_zeroCells,hG];show m*3+(grownCap w m 0 54-m)*3=_
   omega
  rw[←hcur,←hG]at hrun;rw[←hG]at hge hle;have HH:=Lib.hid (And.intro hcs hle);clear hcur hG hcs hz hsize hbytes' hi' hle h0;obtain⟨w',hw'⟩ : ∃w',w'=w.drew.alloc (.cells cur 54):=⟨_,rfl⟩
  have hb:BK w' w.heap.size 54 cur:=by rw[hw'];exact BK.new w.drew _ _
  have hbel:Below w.heap.size w w':=by rw[hw'];exact(Below.refl w.heap.size w).drew.alloc (Nat.le_refl _) _
  rw[←hw']at hrun;clear hw';have HRUN:=Lib.hid hrun;clear hrun;have hgi:(m:Int)≤(G:Int):=by omega
  go_enter Tryz.func189,Tryz.ntmps189
  go_wp2_with(at_builtin;refine Lib.wpList_append_run _ rfl _ _ _ _ rfl _ _ rfl rfl _ _ HRUN.out ?_)
  go_ret
  exact⟨_,_,rfl,OW.empty hb (Nat.le_refl _) HH.out.1 HH.out.2,hbel⟩
set_option maxRecDepth 100000 in
set_option maxHeartbeats 4000000 in
theorem uL (b off:Nat) (q:Nat) (A1:Option Addr) (n1 c1:Nat) (xs:List Junc) (A2:Option Addr) (n2 c2:Nat) (ys:List Junc) (w:World) (hb:b<w.heap.size) (h0:w.cell? ⟨b,off,none⟩=some (.slice A1 n1 c1)) (h1:w.cell? ⟨b,off+1,none⟩=some (.slice A2 n2 c2))
  (hx:SL jC 3 w w.heap.size A1 n1 xs) (hy:SL jC 3 w w.heap.size A2 n2 ys) (hn1:n1≤100000) (hn2:n2≤100000) :
  Calls Tryz.prog 127 #[.slice (some ⟨b,off,none⟩) 2 q] w fun e w'=>∃A c,e = .returned (.slice A (n1+n2) c)∧OW jC 3 54 w.heap.size w' A (n1+n2) c (xs++ys)∧Below w.heap.size w w':=by
 have hX:=Lib.hid hx;have hY:=Lib.hid hy;clear hx hy;go_enter Tryz.func127,Tryz.ntmps127
 go_wp2_with fail
 go_loopw [3,11] (fun s i wr=>((i = .int .i64 0∧s = .int .i64 0)∨(i = .int .i64 1∧s = .int .i64 n1)∨(i = .int .i64 2∧s = .int .i64 (n1+n2)))∧wr=w)
  (fun _ i _=>2-(intOf i).toNat)
 case atStart=>exact⟨.inl ⟨rfl,rfl⟩,rfl⟩
 case round=>
  obtain⟨hor,rfl⟩:=hrel;rcases hor with⟨rfl,rfl⟩|⟨rfl,rfl⟩|⟨rfl,rfl⟩
  ·have hw1:IntKind.i64.wrap (n1:Int)=(n1:Int):=IntWalk.i64_in _ (by omega)
   have hng:¬((n1:Int)<0):=by omega
   go_wp2_with fail
   go_roundw
   case rel=>exact⟨.inr (.inl ⟨rfl,rfl⟩),by first|rfl|trivial⟩
   case measure=>simp[intOf]
  ·have hw1:IntKind.i64.wrap ((n1:Int)+(n2:Int))=(n1:Int)+(n2:Int):=IntWalk.i64_in _ (by omega)
   have hng:¬((n1:Int)+(n2:Int)<0):=by omega
   go_wp2_with fail
   go_roundw
   case rel=>exact⟨.inr (.inr ⟨rfl,rfl⟩),by first|rfl|trivial⟩
   case measure=>simp[intOf]
  ·go_wp2_with fail
   have hg:=aAI (n1+n2) wr (by omega)
   rw[show ((n1+n2:Nat):Int)=(n1:Int)+(n2:Int) by omega]at hg
   refine hg.mono ?_
   rintro e w1 ⟨A,c,rfl,ho,hb1⟩;have d0:=(bc hb1 hb).trans h0;have d1:=(bc hb1 hb).trans h1;have HO:=Lib.hid ho;have hz1:=hb1.size;clear hg ho;obtain⟨w0,rfl⟩ : ∃w0:World,w0=wr:=⟨_,rfl⟩
   clear h0 h1;go_wp2_with fail
   go_loopw [6,27] (fun s i wv=>(∃A c,(i = .int .i64 0∧s = .slice A 0 c∧OW jC 3 54 w0.heap.size wv A 0 c [])∨(i = .int .i64 1∧s = .slice A n1 c∧OW jC 3 54 w0.heap.size wv A n1 c xs)∨(i = .int .i64 2∧s = .slice A (n1+n2) c∧OW jC 3 54 w0.heap.size wv A (n1+n2) c (xs++ys)))∧Below w0.heap.size w0 wv∧w1.heap.size≤wv.heap.size)
    (fun _ i _=>2-(intOf i).toNat)
   case atStart=>exact⟨⟨A,c,.inl ⟨rfl,rfl,HO.out⟩⟩,hb1,Nat.le_refl _⟩
   case round=>
    obtain⟨⟨A,c,hor⟩,hbv,hzv⟩:=hrel;have e0:=(bc hbv hb).trans ((bc hb1 hb).symm.trans d0);have e1:=(bc hbv hb).trans ((bc hb1 hb).symm.trans d1);clear d0 d1 HO;rcases hor with⟨rfl,rfl,ho⟩|⟨rfl,rfl,ho⟩|⟨rfl,rfl,ho⟩
    ·go_wp2_with(at_builtin;refine dR rfl _ _ 24 rfl w0.heap.size 54 _ 3 24 Tryz.underlying24 uE rfl (by decide) jC _ 0 _ [] rfl ho w0.heap.size A1 n1 c1 xs rfl (hX.out.below hbv) aV aCU (by omega) (by omega) (by omega) ?_;intro A' c' w2 hap;have HAP:=Lib.hid hap;clear hap)
     go_roundw
     case rel=>
      have hap:=HAP.out;have h1:=hap.own;rw[List.nil_append,Nat.zero_add]at h1;exact⟨⟨_,_,.inr (.inl ⟨rfl,rfl,h1⟩)⟩,hbv.trans hap.bel,by have:=hap.size;omega⟩
     case measure=>simp[intOf]
    ·go_wp2_with(at_builtin;refine dR rfl _ _ 24 rfl w0.heap.size 54 _ 3 24 Tryz.underlying24 uE rfl (by decide) jC _ n1 _ xs rfl ho w0.heap.size A2 n2 c2 ys rfl (hY.out.below hbv) aV aCU (by omega) (by omega) (by omega) ?_;intro A' c' w2 hap;have HAP:=Lib.hid hap;clear hap)
     go_roundw
     case rel=>
      have hap:=HAP.out;exact⟨⟨_,_,.inr (.inr ⟨rfl,rfl,hap.own⟩)⟩,hbv.trans hap.bel,by have:=hap.size;omega⟩
     case measure=>simp[intOf]
    ·have HO:=Lib.hid ho
     clear ho;go_wp2_with fail
     go_ret
     exact⟨_,_,rfl,HO.out,hbv⟩
end Go.Proofs.YtjlkeoppppfeiaaGreat
