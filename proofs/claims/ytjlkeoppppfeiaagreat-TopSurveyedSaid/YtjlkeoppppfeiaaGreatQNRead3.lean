/- Lemmas. -/
import Derived.Test.YtjlkeoppppfeiaaGreatQReadP
import Derived.Test.YtjlkeoppppfeiaaGreatQNoteV
namespace Go.Proofs.YtjlkeoppppfeiaaGreat
open Go.RowKit Go.Shelf Go.Sort Go.Proofs
theorem BK.grownBy {w w':World} {b:Nat} {t:TypeId} {cs:Array Value} {row:Option Nat} (h:BK w b t cs) (hg:w.grownBy w' row) (hne:some b≠row):BK w' b t cs:=(hg.block b h.lt hne).trans h
theorem aF {fn:Func} {t:Nat} (hr:fn.results=#[.cell t 118]) (tm:Array Value) (w:World) (b:Nat) (cs:Array Value) (hsz:cs.size=10) (ht:tm[t]?=some (.pointer (some ⟨b,0,none⟩))) (hb:BK w b 118 cs) :
  (results fn tm).run Tryz.prog w = .ok (.agg cs) w:=by
 obtain⟨l⟩:=cs
 match l,hsz with
 | [c0,c1,c2,c3,c4,c5,c6,c7,c8,c9],_=>
 have x0:=hb.cell 0;have x1:=hb.cell 1;have x2:=hb.cell 2;have x3:=hb.cell 3;have x4:=hb.cell 4;have x5:=hb.cell 5;have x6:=hb.cell 6;have x7:=hb.cell 7;have x8:=hb.cell 8;have x9:=hb.cell 9;simp only[List.getElem?_toArray,List.getElem?_cons_zero,List.getElem?_cons_succ]at x0 x1 x2 x3 x4 x5 x6 x7 x8 x9
 simp[results,hr,ht,go_sem,Tryz.isAgg118,Tryz.sizeOf118,x0,x1,x2,x3,x4,x5,x6,x7,x8,x9]
section
variable {w w0:World} {b B:Nat} {t:TypeId} {cs:Array Value} {c0 c1 c2 c3 c4 c5 c6 c7 c8 c9:Value}
theorem BK.set10 (h:BK w b t cs) (hsz:cs.size=10):BK ((((((((((w.setCell ⟨b,0,none⟩ c0).setCell ⟨b,1,none⟩ c1).setCell ⟨b,2,none⟩ c2).setCell ⟨b,3,none⟩ c3).setCell ⟨b,4,none⟩ c4).setCell ⟨b,5,none⟩ c5).setCell ⟨b,6,none⟩ c6).setCell ⟨b,7,none⟩ c7).setCell ⟨b,8,none⟩ c8).setCell ⟨b,9,none⟩ c9) b t #[c0,c1,c2,c3,c4,c5,c6,c7,c8,c9]:=by
 obtain⟨l⟩:=cs
 match l,hsz with
 | [y0,y1,y2,y3,y4,y5,y6,y7,y8,y9],_=>
 have:=(((((((((h.set_ 0 c0).set_ 1 c1).set_ 2 c2).set_ 3 c3).set_ 4 c4).set_ 5 c5).set_ 6 c6).set_ 7 c7).set_ 8 c8).set_ 9 c9;simpa using this
theorem bH (w:World) (a:Addr) (u:Value):w.grownBy (w.setCell a u) (some a.block):=⟨rfl,rfl,rfl,by simp,fun k _ hne=>Below.heap_setCell w a u k (by simpa using hne)⟩
theorem aI (w:World) (b:Nat):w.grownBy ((((((((((w.setCell ⟨b,0,none⟩ c0).setCell ⟨b,1,none⟩ c1).setCell ⟨b,2,none⟩ c2).setCell ⟨b,3,none⟩ c3).setCell ⟨b,4,none⟩ c4).setCell ⟨b,5,none⟩ c5).setCell ⟨b,6,none⟩ c6).setCell ⟨b,7,none⟩ c7).setCell ⟨b,8,none⟩ c8).setCell ⟨b,9,none⟩ c9) (some b):=
 (((((((((bH w ⟨b,0,none⟩ c0).trans (bH _ ⟨b,1,none⟩ c1)).trans (bH _ ⟨b,2,none⟩ c2)).trans (bH _ ⟨b,3,none⟩ c3)).trans (bH _ ⟨b,4,none⟩ c4)).trans (bH _ ⟨b,5,none⟩ c5)).trans (bH _ ⟨b,6,none⟩ c6)).trans (bH _ ⟨b,7,none⟩ c7)).trans (bH _ ⟨b,8,none⟩ c8)).trans (bH _ ⟨b,9,none⟩ c9)
theorem bM (h:Below B w0 w) (hb:B≤b):Below B w0 ((((((((((w.setCell ⟨b,0,none⟩ c0).setCell ⟨b,1,none⟩ c1).setCell ⟨b,2,none⟩ c2).setCell ⟨b,3,none⟩ c3).setCell ⟨b,4,none⟩ c4).setCell ⟨b,5,none⟩ c5).setCell ⟨b,6,none⟩ c6).setCell ⟨b,7,none⟩ c7).setCell ⟨b,8,none⟩ c8).setCell ⟨b,9,none⟩ c9):=
 (((((((((h.setCell (p:=⟨b,0,none⟩) hb c0).setCell (p:=⟨b,1,none⟩) hb c1).setCell (p:=⟨b,2,none⟩) hb c2).setCell (p:=⟨b,3,none⟩) hb c3).setCell (p:=⟨b,4,none⟩) hb c4).setCell (p:=⟨b,5,none⟩) hb c5).setCell (p:=⟨b,6,none⟩) hb c6).setCell (p:=⟨b,7,none⟩) hb c7).setCell (p:=⟨b,8,none⟩) hb c8).setCell (p:=⟨b,9,none⟩) hb c9
theorem aE {g:Nat} {w':World} (h:w0.grownBy w (some g)) (k:w.grownBy w' (some b)) (hb:w0.heap.size≤b):w0.grownBy w' (some g):=
 ⟨k.os.trans h.os,k.tape.trans h.tape,k.output.trans h.output,Nat.le_trans h.size k.size,fun i hi hne=>(k.block i (Nat.lt_of_lt_of_le hi h.size) (by simp;omega)).trans (h.block i hi hne)⟩
end
theorem vA (b:UInt8) (t:Wd) (w:World):(Instr.slice 9 (.string (nbs (b::t))) (some (.int .i64 1)) none none).run Tryz.prog w = .ok (.string (nbs t)) w:=by
 have h1:(1:Int)≤((nbs (b::t)).size:Int):=by rw[cS];simp;omega
 rw[run_slice_string_l (w:=w) 9 (nbs (b::t)) Tryz.underlying9 .i64 1 (by omega) h1]
 refine congrArg (fun s=>Result.ok (Value.string s) w) (ByteArray.ext ?_)
 rw[ByteArray.data_extract,cS];apply Array.ext'
 simp[nbs]
theorem aCu (g:Nat) (s:ByteArray) (w:World):Calls Tryz.prog 235 #[.pointer (some ⟨g,0,none⟩),.string s] w fun e w'=>e = .returned (nA ⟨3,0,0,0,0,0,0,0,0,0⟩)∧Below w.heap.size w w':=by
 go_enter Tryz.func235,Tryz.ntmps235
 go_wp2_with fail
 exact bodyPost_ret (aF (t:=4) rfl _ _ _ _ rfl rfl (BK.new _ _ _)) rfl ⟨rfl,(Below.refl _ _).alloc (Nat.le_refl _) _⟩
theorem aDo (g:Nat) (s:ByteArray) (w:World):Calls Tryz.prog 236 #[.pointer (some ⟨g,0,none⟩),.string s] w fun e w'=>e = .returned (nA ⟨4,0,0,0,0,0,0,0,0,0⟩)∧Below w.heap.size w w':=by
 go_enter Tryz.func236,Tryz.ntmps236
 go_wp2_with fail
 exact bodyPost_ret (aF (t:=4) rfl _ _ _ _ rfl rfl (BK.new _ _ _)) rfl ⟨rfl,(Below.refl _ _).alloc (Nat.le_refl _) _⟩
theorem sZ (g:Nat) (t:Wd) (w:World):Calls Tryz.prog 238 #[.pointer (some ⟨g,0,none⟩),.string (nbs t)] w fun e w'=>e = .returned (nA ⟨6,0,0,0,0,0,0,(t.length:Int),0,0⟩)∧Below w.heap.size w w':=by
 have hs:=cS t;go_enter Tryz.func238,Tryz.ntmps238
 go_wp2_with fail
 exact bodyPost_ret (aF (t:=4) rfl _ _ _ _ rfl rfl (BK.new _ _ _)) rfl ⟨by first|rfl|(rw[←hs];rfl),(Below.refl _ _).alloc (Nat.le_refl _) _⟩
theorem aA2 (g:Nat) (t:Wd) (w:World):Calls Tryz.prog 243 #[.pointer (some ⟨g,0,none⟩),.string (nbs t)] w fun e w'=>((∃m,dK t=some m∧e = .returned (nA ⟨2,0,0,0,0,0,m,0,0,0⟩))∨(dK t=none∧e=unE))∧Below w.heap.size w w':=by
 obtain⟨w0,hw0⟩ : ∃w0,w0=w.alloc (.cells #[.int .i64 0,.int .i64 0,.int .i64 0,.int .i64 0,.int .i64 0,.int .i64 0,.int .i64 0,.int .i64 0,.int .i64 0,.int .i64 0] 118):=⟨_,rfl⟩
 have hB0:Below w.heap.size w w0:=by rw[hw0];exact(Below.refl _ _).alloc (Nat.le_refl _) _
 have hX0:BK w0 w.heap.size 118 #[.int .i64 0,.int .i64 0,.int .i64 0,.int .i64 0,.int .i64 0,.int .i64 0,.int .i64 0,.int .i64 0,.int .i64 0,.int .i64 0]:=by rw[hw0];exact BK.new w _ _
 go_enter Tryz.func243,Tryz.ntmps243
 go_wp2_with fail
 rw[←hw0];clear hw0;refine(cF t w0).mono ?_
 rintro e w1 ⟨⟨m,hm,rfl⟩|⟨hm,rfl⟩,hk⟩
 ·have hX1:=hX0.below hk hX0.lt
  have hB1:=hB0.trans (hk.mono hB0.size);have f0:=hX1.frozen 0;have f1:=hX1.frozen 1;have f2:=hX1.frozen 2;have f3:=hX1.frozen 3;have f4:=hX1.frozen 4;have f5:=hX1.frozen 5;have f6:=hX1.frozen 6;have f7:=hX1.frozen 7;have f8:=hX1.frozen 8;have f9:=hX1.frozen 9;have x0:=hX1.cell 0;have x1:=hX1.cell 1;have x2:=hX1.cell 2;have x3:=hX1.cell 3;have x4:=hX1.cell 4;have x5:=hX1.cell 5;have x6:=hX1.cell 6;have x7:=hX1.cell 7;have x8:=hX1.cell 8;have x9:=hX1.cell 9;simp only[List.getElem?_toArray,List.getElem?_cons_zero,List.getElem?_cons_succ]at x0 x1 x2 x3 x4 x5 x6 x7 x8 x9
  go_wp2_with fail
  exact bodyPost_ret (aF (t:=4) rfl _ _ _ _ rfl rfl (hX1.set10 rfl)) rfl ⟨.inl ⟨m,hm,rfl⟩,bM hB1 (Nat.le_refl _)⟩
 ·have hB1:=hB0.trans (hk.mono hB0.size)
  go_wp2_with fail
  exact⟨rfl,.inr ⟨hm,rfl⟩,hB1⟩
theorem aB2 {x:Wd} {r:List Wd} (h:dK x=none):j7 (x::r)=none:=by
 unfold j7
 split
 ·rename_i heq
  injection heq with h1 h2
  subst h1;rw[h]
 ·rfl
theorem aCv {x:Wd} {r:List Wd} (h:r.head?≠some wOf):j7 (x::r)=none:=by
 unfold j7
 split
 ·rename_i heq
  injection heq with h1 h2
  subst h2
  split
  ·rfl
  ·rw[if_neg (fun hh=>h (by rw[hh];rfl))]
 ·rfl
set_option maxRecDepth 100000 in
set_option maxHeartbeats 8000000 in
theorem aDp (g B:Nat) (s:ByteArray) (ws:List Wd) (w:World) (h:PA w g B ws) :
  Calls Tryz.prog 239 #[.pointer (some ⟨g,0,none⟩),.string s] w fun e w'=>((∃n r,j7 ws=some (n,r)∧e = .returned (nA n)∧PA w' g B r)∨(j7 ws=none∧e=unE))∧w.grownBy w' (some g):=by
 obtain⟨hgl,hBw⟩:=h.lt;obtain⟨w0,hw0⟩ : ∃w0,w0=w.alloc (.cells #[.int .i64 0,.int .i64 0,.int .i64 0,.int .i64 0,.int .i64 0,.int .i64 0,.int .i64 0,.int .i64 0,.int .i64 0,.int .i64 0] 118):=⟨_,rfl⟩
 have hG0:w.grownBy w0 (some g):=by rw[hw0];exact World.grownBy_alloc w _ _
 have hX0:BK w0 w.heap.size 118 #[.int .i64 0,.int .i64 0,.int .i64 0,.int .i64 0,.int .i64 0,.int .i64 0,.int .i64 0,.int .i64 0,.int .i64 0,.int .i64 0]:=by rw[hw0];exact BK.new w _ _
 have hP0:PA w0 g B ws:=h.grown (row:=none) (by rw[hw0];exact World.grownBy_alloc w _ none) (fun _ e=>by cases e)
 have hneX:some w.heap.size≠some g:=by simp;omega
 clear h;go_enter Tryz.func239,Tryz.ntmps239
 go_wp2_with fail
 rw[←hw0];clear hw0;cases ws with
 |nil=>
  refine(bW g B w0 hP0).mono ?_
  rintro e w1 ⟨rfl,rfl⟩;go_wp2_with fail
  exact⟨rfl,.inr ⟨rfl,rfl⟩,hG0⟩
 |cons x r1=>
  refine(bN g B x r1 w0 hP0).mono ?_
  rintro e w1 ⟨rfl,hP1,hk⟩;have hX1:=hX0.grownBy hk hneX;have hG1:=hG0.trans hk;clear hG0 hk hX0;go_wp2_with fail
  refine(cF x w1).mono ?_
  rintro e w2 ⟨⟨a,ha,rfl⟩|⟨ha,rfl⟩,hk⟩
  case inr=>
   have hP2:=hP1.below hk;have hk:=aC (row:=some g) hk;have hX2:=hX1.grownBy hk hneX;have hG2:=hG1.trans hk;clear hG1 hk hX1 hP1;go_wp2_with fail
   exact⟨rfl,.inr ⟨aB2 ha,rfl⟩,hG2⟩
  have hP2:=hP1.below hk;have hk:=aC (row:=some g) hk;have hX2:=hX1.grownBy hk hneX;have hG2:=hG1.trans hk;clear hG1 hk hX1 hP1;obtain⟨w3,hw3⟩ : ∃w3,w3=w2.alloc (.cells #[.int .i64 7,.int .i64 0,.int .i64 0,.int .i64 0,.int .i64 0,.int .i64 0,.int .i64 0,.int .i64 0,.int .i64 a,.int .i64 0] 118):=⟨_,rfl⟩
  have hk:Below w2.heap.size w2 w3:=by rw[hw3];exact(Below.refl _ _).alloc (Nat.le_refl _) _
  have hN3:BK w3 w2.heap.size 118 #[.int .i64 7,.int .i64 0,.int .i64 0,.int .i64 0,.int .i64 0,.int .i64 0,.int .i64 0,.int .i64 0,.int .i64 a,.int .i64 0]:=by rw[hw3];exact BK.new w2 _ _
  have hsz2:=hG2.size;have hneN:some w2.heap.size≠some g:=by simp;omega
  have hXN:w.heap.size≠w2.heap.size:=by have:=hX2.lt;omega
  have hP3:=hP2.below hk;have hk:=aC (row:=some g) hk;have hX3:=hX2.grownBy hk hneX;have hG3:=hG2.trans hk;clear hG2 hk hX2 hP2;go_wp2_with fail
  rw[←hw3];clear hw3;refine(bQ g B [111,102] r1 w3 hP3).mono ?_
  rintro e w4 (⟨r2,rfl,rfl,hP4,hk⟩|⟨hne,rfl,rfl⟩)
  case inr=>
   go_wp2_with(go_at_call 244;refine(need_false _).mono ?_;rintro e w' ⟨rfl,rfl⟩)
   exact⟨rfl,.inr ⟨aCv hne,rfl⟩,hG3⟩
  have hX4:=hX3.grownBy hk hneX;have hN4:=hN3.grownBy hk hneN;have hG4:=hG3.trans hk;clear hG3 hk hX3 hN3;go_wp2_with(go_at_call 244;refine(need_true _).mono ?_;rintro e w' ⟨rfl,rfl⟩)
  cases r2 with
  |nil=>
   refine(bW g B w4 hP4).mono ?_
   rintro e w5 ⟨rfl,rfl⟩;go_wp2_with fail
   exact⟨rfl,.inr ⟨rfl,rfl⟩,hG4⟩
  |cons y r3=>
   refine(bN g B y r3 w4 hP4).mono ?_
   rintro e w5 ⟨rfl,hP5,hk⟩;have hX5:=hX4.grownBy hk hneX;have hN5:=hN4.grownBy hk hneN;have hG5:=hG4.trans hk;clear hG4 hk hX4 hN4;go_wp2_with fail
   refine(cF y w5).mono ?_
   rintro e w6 ⟨⟨c,hc,rfl⟩|⟨hc,rfl⟩,hk⟩
   case inr=>
    have hP6:=hP5.below hk;have hk:=aC (row:=some g) hk;have hX6:=hX5.grownBy hk hneX;have hN6:=hN5.grownBy hk hneN;have hG6:=hG5.trans hk;clear hG5 hk hX5 hN5 hP5;go_wp2_with fail
    exact⟨rfl,.inr ⟨by simp[j7,ha,hc,wOf],rfl⟩,hG6⟩
   have hP6:=hP5.below hk;have hk:=aC (row:=some g) hk;have hX6:=hX5.grownBy hk hneX;have hN6:=hN5.grownBy hk hneN;have hG6:=hG5.trans hk;clear hG5 hk hX5 hN5 hP5;have nf0:=hN6.frozen 0;have nf1:=hN6.frozen 1;have nf2:=hN6.frozen 2;have nf3:=hN6.frozen 3;have nf4:=hN6.frozen 4;have nf5:=hN6.frozen 5;have nf6:=hN6.frozen 6;have nf7:=hN6.frozen 7;have nf8:=hN6.frozen 8;have nf9:=hN6.frozen 9;have n0:=hN6.cell 0;have n1:=hN6.cell 1;have n2:=hN6.cell 2;have n3:=hN6.cell 3;have n4:=hN6.cell 4;have n5:=hN6.cell 5;have n6:=hN6.cell 6;have n7:=hN6.cell 7;have n8:=hN6.cell 8;have n9:=hN6.cell 9;simp only[List.getElem?_toArray,List.getElem?_cons_zero,List.getElem?_cons_succ]at n0 n1 n2 n3 n4 n5 n6 n7 n8 n9
   have xf0:=hX6.frozen 0;have xf1:=hX6.frozen 1;have xf2:=hX6.frozen 2;have xf3:=hX6.frozen 3;have xf4:=hX6.frozen 4;have xf5:=hX6.frozen 5;have xf6:=hX6.frozen 6;have xf7:=hX6.frozen 7;have xf8:=hX6.frozen 8;have xf9:=hX6.frozen 9;have x0:=hX6.cell 0;have x1:=hX6.cell 1;have x2:=hX6.cell 2;have x3:=hX6.cell 3;have x4:=hX6.cell 4;have x5:=hX6.cell 5;have x6:=hX6.cell 6;have x7:=hX6.cell 7;have x8:=hX6.cell 8;have x9:=hX6.cell 9;simp only[List.getElem?_toArray,List.getElem?_cons_zero,List.getElem?_cons_succ]at x0 x1 x2 x3 x4 x5 x6 x7 x8 x9
   go_wp2_with fail
   have hN7:=hN6.set_ 9 (.int .i64 c);have hX7:=hX6.far (p:=⟨w2.heap.size,9,none⟩) hXN (.int .i64 c);have hP7:=hP6.grown (bH w6 ⟨w2.heap.size,9,none⟩ (.int .i64 c)) (fun m e=>by cases e;exact Nat.le_trans hBw hsz2)
   have hG7:=aE hG6 (bH w6 ⟨w2.heap.size,9,none⟩ (.int .i64 c)) hsz2;exact bodyPost_ret (aF (t:=4) rfl _ _ _ _ rfl rfl (hX7.set10 rfl)) rfl ⟨.inl ⟨⟨7,0,0,0,0,0,0,0,a,c⟩,r3,by simp[j7,ha,hc,wOf],rfl,hP7.grown (aI _ w.heap.size) (fun m e=>by cases e;exact hBw)⟩,aE hG7 (aI _ w.heap.size) (Nat.le_refl _)⟩
theorem dL {x y:Wd} {r:List Wd} (h:(y::r).head?≠some x):bP x y (y::r)=(1,r):=by
 simp only[List.head?_cons,ne_eq,Option.some.injEq]at h
 simp[bP,h]
theorem dM (x y:Wd) (r:List Wd):bP x y (x::r)=(-1,r):=by simp[bP]
theorem gJ {x y:Wd} {r:List Wd} (h1:r.head?≠some x) (h2:r.head?≠some y):bP x y r=(0,r):=by
 cases r with
 |nil=>rfl
 |cons w r'=>
  simp only[List.head?_cons,ne_eq,Option.some.injEq]at h1 h2
  simp[bP,h1,h2]
theorem aB3 {b:UInt8} {t:Wd} {ws:List Wd} (hg:dK t=none):fO (b::t) ws=none:=by simp[fO,hg]
theorem mR {b:UInt8} {t:Wd} {ws r1 r2:List Wd} {gr lo tu:Int} (hg:dK t=some gr) (h1:bP wShort wLong ws=(lo,r1)) (h2:bP wOpens wTightens r1=(0,r2)) (htu:(if b=76 then -1 else 1:Int)=tu) :
 fO (b::t) ws=some (⟨1,tu,gr,lo,0,0,0,0,0,0⟩,r2):=by simp[fO,hg,h1,h2,htu]
theorem cV {b:UInt8} {t:Wd} {ws r1:List Wd} {gr lo ch:Int} (hg:dK t=some gr) (h1:bP wShort wLong ws=(lo,r1)) (h2:bP wOpens wTightens r1=(ch,[])) (hch:ch≠0) :
 fO (b::t) ws=none:=by simp[fO,hg,h1,h2,hch]
theorem cG {b:UInt8} {t x:Wd} {ws r1 r3:List Wd} {gr lo ch tu:Int} (hg:dK t=some gr) (h1:bP wShort wLong ws=(lo,r1)) (h2:bP wOpens wTightens r1=(ch,x::r3)) (hch:ch≠0) (htu:(if b=76 then -1 else 1:Int)=tu) :
  fO (b::t) ws=(match dK x with|none=>none|some tt=>some (⟨1,tu,gr,lo,ch,tt,0,0,0,0⟩,r3)):=by
 subst htu;simp only[fO,hg,h1,h2,hch,if_false,List.tail_cons,List.head?_cons,Option.some.injEq]
 cases dK x<;>rfl
set_option maxRecDepth 100000 in
set_option maxHeartbeats 8000000 in
theorem rL (g B:Nat) (b:UInt8) (t:Wd) (ws:List Wd) (w:World) (hb:b=76∨b=82) (h:PA w g B ws) :
  Calls Tryz.prog 242 #[.pointer (some ⟨g,0,none⟩),.string (nbs (b::t))] w fun e w'=>((∃n r,fO (b::t) ws=some (n,r)∧e = .returned (nA n)∧PA w' g B r)∨(fO (b::t) ws=none∧e=unE))∧w.grownBy w' (some g):=by
 obtain⟨hgl,hBw⟩:=h.lt;obtain⟨w0,hw0⟩ : ∃w0,w0=w.alloc (.cells #[.int .i64 0,.int .i64 0,.int .i64 0,.int .i64 0,.int .i64 0,.int .i64 0,.int .i64 0,.int .i64 0,.int .i64 0,.int .i64 0] 118):=⟨_,rfl⟩
 have hG0:w.grownBy w0 (some g):=by rw[hw0];exact World.grownBy_alloc w _ _
 have hX0:BK w0 w.heap.size 118 #[.int .i64 0,.int .i64 0,.int .i64 0,.int .i64 0,.int .i64 0,.int .i64 0,.int .i64 0,.int .i64 0,.int .i64 0,.int .i64 0]:=by rw[hw0];exact BK.new w _ _
 have hP0:PA w0 g B ws:=h.grown (row:=none) (by rw[hw0];exact World.grownBy_alloc w _ none) (fun _ e=>by cases e)
 have hneX:some w.heap.size≠some g:=by simp;omega
 clear h;have hst:=vA b t;have hix:=vQ b t;go_enter Tryz.func242,Tryz.ntmps242
 go_wp2_with fail
 rw[←hw0];clear hw0;refine(cF t w0).mono ?_
 rintro e w1 ⟨⟨gr,hgr,rfl⟩|⟨hgr,rfl⟩,hk⟩
 case inr=>
  have hP1:=hP0.below hk;have hk:=aC (row:=some g) hk;have hX1:=hX0.grownBy hk hneX;have hG1:=hG0.trans hk;clear hG0 hk hX0 hP0;go_wp2_with fail
  exact⟨rfl,.inr ⟨aB3 hgr,rfl⟩,hG1⟩
 have hP1:=hP0.below hk;have hk:=aC (row:=some g) hk;have hX1:=hX0.grownBy hk hneX;have hG1:=hG0.trans hk;clear hG0 hk hX0 hP0;clear hst;rcases hb with rfl|rfl
 ·
  obtain⟨w2,hw2⟩ : ∃w2,w2=w1.alloc (.cells #[.int .i64 1,.int .i64 (-1),.int .i64 gr,.int .i64 0,.int .i64 0,.int .i64 0,.int .i64 0,.int .i64 0,.int .i64 0,.int .i64 0] 118):=⟨_,rfl⟩
  have hk:Below w1.heap.size w1 w2:=by rw[hw2];exact(Below.refl _ _).alloc (Nat.le_refl _) _
  have hN2:BK w2 w1.heap.size 118 #[.int .i64 1,.int .i64 (-1),.int .i64 gr,.int .i64 0,.int .i64 0,.int .i64 0,.int .i64 0,.int .i64 0,.int .i64 0,.int .i64 0]:=by rw[hw2];exact BK.new w1 _ _
  have hsz1:=hG1.size;have hneN:some w1.heap.size≠some g:=by simp;omega
  have hXN:w.heap.size≠w1.heap.size:=by have:=hX1.lt;omega
  have hP2:=hP1.below hk;have hk:=aC (row:=some g) hk;have hX2:=hX1.grownBy hk hneX;have hG2:=hG1.trans hk;clear hG1 hk hX1 hP1;have hwn:w.heap.size≤w1.heap.size:=hsz1;have hBn:B≤w1.heap.size:=Nat.le_trans hBw hwn;go_wp2_with fail
  rw[←hw2];clear hw2;refine(bQ g B [115,104,111,114,116] ws w2 hP2).mono ?_
  rintro e w3 (⟨r3,rfl,rfl,hP3,hk⟩|⟨hnl3,rfl,rfl⟩)
  case inl=>
   have hX3:=hX2.grownBy hk hneX;have hN3:=hN2.grownBy hk hneN;have hG3:=hG2.trans hk;clear hG2 hk hX2 hN2;have q3:=hN3.cell 3;have qf3:=hN3.frozen 3;simp only[List.getElem?_toArray,List.getElem?_cons_zero,List.getElem?_cons_succ]at q3
   obtain⟨w4,hw4⟩ : ∃w4,w4=w3.setCell ⟨w1.heap.size,3,none⟩ (.int .i64 (-1)):=⟨_,rfl⟩
   go_wp2_with fail
   rw[←hw4];have hN4:BK w4 w1.heap.size 118 #[.int .i64 1,.int .i64 (-1),.int .i64 gr,.int .i64 (-1),.int .i64 0,.int .i64 0,.int .i64 0,.int .i64 0,.int .i64 0,.int .i64 0]:=by rw[hw4];exact hN3.set_ 3 (.int .i64 (-1))
   have hX4:BK w4 w.heap.size 118 #[.int .i64 0,.int .i64 0,.int .i64 0,.int .i64 0,.int .i64 0,.int .i64 0,.int .i64 0,.int .i64 0,.int .i64 0,.int .i64 0]:=by rw[hw4];exact hX3.far (p:=⟨w1.heap.size,3,none⟩) hXN (.int .i64 (-1))
   have hP4:=hP3.grown (bH w3 ⟨w1.heap.size,3,none⟩ (.int .i64 (-1))) (fun m e=>by cases e;exact hBn)
   have hG4:=aE hG3 (bH w3 ⟨w1.heap.size,3,none⟩ (.int .i64 (-1))) hwn;rw[←hw4]at hP4 hG4;clear hw4 hN3 hX3 hP3 hG3 q3 qf3;go_wp2_with fail
   refine(bQ g B [111,112,101,110,115] r3 w4 hP4).mono ?_
   rintro e w5 (⟨r5,rfl,rfl,hP5,hk⟩|⟨hnc5,rfl,rfl⟩)
   case inl=>
    have hX5:=hX4.grownBy hk hneX;have hN5:=hN4.grownBy hk hneN;have hG5:=hG4.trans hk;clear hG4 hk hX4 hN4;have q4:=hN5.cell 4;have qf4:=hN5.frozen 4;simp only[List.getElem?_toArray,List.getElem?_cons_zero,List.getElem?_cons_succ]at q4
    obtain⟨w6,hw6⟩ : ∃w6,w6=w5.setCell ⟨w1.heap.size,4,none⟩ (.int .i64 (-1)):=⟨_,rfl⟩
    go_wp2_with fail
    rw[←hw6];have hN6:BK w6 w1.heap.size 118 #[.int .i64 1,.int .i64 (-1),.int .i64 gr,.int .i64 (-1),.int .i64 (-1),.int .i64 0,.int .i64 0,.int .i64 0,.int .i64 0,.int .i64 0]:=by rw[hw6];exact hN5.set_ 4 (.int .i64 (-1))
    have hX6:BK w6 w.heap.size 118 #[.int .i64 0,.int .i64 0,.int .i64 0,.int .i64 0,.int .i64 0,.int .i64 0,.int .i64 0,.int .i64 0,.int .i64 0,.int .i64 0]:=by rw[hw6];exact hX5.far (p:=⟨w1.heap.size,4,none⟩) hXN (.int .i64 (-1))
    have hP6:=hP5.grown (bH w5 ⟨w1.heap.size,4,none⟩ (.int .i64 (-1))) (fun m e=>by cases e;exact hBn)
    have hG6:=aE hG5 (bH w5 ⟨w1.heap.size,4,none⟩ (.int .i64 (-1))) hwn;rw[←hw6]at hP6 hG6;clear hw6 hN5 hX5 hP5 hG5 q4 qf4;have q4:=hN6.cell 4;simp only[List.getElem?_toArray,List.getElem?_cons_zero,List.getElem?_cons_succ]at q4
    go_wp2_with fail
    clear q4;cases r5 with
    |nil=>
     refine(bW g B w6 hP6).mono ?_
     rintro e w7 ⟨rfl,rfl⟩;go_wp2_with fail
     exact⟨rfl,.inr ⟨cV hgr (dM _ _ _) (dM _ _ _) (by decide),rfl⟩,hG6⟩
    |cons y r9=>
     refine(bN g B y r9 w6 hP6).mono ?_
     rintro e w7 ⟨rfl,hP7,hk⟩;have hX7:=hX6.grownBy hk hneX;have hN7:=hN6.grownBy hk hneN;have hG7:=hG6.trans hk;clear hG6 hk hX6 hN6;go_wp2_with fail
     refine(cF y w7).mono ?_
     rintro e w8 ⟨⟨c,hc,rfl⟩|⟨hc,rfl⟩,hk⟩
     case inr=>
      have hP8:=hP7.below hk;have hk:=aC (row:=some g) hk;have hX8:=hX7.grownBy hk hneX;have hN8:=hN7.grownBy hk hneN;have hG8:=hG7.trans hk;clear hG7 hk hX7 hN7 hP7;go_wp2_with fail
      exact⟨rfl,.inr ⟨(cG (tu:=-1) hgr (dM _ _ _) (dM _ _ _) (by decide) (by decide)).trans (by rw[hc]),rfl⟩,hG8⟩
     have hP8:=hP7.below hk;have hk:=aC (row:=some g) hk;have hX8:=hX7.grownBy hk hneX;have hN8:=hN7.grownBy hk hneN;have hG8:=hG7.trans hk;clear hG7 hk hX7 hN7 hP7;have nf0:=hN8.frozen 0;have nf1:=hN8.frozen 1;have nf2:=hN8.frozen 2;have nf3:=hN8.frozen 3;have nf4:=hN8.frozen 4;have nf5:=hN8.frozen 5;have nf6:=hN8.frozen 6;have nf7:=hN8.frozen 7;have nf8:=hN8.frozen 8;have nf9:=hN8.frozen 9;have n0:=hN8.cell 0;have n1:=hN8.cell 1;have n2:=hN8.cell 2;have n3:=hN8.cell 3;have n4:=hN8.cell 4;have n5:=hN8.cell 5;have n6:=hN8.cell 6;have n7:=hN8.cell 7;have n8:=hN8.cell 8;have n9:=hN8.cell 9;simp only[List.getElem?_toArray,List.getElem?_cons_zero,List.getElem?_cons_succ]at n0 n1 n2 n3 n4 n5 n6 n7 n8 n9
     have xf0:=hX8.frozen 0;have xf1:=hX8.frozen 1;have xf2:=hX8.frozen 2;have xf3:=hX8.frozen 3;have xf4:=hX8.frozen 4;have xf5:=hX8.frozen 5;have xf6:=hX8.frozen 6;have xf7:=hX8.frozen 7;have xf8:=hX8.frozen 8;have xf9:=hX8.frozen 9;have x0:=hX8.cell 0;have x1:=hX8.cell 1;have x2:=hX8.cell 2;have x3:=hX8.cell 3;have x4:=hX8.cell 4;have x5:=hX8.cell 5;have x6:=hX8.cell 6;have x7:=hX8.cell 7;have x8:=hX8.cell 8;have x9:=hX8.cell 9;simp only[List.getElem?_toArray,List.getElem?_cons_zero,List.getElem?_cons_succ]at x0 x1 x2 x3 x4 x5 x6 x7 x8 x9
     go_wp2_with fail
     have hX9:=hX8.far (p:=⟨w1.heap.size,5,none⟩) hXN (.int .i64 c);have hP9:=hP8.grown (bH w8 ⟨w1.heap.size,5,none⟩ (.int .i64 c)) (fun m e=>by cases e;exact hBn)
     have hG9:=aE hG8 (bH w8 ⟨w1.heap.size,5,none⟩ (.int .i64 c)) hwn;exact bodyPost_ret (aF (t:=4) rfl _ _ _ _ rfl rfl (hX9.set10 rfl)) rfl ⟨.inl ⟨⟨1,-1,gr,-1,-1,c,0,0,0,0⟩,r9,(cG (tu:=-1) hgr (dM _ _ _) (dM _ _ _) (by decide) (by decide)).trans (by rw[hc]),rfl,hP9.grown (aI _ w.heap.size) (fun m e=>by cases e;exact hBw)⟩,aE hG9 (aI _ w.heap.size) (Nat.le_refl _)⟩
   go_wp2_with fail
   refine(bQ g B [116,105,103,104,116,101,110,115] r3 w4 hP4).mono ?_
   rintro e w6 (⟨r6,rfl,rfl,hP6,hk⟩|⟨hnc6,rfl,rfl⟩)
   case inl=>
    have hX6:=hX4.grownBy hk hneX;have hN6:=hN4.grownBy hk hneN;have hG6:=hG4.trans hk;clear hG4 hk hX4 hN4;have q4:=hN6.cell 4;have qf4:=hN6.frozen 4;simp only[List.getElem?_toArray,List.getElem?_cons_zero,List.getElem?_cons_succ]at q4
    obtain⟨w7,hw7⟩ : ∃w7,w7=w6.setCell ⟨w1.heap.size,4,none⟩ (.int .i64 1):=⟨_,rfl⟩
    go_wp2_with fail
    rw[←hw7];have hN7:BK w7 w1.heap.size 118 #[.int .i64 1,.int .i64 (-1),.int .i64 gr,.int .i64 (-1),.int .i64 1,.int .i64 0,.int .i64 0,.int .i64 0,.int .i64 0,.int .i64 0]:=by rw[hw7];exact hN6.set_ 4 (.int .i64 1)
    have hX7:BK w7 w.heap.size 118 #[.int .i64 0,.int .i64 0,.int .i64 0,.int .i64 0,.int .i64 0,.int .i64 0,.int .i64 0,.int .i64 0,.int .i64 0,.int .i64 0]:=by rw[hw7];exact hX6.far (p:=⟨w1.heap.size,4,none⟩) hXN (.int .i64 1)
    have hP7:=hP6.grown (bH w6 ⟨w1.heap.size,4,none⟩ (.int .i64 1)) (fun m e=>by cases e;exact hBn)
    have hG7:=aE hG6 (bH w6 ⟨w1.heap.size,4,none⟩ (.int .i64 1)) hwn;rw[←hw7]at hP7 hG7;clear hw7 hN6 hX6 hP6 hG6 q4 qf4;have q4:=hN7.cell 4;simp only[List.getElem?_toArray,List.getElem?_cons_zero,List.getElem?_cons_succ]at q4
    go_wp2_with fail
    clear q4;cases r6 with
    |nil=>
     refine(bW g B w7 hP7).mono ?_
     rintro e w8 ⟨rfl,rfl⟩;go_wp2_with fail
     exact⟨rfl,.inr ⟨cV hgr (dM _ _ _) (dL hnc5) (by decide),rfl⟩,hG7⟩
    |cons y r9=>
     refine(bN g B y r9 w7 hP7).mono ?_
     rintro e w8 ⟨rfl,hP8,hk⟩;have hX8:=hX7.grownBy hk hneX;have hN8:=hN7.grownBy hk hneN;have hG8:=hG7.trans hk;clear hG7 hk hX7 hN7;go_wp2_with fail
     refine(cF y w8).mono ?_
     rintro e w9 ⟨⟨c,hc,rfl⟩|⟨hc,rfl⟩,hk⟩
     case inr=>
      have hP9:=hP8.below hk;have hk:=aC (row:=some g) hk;have hX9:=hX8.grownBy hk hneX;have hN9:=hN8.grownBy hk hneN;have hG9:=hG8.trans hk;clear hG8 hk hX8 hN8 hP8;go_wp2_with fail
      exact⟨rfl,.inr ⟨(cG (tu:=-1) hgr (dM _ _ _) (dL hnc5) (by decide) (by decide)).trans (by rw[hc]),rfl⟩,hG9⟩
     have hP9:=hP8.below hk;have hk:=aC (row:=some g) hk;have hX9:=hX8.grownBy hk hneX;have hN9:=hN8.grownBy hk hneN;have hG9:=hG8.trans hk;clear hG8 hk hX8 hN8 hP8;have nf0:=hN9.frozen 0;have nf1:=hN9.frozen 1;have nf2:=hN9.frozen 2;have nf3:=hN9.frozen 3;have nf4:=hN9.frozen 4;have nf5:=hN9.frozen 5;have nf6:=hN9.frozen 6;have nf7:=hN9.frozen 7;have nf8:=hN9.frozen 8;have nf9:=hN9.frozen 9;have n0:=hN9.cell 0;have n1:=hN9.cell 1;have n2:=hN9.cell 2;have n3:=hN9.cell 3;have n4:=hN9.cell 4;have n5:=hN9.cell 5;have n6:=hN9.cell 6;have n7:=hN9.cell 7;have n8:=hN9.cell 8;have n9:=hN9.cell 9;simp only[List.getElem?_toArray,List.getElem?_cons_zero,List.getElem?_cons_succ]at n0 n1 n2 n3 n4 n5 n6 n7 n8 n9
     have xf0:=hX9.frozen 0;have xf1:=hX9.frozen 1;have xf2:=hX9.frozen 2;have xf3:=hX9.frozen 3;have xf4:=hX9.frozen 4;have xf5:=hX9.frozen 5;have xf6:=hX9.frozen 6;have xf7:=hX9.frozen 7;have xf8:=hX9.frozen 8;have xf9:=hX9.frozen 9;have x0:=hX9.cell 0;have x1:=hX9.cell 1;have x2:=hX9.cell 2;have x3:=hX9.cell 3;have x4:=hX9.cell 4;have x5:=hX9.cell 5;have x6:=hX9.cell 6;have x7:=hX9.cell 7;have x8:=hX9.cell 8;have x9:=hX9.cell 9;simp only[List.getElem?_toArray,List.getElem?_cons_zero,List.getElem?_cons_succ]at x0 x1 x2 x3 x4 x5 x6 x7 x8 x9
     go_wp2_with fail
     have hX10:=hX9.far (p:=⟨w1.heap.size,5,none⟩) hXN (.int .i64 c);have hP10:=hP9.grown (bH w9 ⟨w1.heap.size,5,none⟩ (.int .i64 c)) (fun m e=>by cases e;exact hBn)
     have hG10:=aE hG9 (bH w9 ⟨w1.heap.size,5,none⟩ (.int .i64 c)) hwn;exact bodyPost_ret (aF (t:=4) rfl _ _ _ _ rfl rfl (hX10.set10 rfl)) rfl ⟨.inl ⟨⟨1,-1,gr,-1,1,c,0,0,0,0⟩,r9,(cG (tu:=-1) hgr (dM _ _ _) (dL hnc5) (by decide) (by decide)).trans (by rw[hc]),rfl,hP10.grown (aI _ w.heap.size) (fun m e=>by cases e;exact hBw)⟩,aE hG10 (aI _ w.heap.size) (Nat.le_refl _)⟩
   have q4:=hN4.cell 4;simp only[List.getElem?_toArray,List.getElem?_cons_zero,List.getElem?_cons_succ]at q4
   have nf0:=hN4.frozen 0;have nf1:=hN4.frozen 1;have nf2:=hN4.frozen 2;have nf3:=hN4.frozen 3;have nf4:=hN4.frozen 4;have nf5:=hN4.frozen 5;have nf6:=hN4.frozen 6;have nf7:=hN4.frozen 7;have nf8:=hN4.frozen 8;have nf9:=hN4.frozen 9;have n0:=hN4.cell 0;have n1:=hN4.cell 1;have n2:=hN4.cell 2;have n3:=hN4.cell 3;have n4:=hN4.cell 4;have n5:=hN4.cell 5;have n6:=hN4.cell 6;have n7:=hN4.cell 7;have n8:=hN4.cell 8;have n9:=hN4.cell 9;simp only[List.getElem?_toArray,List.getElem?_cons_zero,List.getElem?_cons_succ]at n0 n1 n2 n3 n4 n5 n6 n7 n8 n9
   have xf0:=hX4.frozen 0;have xf1:=hX4.frozen 1;have xf2:=hX4.frozen 2;have xf3:=hX4.frozen 3;have xf4:=hX4.frozen 4;have xf5:=hX4.frozen 5;have xf6:=hX4.frozen 6;have xf7:=hX4.frozen 7;have xf8:=hX4.frozen 8;have xf9:=hX4.frozen 9;have x0:=hX4.cell 0;have x1:=hX4.cell 1;have x2:=hX4.cell 2;have x3:=hX4.cell 3;have x4:=hX4.cell 4;have x5:=hX4.cell 5;have x6:=hX4.cell 6;have x7:=hX4.cell 7;have x8:=hX4.cell 8;have x9:=hX4.cell 9;simp only[List.getElem?_toArray,List.getElem?_cons_zero,List.getElem?_cons_succ]at x0 x1 x2 x3 x4 x5 x6 x7 x8 x9
   go_wp2_with fail
   exact bodyPost_ret (aF (t:=4) rfl _ _ _ _ rfl rfl (hX4.set10 rfl)) rfl ⟨.inl ⟨⟨1,-1,gr,-1,0,0,0,0,0,0⟩,r3,mR hgr (dM _ _ _) (gJ hnc5 hnc6) (by decide),rfl,hP4.grown (aI _ w.heap.size) (fun m e=>by cases e;exact hBw)⟩,aE hG4 (aI _ w.heap.size) (Nat.le_refl _)⟩
  go_wp2_with fail
  refine(bQ g B [108,111,110,103] ws w2 hP2).mono ?_
  rintro e w4 (⟨r4,rfl,rfl,hP4,hk⟩|⟨hnl4,rfl,rfl⟩)
  case inl=>
   have hX4:=hX2.grownBy hk hneX;have hN4:=hN2.grownBy hk hneN;have hG4:=hG2.trans hk;clear hG2 hk hX2 hN2;have q3:=hN4.cell 3;have qf3:=hN4.frozen 3;simp only[List.getElem?_toArray,List.getElem?_cons_zero,List.getElem?_cons_succ]at q3
   obtain⟨w5,hw5⟩ : ∃w5,w5=w4.setCell ⟨w1.heap.size,3,none⟩ (.int .i64 1):=⟨_,rfl⟩
   go_wp2_with fail
   rw[←hw5];have hN5:BK w5 w1.heap.size 118 #[.int .i64 1,.int .i64 (-1),.int .i64 gr,.int .i64 1,.int .i64 0,.int .i64 0,.int .i64 0,.int .i64 0,.int .i64 0,.int .i64 0]:=by rw[hw5];exact hN4.set_ 3 (.int .i64 1)
   have hX5:BK w5 w.heap.size 118 #[.int .i64 0,.int .i64 0,.int .i64 0,.int .i64 0,.int .i64 0,.int .i64 0,.int .i64 0,.int .i64 0,.int .i64 0,.int .i64 0]:=by rw[hw5];exact hX4.far (p:=⟨w1.heap.size,3,none⟩) hXN (.int .i64 1)
   have hP5:=hP4.grown (bH w4 ⟨w1.heap.size,3,none⟩ (.int .i64 1)) (fun m e=>by cases e;exact hBn)
   have hG5:=aE hG4 (bH w4 ⟨w1.heap.size,3,none⟩ (.int .i64 1)) hwn;rw[←hw5]at hP5 hG5;clear hw5 hN4 hX4 hP4 hG4 q3 qf3;go_wp2_with fail
   refine(bQ g B [111,112,101,110,115] r4 w5 hP5).mono ?_
   rintro e w6 (⟨r6,rfl,rfl,hP6,hk⟩|⟨hnc6,rfl,rfl⟩)
   case inl=>
    have hX6:=hX5.grownBy hk hneX;have hN6:=hN5.grownBy hk hneN;have hG6:=hG5.trans hk;clear hG5 hk hX5 hN5;have q4:=hN6.cell 4;have qf4:=hN6.frozen 4;simp only[List.getElem?_toArray,List.getElem?_cons_zero,List.getElem?_cons_succ]at q4
    obtain⟨w7,hw7⟩ : ∃w7,w7=w6.setCell ⟨w1.heap.size,4,none⟩ (.int .i64 (-1)):=⟨_,rfl⟩
    go_wp2_with fail
    rw[←hw7];have hN7:BK w7 w1.heap.size 118 #[.int .i64 1,.int .i64 (-1),.int .i64 gr,.int .i64 1,.int .i64 (-1),.int .i64 0,.int .i64 0,.int .i64 0,.int .i64 0,.int .i64 0]:=by rw[hw7];exact hN6.set_ 4 (.int .i64 (-1))
    have hX7:BK w7 w.heap.size 118 #[.int .i64 0,.int .i64 0,.int .i64 0,.int .i64 0,.int .i64 0,.int .i64 0,.int .i64 0,.int .i64 0,.int .i64 0,.int .i64 0]:=by rw[hw7];exact hX6.far (p:=⟨w1.heap.size,4,none⟩) hXN (.int .i64 (-1))
    have hP7:=hP6.grown (bH w6 ⟨w1.heap.size,4,none⟩ (.int .i64 (-1))) (fun m e=>by cases e;exact hBn)
    have hG7:=aE hG6 (bH w6 ⟨w1.heap.size,4,none⟩ (.int .i64 (-1))) hwn;rw[←hw7]at hP7 hG7;clear hw7 hN6 hX6 hP6 hG6 q4 qf4;have q4:=hN7.cell 4;simp only[List.getElem?_toArray,List.getElem?_cons_zero,List.getElem?_cons_succ]at q4
    go_wp2_with fail
    clear q4;cases r6 with
    |nil=>
     refine(bW g B w7 hP7).mono ?_
     rintro e w8 ⟨rfl,rfl⟩;go_wp2_with fail
     exact⟨rfl,.inr ⟨cV hgr (dL hnl3) (dM _ _ _) (by decide),rfl⟩,hG7⟩
    |cons y r9=>
     refine(bN g B y r9 w7 hP7).mono ?_
     rintro e w8 ⟨rfl,hP8,hk⟩;have hX8:=hX7.grownBy hk hneX;have hN8:=hN7.grownBy hk hneN;have hG8:=hG7.trans hk;clear hG7 hk hX7 hN7;go_wp2_with fail
     refine(cF y w8).mono ?_
     rintro e w9 ⟨⟨c,hc,rfl⟩|⟨hc,rfl⟩,hk⟩
     case inr=>
      have hP9:=hP8.below hk;have hk:=aC (row:=some g) hk;have hX9:=hX8.grownBy hk hneX;have hN9:=hN8.grownBy hk hneN;have hG9:=hG8.trans hk;clear hG8 hk hX8 hN8 hP8;go_wp2_with fail
      exact⟨rfl,.inr ⟨(cG (tu:=-1) hgr (dL hnl3) (dM _ _ _) (by decide) (by decide)).trans (by rw[hc]),rfl⟩,hG9⟩
     have hP9:=hP8.below hk;have hk:=aC (row:=some g) hk;have hX9:=hX8.grownBy hk hneX;have hN9:=hN8.grownBy hk hneN;have hG9:=hG8.trans hk;clear hG8 hk hX8 hN8 hP8;have nf0:=hN9.frozen 0;have nf1:=hN9.frozen 1;have nf2:=hN9.frozen 2;have nf3:=hN9.frozen 3;have nf4:=hN9.frozen 4;have nf5:=hN9.frozen 5;have nf6:=hN9.frozen 6;have nf7:=hN9.frozen 7;have nf8:=hN9.frozen 8;have nf9:=hN9.frozen 9;have n0:=hN9.cell 0;have n1:=hN9.cell 1;have n2:=hN9.cell 2;have n3:=hN9.cell 3;have n4:=hN9.cell 4;have n5:=hN9.cell 5;have n6:=hN9.cell 6;have n7:=hN9.cell 7;have n8:=hN9.cell 8;have n9:=hN9.cell 9;simp only[List.getElem?_toArray,List.getElem?_cons_zero,List.getElem?_cons_succ]at n0 n1 n2 n3 n4 n5 n6 n7 n8 n9
     have xf0:=hX9.frozen 0;have xf1:=hX9.frozen 1;have xf2:=hX9.frozen 2;have xf3:=hX9.frozen 3;have xf4:=hX9.frozen 4;have xf5:=hX9.frozen 5;have xf6:=hX9.frozen 6;have xf7:=hX9.frozen 7;have xf8:=hX9.frozen 8;have xf9:=hX9.frozen 9;have x0:=hX9.cell 0;have x1:=hX9.cell 1;have x2:=hX9.cell 2;have x3:=hX9.cell 3;have x4:=hX9.cell 4;have x5:=hX9.cell 5;have x6:=hX9.cell 6;have x7:=hX9.cell 7;have x8:=hX9.cell 8;have x9:=hX9.cell 9;simp only[List.getElem?_toArray,List.getElem?_cons_zero,List.getElem?_cons_succ]at x0 x1 x2 x3 x4 x5 x6 x7 x8 x9
     go_wp2_with fail
     have hX10:=hX9.far (p:=⟨w1.heap.size,5,none⟩) hXN (.int .i64 c);have hP10:=hP9.grown (bH w9 ⟨w1.heap.size,5,none⟩ (.int .i64 c)) (fun m e=>by cases e;exact hBn)
     have hG10:=aE hG9 (bH w9 ⟨w1.heap.size,5,none⟩ (.int .i64 c)) hwn;exact bodyPost_ret (aF (t:=4) rfl _ _ _ _ rfl rfl (hX10.set10 rfl)) rfl ⟨.inl ⟨⟨1,-1,gr,1,-1,c,0,0,0,0⟩,r9,(cG (tu:=-1) hgr (dL hnl3) (dM _ _ _) (by decide) (by decide)).trans (by rw[hc]),rfl,hP10.grown (aI _ w.heap.size) (fun m e=>by cases e;exact hBw)⟩,aE hG10 (aI _ w.heap.size) (Nat.le_refl _)⟩
   go_wp2_with fail
   refine(bQ g B [116,105,103,104,116,101,110,115] r4 w5 hP5).mono ?_
   rintro e w7 (⟨r7,rfl,rfl,hP7,hk⟩|⟨hnc7,rfl,rfl⟩)
   case inl=>
    have hX7:=hX5.grownBy hk hneX;have hN7:=hN5.grownBy hk hneN;have hG7:=hG5.trans hk;clear hG5 hk hX5 hN5;have q4:=hN7.cell 4;have qf4:=hN7.frozen 4;simp only[List.getElem?_toArray,List.getElem?_cons_zero,List.getElem?_cons_succ]at q4
    obtain⟨w8,hw8⟩ : ∃w8,w8=w7.setCell ⟨w1.heap.size,4,none⟩ (.int .i64 1):=⟨_,rfl⟩
    go_wp2_with fail
    rw[←hw8];have hN8:BK w8 w1.heap.size 118 #[.int .i64 1,.int .i64 (-1),.int .i64 gr,.int .i64 1,.int .i64 1,.int .i64 0,.int .i64 0,.int .i64 0,.int .i64 0,.int .i64 0]:=by rw[hw8];exact hN7.set_ 4 (.int .i64 1)
    have hX8:BK w8 w.heap.size 118 #[.int .i64 0,.int .i64 0,.int .i64 0,.int .i64 0,.int .i64 0,.int .i64 0,.int .i64 0,.int .i64 0,.int .i64 0,.int .i64 0]:=by rw[hw8];exact hX7.far (p:=⟨w1.heap.size,4,none⟩) hXN (.int .i64 1)
    have hP8:=hP7.grown (bH w7 ⟨w1.heap.size,4,none⟩ (.int .i64 1)) (fun m e=>by cases e;exact hBn)
    have hG8:=aE hG7 (bH w7 ⟨w1.heap.size,4,none⟩ (.int .i64 1)) hwn;rw[←hw8]at hP8 hG8;clear hw8 hN7 hX7 hP7 hG7 q4 qf4;have q4:=hN8.cell 4;simp only[List.getElem?_toArray,List.getElem?_cons_zero,List.getElem?_cons_succ]at q4
    go_wp2_with fail
    clear q4;cases r7 with
    |nil=>
     refine(bW g B w8 hP8).mono ?_
     rintro e w9 ⟨rfl,rfl⟩;go_wp2_with fail
     exact⟨rfl,.inr ⟨cV hgr (dL hnl3) (dL hnc6) (by decide),rfl⟩,hG8⟩
    |cons y r9=>
     refine(bN g B y r9 w8 hP8).mono ?_
     rintro e w9 ⟨rfl,hP9,hk⟩;have hX9:=hX8.grownBy hk hneX;have hN9:=hN8.grownBy hk hneN;have hG9:=hG8.trans hk;clear hG8 hk hX8 hN8;go_wp2_with fail
     refine(cF y w9).mono ?_
     rintro e w10 ⟨⟨c,hc,rfl⟩|⟨hc,rfl⟩,hk⟩
     case inr=>
      have hP10:=hP9.below hk;have hk:=aC (row:=some g) hk;have hX10:=hX9.grownBy hk hneX;have hN10:=hN9.grownBy hk hneN;have hG10:=hG9.trans hk;clear hG9 hk hX9 hN9 hP9;go_wp2_with fail
      exact⟨rfl,.inr ⟨(cG (tu:=-1) hgr (dL hnl3) (dL hnc6) (by decide) (by decide)).trans (by rw[hc]),rfl⟩,hG10⟩
     have hP10:=hP9.below hk;have hk:=aC (row:=some g) hk;have hX10:=hX9.grownBy hk hneX;have hN10:=hN9.grownBy hk hneN;have hG10:=hG9.trans hk;clear hG9 hk hX9 hN9 hP9;have nf0:=hN10.frozen 0;have nf1:=hN10.frozen 1;have nf2:=hN10.frozen 2;have nf3:=hN10.frozen 3;have nf4:=hN10.frozen 4;have nf5:=hN10.frozen 5;have nf6:=hN10.frozen 6;have nf7:=hN10.frozen 7;have nf8:=hN10.frozen 8;have nf9:=hN10.frozen 9;have n0:=hN10.cell 0;have n1:=hN10.cell 1;have n2:=hN10.cell 2;have n3:=hN10.cell 3;have n4:=hN10.cell 4;have n5:=hN10.cell 5;have n6:=hN10.cell 6;have n7:=hN10.cell 7;have n8:=hN10.cell 8;have n9:=hN10.cell 9;simp only[List.getElem?_toArray,List.getElem?_cons_zero,List.getElem?_cons_succ]at n0 n1 n2 n3 n4 n5 n6 n7 n8 n9
     have xf0:=hX10.frozen 0;have xf1:=hX10.frozen 1;have xf2:=hX10.frozen 2;have xf3:=hX10.frozen 3;have xf4:=hX10.frozen 4;have xf5:=hX10.frozen 5;have xf6:=hX10.frozen 6;have xf7:=hX10.frozen 7;have xf8:=hX10.frozen 8;have xf9:=hX10.frozen 9;have x0:=hX10.cell 0;have x1:=hX10.cell 1;have x2:=hX10.cell 2;have x3:=hX10.cell 3;have x4:=hX10.cell 4;have x5:=hX10.cell 5;have x6:=hX10.cell 6;have x7:=hX10.cell 7;have x8:=hX10.cell 8;have x9:=hX10.cell 9;simp only[List.getElem?_toArray,List.getElem?_cons_zero,List.getElem?_cons_succ]at x0 x1 x2 x3 x4 x5 x6 x7 x8 x9
     go_wp2_with fail
     have hX11:=hX10.far (p:=⟨w1.heap.size,5,none⟩) hXN (.int .i64 c);have hP11:=hP10.grown (bH w10 ⟨w1.heap.size,5,none⟩ (.int .i64 c)) (fun m e=>by cases e;exact hBn)
     have hG11:=aE hG10 (bH w10 ⟨w1.heap.size,5,none⟩ (.int .i64 c)) hwn;exact bodyPost_ret (aF (t:=4) rfl _ _ _ _ rfl rfl (hX11.set10 rfl)) rfl ⟨.inl ⟨⟨1,-1,gr,1,1,c,0,0,0,0⟩,r9,(cG (tu:=-1) hgr (dL hnl3) (dL hnc6) (by decide) (by decide)).trans (by rw[hc]),rfl,hP11.grown (aI _ w.heap.size) (fun m e=>by cases e;exact hBw)⟩,aE hG11 (aI _ w.heap.size) (Nat.le_refl _)⟩
   have q4:=hN5.cell 4;simp only[List.getElem?_toArray,List.getElem?_cons_zero,List.getElem?_cons_succ]at q4
   have nf0:=hN5.frozen 0;have nf1:=hN5.frozen 1;have nf2:=hN5.frozen 2;have nf3:=hN5.frozen 3;have nf4:=hN5.frozen 4;have nf5:=hN5.frozen 5;have nf6:=hN5.frozen 6;have nf7:=hN5.frozen 7;have nf8:=hN5.frozen 8;have nf9:=hN5.frozen 9;have n0:=hN5.cell 0;have n1:=hN5.cell 1;have n2:=hN5.cell 2;have n3:=hN5.cell 3;have n4:=hN5.cell 4;have n5:=hN5.cell 5;have n6:=hN5.cell 6;have n7:=hN5.cell 7;have n8:=hN5.cell 8;have n9:=hN5.cell 9;simp only[List.getElem?_toArray,List.getElem?_cons_zero,List.getElem?_cons_succ]at n0 n1 n2 n3 n4 n5 n6 n7 n8 n9
   have xf0:=hX5.frozen 0;have xf1:=hX5.frozen 1;have xf2:=hX5.frozen 2;have xf3:=hX5.frozen 3;have xf4:=hX5.frozen 4;have xf5:=hX5.frozen 5;have xf6:=hX5.frozen 6;have xf7:=hX5.frozen 7;have xf8:=hX5.frozen 8;have xf9:=hX5.frozen 9;have x0:=hX5.cell 0;have x1:=hX5.cell 1;have x2:=hX5.cell 2;have x3:=hX5.cell 3;have x4:=hX5.cell 4;have x5:=hX5.cell 5;have x6:=hX5.cell 6;have x7:=hX5.cell 7;have x8:=hX5.cell 8;have x9:=hX5.cell 9;simp only[List.getElem?_toArray,List.getElem?_cons_zero,List.getElem?_cons_succ]at x0 x1 x2 x3 x4 x5 x6 x7 x8 x9
   go_wp2_with fail
   exact bodyPost_ret (aF (t:=4) rfl _ _ _ _ rfl rfl (hX5.set10 rfl)) rfl ⟨.inl ⟨⟨1,-1,gr,1,0,0,0,0,0,0⟩,r4,mR hgr (dL hnl3) (gJ hnc6 hnc7) (by decide),rfl,hP5.grown (aI _ w.heap.size) (fun m e=>by cases e;exact hBw)⟩,aE hG5 (aI _ w.heap.size) (Nat.le_refl _)⟩
  go_wp2_with fail
  refine(bQ g B [111,112,101,110,115] ws w2 hP2).mono ?_
  rintro e w3 (⟨r3,rfl,rfl,hP3,hk⟩|⟨hnc3,rfl,rfl⟩)
  case inl=>
   have hX3:=hX2.grownBy hk hneX;have hN3:=hN2.grownBy hk hneN;have hG3:=hG2.trans hk;clear hG2 hk hX2 hN2;have q4:=hN3.cell 4;have qf4:=hN3.frozen 4;simp only[List.getElem?_toArray,List.getElem?_cons_zero,List.getElem?_cons_succ]at q4
   obtain⟨w4,hw4⟩ : ∃w4,w4=w3.setCell ⟨w1.heap.size,4,none⟩ (.int .i64 (-1)):=⟨_,rfl⟩
   go_wp2_with fail
   rw[←hw4];have hN4:BK w4 w1.heap.size 118 #[.int .i64 1,.int .i64 (-1),.int .i64 gr,.int .i64 0,.int .i64 (-1),.int .i64 0,.int .i64 0,.int .i64 0,.int .i64 0,.int .i64 0]:=by rw[hw4];exact hN3.set_ 4 (.int .i64 (-1))
   have hX4:BK w4 w.heap.size 118 #[.int .i64 0,.int .i64 0,.int .i64 0,.int .i64 0,.int .i64 0,.int .i64 0,.int .i64 0,.int .i64 0,.int .i64 0,.int .i64 0]:=by rw[hw4];exact hX3.far (p:=⟨w1.heap.size,4,none⟩) hXN (.int .i64 (-1))
   have hP4:=hP3.grown (bH w3 ⟨w1.heap.size,4,none⟩ (.int .i64 (-1))) (fun m e=>by cases e;exact hBn)
   have hG4:=aE hG3 (bH w3 ⟨w1.heap.size,4,none⟩ (.int .i64 (-1))) hwn;rw[←hw4]at hP4 hG4;clear hw4 hN3 hX3 hP3 hG3 q4 qf4;have q4:=hN4.cell 4;simp only[List.getElem?_toArray,List.getElem?_cons_zero,List.getElem?_cons_succ]at q4
   go_wp2_with fail
   clear q4;cases r3 with
   |nil=>
    refine(bW g B w4 hP4).mono ?_
    rintro e w5 ⟨rfl,rfl⟩;go_wp2_with fail
    exact⟨rfl,.inr ⟨cV hgr (gJ hnl3 hnl4) (dM _ _ _) (by decide),rfl⟩,hG4⟩
   |cons y r9=>
    refine(bN g B y r9 w4 hP4).mono ?_
    rintro e w5 ⟨rfl,hP5,hk⟩;have hX5:=hX4.grownBy hk hneX;have hN5:=hN4.grownBy hk hneN;have hG5:=hG4.trans hk;clear hG4 hk hX4 hN4;go_wp2_with fail
    refine(cF y w5).mono ?_
    rintro e w6 ⟨⟨c,hc,rfl⟩|⟨hc,rfl⟩,hk⟩
    case inr=>
     have hP6:=hP5.below hk;have hk:=aC (row:=some g) hk;have hX6:=hX5.grownBy hk hneX;have hN6:=hN5.grownBy hk hneN;have hG6:=hG5.trans hk;clear hG5 hk hX5 hN5 hP5;go_wp2_with fail
     exact⟨rfl,.inr ⟨(cG (tu:=-1) hgr (gJ hnl3 hnl4) (dM _ _ _) (by decide) (by decide)).trans (by rw[hc]),rfl⟩,hG6⟩
    have hP6:=hP5.below hk;have hk:=aC (row:=some g) hk;have hX6:=hX5.grownBy hk hneX;have hN6:=hN5.grownBy hk hneN;have hG6:=hG5.trans hk;clear hG5 hk hX5 hN5 hP5;have nf0:=hN6.frozen 0;have nf1:=hN6.frozen 1;have nf2:=hN6.frozen 2;have nf3:=hN6.frozen 3;have nf4:=hN6.frozen 4;have nf5:=hN6.frozen 5;have nf6:=hN6.frozen 6;have nf7:=hN6.frozen 7;have nf8:=hN6.frozen 8;have nf9:=hN6.frozen 9;have n0:=hN6.cell 0;have n1:=hN6.cell 1;have n2:=hN6.cell 2;have n3:=hN6.cell 3;have n4:=hN6.cell 4;have n5:=hN6.cell 5;have n6:=hN6.cell 6;have n7:=hN6.cell 7;have n8:=hN6.cell 8;have n9:=hN6.cell 9;simp only[List.getElem?_toArray,List.getElem?_cons_zero,List.getElem?_cons_succ]at n0 n1 n2 n3 n4 n5 n6 n7 n8 n9
    have xf0:=hX6.frozen 0;have xf1:=hX6.frozen 1;have xf2:=hX6.frozen 2;have xf3:=hX6.frozen 3;have xf4:=hX6.frozen 4;have xf5:=hX6.frozen 5;have xf6:=hX6.frozen 6;have xf7:=hX6.frozen 7;have xf8:=hX6.frozen 8;have xf9:=hX6.frozen 9;have x0:=hX6.cell 0;have x1:=hX6.cell 1;have x2:=hX6.cell 2;have x3:=hX6.cell 3;have x4:=hX6.cell 4;have x5:=hX6.cell 5;have x6:=hX6.cell 6;have x7:=hX6.cell 7;have x8:=hX6.cell 8;have x9:=hX6.cell 9;simp only[List.getElem?_toArray,List.getElem?_cons_zero,List.getElem?_cons_succ]at x0 x1 x2 x3 x4 x5 x6 x7 x8 x9
    go_wp2_with fail
    have hX7:=hX6.far (p:=⟨w1.heap.size,5,none⟩) hXN (.int .i64 c);have hP7:=hP6.grown (bH w6 ⟨w1.heap.size,5,none⟩ (.int .i64 c)) (fun m e=>by cases e;exact hBn)
    have hG7:=aE hG6 (bH w6 ⟨w1.heap.size,5,none⟩ (.int .i64 c)) hwn;exact bodyPost_ret (aF (t:=4) rfl _ _ _ _ rfl rfl (hX7.set10 rfl)) rfl ⟨.inl ⟨⟨1,-1,gr,0,-1,c,0,0,0,0⟩,r9,(cG (tu:=-1) hgr (gJ hnl3 hnl4) (dM _ _ _) (by decide) (by decide)).trans (by rw[hc]),rfl,hP7.grown (aI _ w.heap.size) (fun m e=>by cases e;exact hBw)⟩,aE hG7 (aI _ w.heap.size) (Nat.le_refl _)⟩
  go_wp2_with fail
  refine(bQ g B [116,105,103,104,116,101,110,115] ws w2 hP2).mono ?_
  rintro e w4 (⟨r4,rfl,rfl,hP4,hk⟩|⟨hnc4,rfl,rfl⟩)
  case inl=>
   have hX4:=hX2.grownBy hk hneX;have hN4:=hN2.grownBy hk hneN;have hG4:=hG2.trans hk;clear hG2 hk hX2 hN2;have q4:=hN4.cell 4;have qf4:=hN4.frozen 4;simp only[List.getElem?_toArray,List.getElem?_cons_zero,List.getElem?_cons_succ]at q4
   obtain⟨w5,hw5⟩ : ∃w5,w5=w4.setCell ⟨w1.heap.size,4,none⟩ (.int .i64 1):=⟨_,rfl⟩
   go_wp2_with fail
   rw[←hw5];have hN5:BK w5 w1.heap.size 118 #[.int .i64 1,.int .i64 (-1),.int .i64 gr,.int .i64 0,.int .i64 1,.int .i64 0,.int .i64 0,.int .i64 0,.int .i64 0,.int .i64 0]:=by rw[hw5];exact hN4.set_ 4 (.int .i64 1)
   have hX5:BK w5 w.heap.size 118 #[.int .i64 0,.int .i64 0,.int .i64 0,.int .i64 0,.int .i64 0,.int .i64 0,.int .i64 0,.int .i64 0,.int .i64 0,.int .i64 0]:=by rw[hw5];exact hX4.far (p:=⟨w1.heap.size,4,none⟩) hXN (.int .i64 1)
   have hP5:=hP4.grown (bH w4 ⟨w1.heap.size,4,none⟩ (.int .i64 1)) (fun m e=>by cases e;exact hBn)
   have hG5:=aE hG4 (bH w4 ⟨w1.heap.size,4,none⟩ (.int .i64 1)) hwn;rw[←hw5]at hP5 hG5;clear hw5 hN4 hX4 hP4 hG4 q4 qf4;have q4:=hN5.cell 4;simp only[List.getElem?_toArray,List.getElem?_cons_zero,List.getElem?_cons_succ]at q4
   go_wp2_with fail
   clear q4;cases r4 with
   |nil=>
    refine(bW g B w5 hP5).mono ?_
    rintro e w6 ⟨rfl,rfl⟩;go_wp2_with fail
    exact⟨rfl,.inr ⟨cV hgr (gJ hnl3 hnl4) (dL hnc3) (by decide),rfl⟩,hG5⟩
   |cons y r9=>
    refine(bN g B y r9 w5 hP5).mono ?_
    rintro e w6 ⟨rfl,hP6,hk⟩;have hX6:=hX5.grownBy hk hneX;have hN6:=hN5.grownBy hk hneN;have hG6:=hG5.trans hk;clear hG5 hk hX5 hN5;go_wp2_with fail
    refine(cF y w6).mono ?_
    rintro e w7 ⟨⟨c,hc,rfl⟩|⟨hc,rfl⟩,hk⟩
    case inr=>
     have hP7:=hP6.below hk;have hk:=aC (row:=some g) hk;have hX7:=hX6.grownBy hk hneX;have hN7:=hN6.grownBy hk hneN;have hG7:=hG6.trans hk;clear hG6 hk hX6 hN6 hP6;go_wp2_with fail
     exact⟨rfl,.inr ⟨(cG (tu:=-1) hgr (gJ hnl3 hnl4) (dL hnc3) (by decide) (by decide)).trans (by rw[hc]),rfl⟩,hG7⟩
    have hP7:=hP6.below hk;have hk:=aC (row:=some g) hk;have hX7:=hX6.grownBy hk hneX;have hN7:=hN6.grownBy hk hneN;have hG7:=hG6.trans hk;clear hG6 hk hX6 hN6 hP6;have nf0:=hN7.frozen 0;have nf1:=hN7.frozen 1;have nf2:=hN7.frozen 2;have nf3:=hN7.frozen 3;have nf4:=hN7.frozen 4;have nf5:=hN7.frozen 5;have nf6:=hN7.frozen 6;have nf7:=hN7.frozen 7;have nf8:=hN7.frozen 8;have nf9:=hN7.frozen 9;have n0:=hN7.cell 0;have n1:=hN7.cell 1;have n2:=hN7.cell 2;have n3:=hN7.cell 3;have n4:=hN7.cell 4;have n5:=hN7.cell 5;have n6:=hN7.cell 6;have n7:=hN7.cell 7;have n8:=hN7.cell 8;have n9:=hN7.cell 9;simp only[List.getElem?_toArray,List.getElem?_cons_zero,List.getElem?_cons_succ]at n0 n1 n2 n3 n4 n5 n6 n7 n8 n9
    have xf0:=hX7.frozen 0;have xf1:=hX7.frozen 1;have xf2:=hX7.frozen 2;have xf3:=hX7.frozen 3;have xf4:=hX7.frozen 4;have xf5:=hX7.frozen 5;have xf6:=hX7.frozen 6;have xf7:=hX7.frozen 7;have xf8:=hX7.frozen 8;have xf9:=hX7.frozen 9;have x0:=hX7.cell 0;have x1:=hX7.cell 1;have x2:=hX7.cell 2;have x3:=hX7.cell 3;have x4:=hX7.cell 4;have x5:=hX7.cell 5;have x6:=hX7.cell 6;have x7:=hX7.cell 7;have x8:=hX7.cell 8;have x9:=hX7.cell 9;simp only[List.getElem?_toArray,List.getElem?_cons_zero,List.getElem?_cons_succ]at x0 x1 x2 x3 x4 x5 x6 x7 x8 x9
    go_wp2_with fail
    have hX8:=hX7.far (p:=⟨w1.heap.size,5,none⟩) hXN (.int .i64 c);have hP8:=hP7.grown (bH w7 ⟨w1.heap.size,5,none⟩ (.int .i64 c)) (fun m e=>by cases e;exact hBn)
    have hG8:=aE hG7 (bH w7 ⟨w1.heap.size,5,none⟩ (.int .i64 c)) hwn;exact bodyPost_ret (aF (t:=4) rfl _ _ _ _ rfl rfl (hX8.set10 rfl)) rfl ⟨.inl ⟨⟨1,-1,gr,0,1,c,0,0,0,0⟩,r9,(cG (tu:=-1) hgr (gJ hnl3 hnl4) (dL hnc3) (by decide) (by decide)).trans (by rw[hc]),rfl,hP8.grown (aI _ w.heap.size) (fun m e=>by cases e;exact hBw)⟩,aE hG8 (aI _ w.heap.size) (Nat.le_refl _)⟩
  have q4:=hN2.cell 4;simp only[List.getElem?_toArray,List.getElem?_cons_zero,List.getElem?_cons_succ]at q4
  have nf0:=hN2.frozen 0;have nf1:=hN2.frozen 1;have nf2:=hN2.frozen 2;have nf3:=hN2.frozen 3;have nf4:=hN2.frozen 4;have nf5:=hN2.frozen 5;have nf6:=hN2.frozen 6;have nf7:=hN2.frozen 7;have nf8:=hN2.frozen 8;have nf9:=hN2.frozen 9;have n0:=hN2.cell 0;have n1:=hN2.cell 1;have n2:=hN2.cell 2;have n3:=hN2.cell 3;have n4:=hN2.cell 4;have n5:=hN2.cell 5;have n6:=hN2.cell 6;have n7:=hN2.cell 7;have n8:=hN2.cell 8;have n9:=hN2.cell 9;simp only[List.getElem?_toArray,List.getElem?_cons_zero,List.getElem?_cons_succ]at n0 n1 n2 n3 n4 n5 n6 n7 n8 n9
  have xf0:=hX2.frozen 0;have xf1:=hX2.frozen 1;have xf2:=hX2.frozen 2;have xf3:=hX2.frozen 3;have xf4:=hX2.frozen 4;have xf5:=hX2.frozen 5;have xf6:=hX2.frozen 6;have xf7:=hX2.frozen 7;have xf8:=hX2.frozen 8;have xf9:=hX2.frozen 9;have x0:=hX2.cell 0;have x1:=hX2.cell 1;have x2:=hX2.cell 2;have x3:=hX2.cell 3;have x4:=hX2.cell 4;have x5:=hX2.cell 5;have x6:=hX2.cell 6;have x7:=hX2.cell 7;have x8:=hX2.cell 8;have x9:=hX2.cell 9;simp only[List.getElem?_toArray,List.getElem?_cons_zero,List.getElem?_cons_succ]at x0 x1 x2 x3 x4 x5 x6 x7 x8 x9
  go_wp2_with fail
  exact bodyPost_ret (aF (t:=4) rfl _ _ _ _ rfl rfl (hX2.set10 rfl)) rfl ⟨.inl ⟨⟨1,-1,gr,0,0,0,0,0,0,0⟩,ws,mR hgr (gJ hnl3 hnl4) (gJ hnc3 hnc4) (by decide),rfl,hP2.grown (aI _ w.heap.size) (fun m e=>by cases e;exact hBw)⟩,aE hG2 (aI _ w.heap.size) (Nat.le_refl _)⟩
 ·
  obtain⟨w2,hw2⟩ : ∃w2,w2=w1.alloc (.cells #[.int .i64 1,.int .i64 1,.int .i64 gr,.int .i64 0,.int .i64 0,.int .i64 0,.int .i64 0,.int .i64 0,.int .i64 0,.int .i64 0] 118):=⟨_,rfl⟩
  have hk:Below w1.heap.size w1 w2:=by rw[hw2];exact(Below.refl _ _).alloc (Nat.le_refl _) _
  have hN2:BK w2 w1.heap.size 118 #[.int .i64 1,.int .i64 1,.int .i64 gr,.int .i64 0,.int .i64 0,.int .i64 0,.int .i64 0,.int .i64 0,.int .i64 0,.int .i64 0]:=by rw[hw2];exact BK.new w1 _ _
  have hsz1:=hG1.size;have hneN:some w1.heap.size≠some g:=by simp;omega
  have hXN:w.heap.size≠w1.heap.size:=by have:=hX1.lt;omega
  have hP2:=hP1.below hk;have hk:=aC (row:=some g) hk;have hX2:=hX1.grownBy hk hneX;have hG2:=hG1.trans hk;clear hG1 hk hX1 hP1;have hwn:w.heap.size≤w1.heap.size:=hsz1;have hBn:B≤w1.heap.size:=Nat.le_trans hBw hwn;go_wp2_with fail
  rw[←hw2];clear hw2;refine(bQ g B [115,104,111,114,116] ws w2 hP2).mono ?_
  rintro e w3 (⟨r3,rfl,rfl,hP3,hk⟩|⟨hnl3,rfl,rfl⟩)
  case inl=>
   have hX3:=hX2.grownBy hk hneX;have hN3:=hN2.grownBy hk hneN;have hG3:=hG2.trans hk;clear hG2 hk hX2 hN2;have q3:=hN3.cell 3;have qf3:=hN3.frozen 3;simp only[List.getElem?_toArray,List.getElem?_cons_zero,List.getElem?_cons_succ]at q3
   obtain⟨w4,hw4⟩ : ∃w4,w4=w3.setCell ⟨w1.heap.size,3,none⟩ (.int .i64 (-1)):=⟨_,rfl⟩
   go_wp2_with fail
   rw[←hw4];have hN4:BK w4 w1.heap.size 118 #[.int .i64 1,.int .i64 1,.int .i64 gr,.int .i64 (-1),.int .i64 0,.int .i64 0,.int .i64 0,.int .i64 0,.int .i64 0,.int .i64 0]:=by rw[hw4];exact hN3.set_ 3 (.int .i64 (-1))
   have hX4:BK w4 w.heap.size 118 #[.int .i64 0,.int .i64 0,.int .i64 0,.int .i64 0,.int .i64 0,.int .i64 0,.int .i64 0,.int .i64 0,.int .i64 0,.int .i64 0]:=by rw[hw4];exact hX3.far (p:=⟨w1.heap.size,3,none⟩) hXN (.int .i64 (-1))
   have hP4:=hP3.grown (bH w3 ⟨w1.heap.size,3,none⟩ (.int .i64 (-1))) (fun m e=>by cases e;exact hBn)
   have hG4:=aE hG3 (bH w3 ⟨w1.heap.size,3,none⟩ (.int .i64 (-1))) hwn;rw[←hw4]at hP4 hG4;clear hw4 hN3 hX3 hP3 hG3 q3 qf3;go_wp2_with fail
   refine(bQ g B [111,112,101,110,115] r3 w4 hP4).mono ?_
   rintro e w5 (⟨r5,rfl,rfl,hP5,hk⟩|⟨hnc5,rfl,rfl⟩)
   case inl=>
    have hX5:=hX4.grownBy hk hneX;have hN5:=hN4.grownBy hk hneN;have hG5:=hG4.trans hk;clear hG4 hk hX4 hN4;have q4:=hN5.cell 4;have qf4:=hN5.frozen 4;simp only[List.getElem?_toArray,List.getElem?_cons_zero,List.getElem?_cons_succ]at q4
    obtain⟨w6,hw6⟩ : ∃w6,w6=w5.setCell ⟨w1.heap.size,4,none⟩ (.int .i64 (-1)):=⟨_,rfl⟩
    go_wp2_with fail
    rw[←hw6];have hN6:BK w6 w1.heap.size 118 #[.int .i64 1,.int .i64 1,.int .i64 gr,.int .i64 (-1),.int .i64 (-1),.int .i64 0,.int .i64 0,.int .i64 0,.int .i64 0,.int .i64 0]:=by rw[hw6];exact hN5.set_ 4 (.int .i64 (-1))
    have hX6:BK w6 w.heap.size 118 #[.int .i64 0,.int .i64 0,.int .i64 0,.int .i64 0,.int .i64 0,.int .i64 0,.int .i64 0,.int .i64 0,.int .i64 0,.int .i64 0]:=by rw[hw6];exact hX5.far (p:=⟨w1.heap.size,4,none⟩) hXN (.int .i64 (-1))
    have hP6:=hP5.grown (bH w5 ⟨w1.heap.size,4,none⟩ (.int .i64 (-1))) (fun m e=>by cases e;exact hBn)
    have hG6:=aE hG5 (bH w5 ⟨w1.heap.size,4,none⟩ (.int .i64 (-1))) hwn;rw[←hw6]at hP6 hG6;clear hw6 hN5 hX5 hP5 hG5 q4 qf4;have q4:=hN6.cell 4;simp only[List.getElem?_toArray,List.getElem?_cons_zero,List.getElem?_cons_succ]at q4
    go_wp2_with fail
    clear q4;cases r5 with
    |nil=>
     refine(bW g B w6 hP6).mono ?_
     rintro e w7 ⟨rfl,rfl⟩;go_wp2_with fail
     exact⟨rfl,.inr ⟨cV hgr (dM _ _ _) (dM _ _ _) (by decide),rfl⟩,hG6⟩
    |cons y r9=>
     refine(bN g B y r9 w6 hP6).mono ?_
     rintro e w7 ⟨rfl,hP7,hk⟩;have hX7:=hX6.grownBy hk hneX;have hN7:=hN6.grownBy hk hneN;have hG7:=hG6.trans hk;clear hG6 hk hX6 hN6;go_wp2_with fail
     refine(cF y w7).mono ?_
     rintro e w8 ⟨⟨c,hc,rfl⟩|⟨hc,rfl⟩,hk⟩
     case inr=>
      have hP8:=hP7.below hk;have hk:=aC (row:=some g) hk;have hX8:=hX7.grownBy hk hneX;have hN8:=hN7.grownBy hk hneN;have hG8:=hG7.trans hk;clear hG7 hk hX7 hN7 hP7;go_wp2_with fail
      exact⟨rfl,.inr ⟨(cG (tu:=1) hgr (dM _ _ _) (dM _ _ _) (by decide) (by decide)).trans (by rw[hc]),rfl⟩,hG8⟩
     have hP8:=hP7.below hk;have hk:=aC (row:=some g) hk;have hX8:=hX7.grownBy hk hneX;have hN8:=hN7.grownBy hk hneN;have hG8:=hG7.trans hk;clear hG7 hk hX7 hN7 hP7;have nf0:=hN8.frozen 0;have nf1:=hN8.frozen 1;have nf2:=hN8.frozen 2;have nf3:=hN8.frozen 3;have nf4:=hN8.frozen 4;have nf5:=hN8.frozen 5;have nf6:=hN8.frozen 6;have nf7:=hN8.frozen 7;have nf8:=hN8.frozen 8;have nf9:=hN8.frozen 9;have n0:=hN8.cell 0;have n1:=hN8.cell 1;have n2:=hN8.cell 2;have n3:=hN8.cell 3;have n4:=hN8.cell 4;have n5:=hN8.cell 5;have n6:=hN8.cell 6;have n7:=hN8.cell 7;have n8:=hN8.cell 8;have n9:=hN8.cell 9;simp only[List.getElem?_toArray,List.getElem?_cons_zero,List.getElem?_cons_succ]at n0 n1 n2 n3 n4 n5 n6 n7 n8 n9
     have xf0:=hX8.frozen 0;have xf1:=hX8.frozen 1;have xf2:=hX8.frozen 2;have xf3:=hX8.frozen 3;have xf4:=hX8.frozen 4;have xf5:=hX8.frozen 5;have xf6:=hX8.frozen 6;have xf7:=hX8.frozen 7;have xf8:=hX8.frozen 8;have xf9:=hX8.frozen 9;have x0:=hX8.cell 0;have x1:=hX8.cell 1;have x2:=hX8.cell 2;have x3:=hX8.cell 3;have x4:=hX8.cell 4;have x5:=hX8.cell 5;have x6:=hX8.cell 6;have x7:=hX8.cell 7;have x8:=hX8.cell 8;have x9:=hX8.cell 9;simp only[List.getElem?_toArray,List.getElem?_cons_zero,List.getElem?_cons_succ]at x0 x1 x2 x3 x4 x5 x6 x7 x8 x9
     go_wp2_with fail
     have hX9:=hX8.far (p:=⟨w1.heap.size,5,none⟩) hXN (.int .i64 c);have hP9:=hP8.grown (bH w8 ⟨w1.heap.size,5,none⟩ (.int .i64 c)) (fun m e=>by cases e;exact hBn)
     have hG9:=aE hG8 (bH w8 ⟨w1.heap.size,5,none⟩ (.int .i64 c)) hwn;exact bodyPost_ret (aF (t:=4) rfl _ _ _ _ rfl rfl (hX9.set10 rfl)) rfl ⟨.inl ⟨⟨1,1,gr,-1,-1,c,0,0,0,0⟩,r9,(cG (tu:=1) hgr (dM _ _ _) (dM _ _ _) (by decide) (by decide)).trans (by rw[hc]),rfl,hP9.grown (aI _ w.heap.size) (fun m e=>by cases e;exact hBw)⟩,aE hG9 (aI _ w.heap.size) (Nat.le_refl _)⟩
   go_wp2_with fail
   refine(bQ g B [116,105,103,104,116,101,110,115] r3 w4 hP4).mono ?_
   rintro e w6 (⟨r6,rfl,rfl,hP6,hk⟩|⟨hnc6,rfl,rfl⟩)
   case inl=>
    have hX6:=hX4.grownBy hk hneX;have hN6:=hN4.grownBy hk hneN;have hG6:=hG4.trans hk;clear hG4 hk hX4 hN4;have q4:=hN6.cell 4;have qf4:=hN6.frozen 4;simp only[List.getElem?_toArray,List.getElem?_cons_zero,List.getElem?_cons_succ]at q4
    obtain⟨w7,hw7⟩ : ∃w7,w7=w6.setCell ⟨w1.heap.size,4,none⟩ (.int .i64 1):=⟨_,rfl⟩
    go_wp2_with fail
    rw[←hw7];have hN7:BK w7 w1.heap.size 118 #[.int .i64 1,.int .i64 1,.int .i64 gr,.int .i64 (-1),.int .i64 1,.int .i64 0,.int .i64 0,.int .i64 0,.int .i64 0,.int .i64 0]:=by rw[hw7];exact hN6.set_ 4 (.int .i64 1)
    have hX7:BK w7 w.heap.size 118 #[.int .i64 0,.int .i64 0,.int .i64 0,.int .i64 0,.int .i64 0,.int .i64 0,.int .i64 0,.int .i64 0,.int .i64 0,.int .i64 0]:=by rw[hw7];exact hX6.far (p:=⟨w1.heap.size,4,none⟩) hXN (.int .i64 1)
    have hP7:=hP6.grown (bH w6 ⟨w1.heap.size,4,none⟩ (.int .i64 1)) (fun m e=>by cases e;exact hBn)
    have hG7:=aE hG6 (bH w6 ⟨w1.heap.size,4,none⟩ (.int .i64 1)) hwn;rw[←hw7]at hP7 hG7;clear hw7 hN6 hX6 hP6 hG6 q4 qf4;have q4:=hN7.cell 4;simp only[List.getElem?_toArray,List.getElem?_cons_zero,List.getElem?_cons_succ]at q4
    go_wp2_with fail
    clear q4;cases r6 with
    |nil=>
     refine(bW g B w7 hP7).mono ?_
     rintro e w8 ⟨rfl,rfl⟩;go_wp2_with fail
     exact⟨rfl,.inr ⟨cV hgr (dM _ _ _) (dL hnc5) (by decide),rfl⟩,hG7⟩
    |cons y r9=>
     refine(bN g B y r9 w7 hP7).mono ?_
     rintro e w8 ⟨rfl,hP8,hk⟩;have hX8:=hX7.grownBy hk hneX;have hN8:=hN7.grownBy hk hneN;have hG8:=hG7.trans hk;clear hG7 hk hX7 hN7;go_wp2_with fail
     refine(cF y w8).mono ?_
     rintro e w9 ⟨⟨c,hc,rfl⟩|⟨hc,rfl⟩,hk⟩
     case inr=>
      have hP9:=hP8.below hk;have hk:=aC (row:=some g) hk;have hX9:=hX8.grownBy hk hneX;have hN9:=hN8.grownBy hk hneN;have hG9:=hG8.trans hk;clear hG8 hk hX8 hN8 hP8;go_wp2_with fail
      exact⟨rfl,.inr ⟨(cG (tu:=1) hgr (dM _ _ _) (dL hnc5) (by decide) (by decide)).trans (by rw[hc]),rfl⟩,hG9⟩
     have hP9:=hP8.below hk;have hk:=aC (row:=some g) hk;have hX9:=hX8.grownBy hk hneX;have hN9:=hN8.grownBy hk hneN;have hG9:=hG8.trans hk;clear hG8 hk hX8 hN8 hP8;have nf0:=hN9.frozen 0;have nf1:=hN9.frozen 1;have nf2:=hN9.frozen 2;have nf3:=hN9.frozen 3;have nf4:=hN9.frozen 4;have nf5:=hN9.frozen 5;have nf6:=hN9.frozen 6;have nf7:=hN9.frozen 7;have nf8:=hN9.frozen 8;have nf9:=hN9.frozen 9;have n0:=hN9.cell 0;have n1:=hN9.cell 1;have n2:=hN9.cell 2;have n3:=hN9.cell 3;have n4:=hN9.cell 4;have n5:=hN9.cell 5;have n6:=hN9.cell 6;have n7:=hN9.cell 7;have n8:=hN9.cell 8;have n9:=hN9.cell 9;simp only[List.getElem?_toArray,List.getElem?_cons_zero,List.getElem?_cons_succ]at n0 n1 n2 n3 n4 n5 n6 n7 n8 n9
     have xf0:=hX9.frozen 0;have xf1:=hX9.frozen 1;have xf2:=hX9.frozen 2;have xf3:=hX9.frozen 3;have xf4:=hX9.frozen 4;have xf5:=hX9.frozen 5;have xf6:=hX9.frozen 6;have xf7:=hX9.frozen 7;have xf8:=hX9.frozen 8;have xf9:=hX9.frozen 9;have x0:=hX9.cell 0;have x1:=hX9.cell 1;have x2:=hX9.cell 2;have x3:=hX9.cell 3;have x4:=hX9.cell 4;have x5:=hX9.cell 5;have x6:=hX9.cell 6;have x7:=hX9.cell 7;have x8:=hX9.cell 8;have x9:=hX9.cell 9;simp only[List.getElem?_toArray,List.getElem?_cons_zero,List.getElem?_cons_succ]at x0 x1 x2 x3 x4 x5 x6 x7 x8 x9
     go_wp2_with fail
     have hX10:=hX9.far (p:=⟨w1.heap.size,5,none⟩) hXN (.int .i64 c);have hP10:=hP9.grown (bH w9 ⟨w1.heap.size,5,none⟩ (.int .i64 c)) (fun m e=>by cases e;exact hBn)
     have hG10:=aE hG9 (bH w9 ⟨w1.heap.size,5,none⟩ (.int .i64 c)) hwn;exact bodyPost_ret (aF (t:=4) rfl _ _ _ _ rfl rfl (hX10.set10 rfl)) rfl ⟨.inl ⟨⟨1,1,gr,-1,1,c,0,0,0,0⟩,r9,(cG (tu:=1) hgr (dM _ _ _) (dL hnc5) (by decide) (by decide)).trans (by rw[hc]),rfl,hP10.grown (aI _ w.heap.size) (fun m e=>by cases e;exact hBw)⟩,aE hG10 (aI _ w.heap.size) (Nat.le_refl _)⟩
   have q4:=hN4.cell 4;simp only[List.getElem?_toArray,List.getElem?_cons_zero,List.getElem?_cons_succ]at q4
   have nf0:=hN4.frozen 0;have nf1:=hN4.frozen 1;have nf2:=hN4.frozen 2;have nf3:=hN4.frozen 3;have nf4:=hN4.frozen 4;have nf5:=hN4.frozen 5;have nf6:=hN4.frozen 6;have nf7:=hN4.frozen 7;have nf8:=hN4.frozen 8;have nf9:=hN4.frozen 9;have n0:=hN4.cell 0;have n1:=hN4.cell 1;have n2:=hN4.cell 2;have n3:=hN4.cell 3;have n4:=hN4.cell 4;have n5:=hN4.cell 5;have n6:=hN4.cell 6;have n7:=hN4.cell 7;have n8:=hN4.cell 8;have n9:=hN4.cell 9;simp only[List.getElem?_toArray,List.getElem?_cons_zero,List.getElem?_cons_succ]at n0 n1 n2 n3 n4 n5 n6 n7 n8 n9
   have xf0:=hX4.frozen 0;have xf1:=hX4.frozen 1;have xf2:=hX4.frozen 2;have xf3:=hX4.frozen 3;have xf4:=hX4.frozen 4;have xf5:=hX4.frozen 5;have xf6:=hX4.frozen 6;have xf7:=hX4.frozen 7;have xf8:=hX4.frozen 8;have xf9:=hX4.frozen 9;have x0:=hX4.cell 0;have x1:=hX4.cell 1;have x2:=hX4.cell 2;have x3:=hX4.cell 3;have x4:=hX4.cell 4;have x5:=hX4.cell 5;have x6:=hX4.cell 6;have x7:=hX4.cell 7;have x8:=hX4.cell 8;have x9:=hX4.cell 9;simp only[List.getElem?_toArray,List.getElem?_cons_zero,List.getElem?_cons_succ]at x0 x1 x2 x3 x4 x5 x6 x7 x8 x9
   go_wp2_with fail
   exact bodyPost_ret (aF (t:=4) rfl _ _ _ _ rfl rfl (hX4.set10 rfl)) rfl ⟨.inl ⟨⟨1,1,gr,-1,0,0,0,0,0,0⟩,r3,mR hgr (dM _ _ _) (gJ hnc5 hnc6) (by decide),rfl,hP4.grown (aI _ w.heap.size) (fun m e=>by cases e;exact hBw)⟩,aE hG4 (aI _ w.heap.size) (Nat.le_refl _)⟩
  go_wp2_with fail
  refine(bQ g B [108,111,110,103] ws w2 hP2).mono ?_
  rintro e w4 (⟨r4,rfl,rfl,hP4,hk⟩|⟨hnl4,rfl,rfl⟩)
  case inl=>
   have hX4:=hX2.grownBy hk hneX;have hN4:=hN2.grownBy hk hneN;have hG4:=hG2.trans hk;clear hG2 hk hX2 hN2;have q3:=hN4.cell 3;have qf3:=hN4.frozen 3;simp only[List.getElem?_toArray,List.getElem?_cons_zero,List.getElem?_cons_succ]at q3
   obtain⟨w5,hw5⟩ : ∃w5,w5=w4.setCell ⟨w1.heap.size,3,none⟩ (.int .i64 1):=⟨_,rfl⟩
   go_wp2_with fail
   rw[←hw5];have hN5:BK w5 w1.heap.size 118 #[.int .i64 1,.int .i64 1,.int .i64 gr,.int .i64 1,.int .i64 0,.int .i64 0,.int .i64 0,.int .i64 0,.int .i64 0,.int .i64 0]:=by rw[hw5];exact hN4.set_ 3 (.int .i64 1)
   have hX5:BK w5 w.heap.size 118 #[.int .i64 0,.int .i64 0,.int .i64 0,.int .i64 0,.int .i64 0,.int .i64 0,.int .i64 0,.int .i64 0,.int .i64 0,.int .i64 0]:=by rw[hw5];exact hX4.far (p:=⟨w1.heap.size,3,none⟩) hXN (.int .i64 1)
   have hP5:=hP4.grown (bH w4 ⟨w1.heap.size,3,none⟩ (.int .i64 1)) (fun m e=>by cases e;exact hBn)
   have hG5:=aE hG4 (bH w4 ⟨w1.heap.size,3,none⟩ (.int .i64 1)) hwn;rw[←hw5]at hP5 hG5;clear hw5 hN4 hX4 hP4 hG4 q3 qf3;go_wp2_with fail
   refine(bQ g B [111,112,101,110,115] r4 w5 hP5).mono ?_
   rintro e w6 (⟨r6,rfl,rfl,hP6,hk⟩|⟨hnc6,rfl,rfl⟩)
   case inl=>
    have hX6:=hX5.grownBy hk hneX;have hN6:=hN5.grownBy hk hneN;have hG6:=hG5.trans hk;clear hG5 hk hX5 hN5;have q4:=hN6.cell 4;have qf4:=hN6.frozen 4;simp only[List.getElem?_toArray,List.getElem?_cons_zero,List.getElem?_cons_succ]at q4
    obtain⟨w7,hw7⟩ : ∃w7,w7=w6.setCell ⟨w1.heap.size,4,none⟩ (.int .i64 (-1)):=⟨_,rfl⟩
    go_wp2_with fail
    rw[←hw7];have hN7:BK w7 w1.heap.size 118 #[.int .i64 1,.int .i64 1,.int .i64 gr,.int .i64 1,.int .i64 (-1),.int .i64 0,.int .i64 0,.int .i64 0,.int .i64 0,.int .i64 0]:=by rw[hw7];exact hN6.set_ 4 (.int .i64 (-1))
    have hX7:BK w7 w.heap.size 118 #[.int .i64 0,.int .i64 0,.int .i64 0,.int .i64 0,.int .i64 0,.int .i64 0,.int .i64 0,.int .i64 0,.int .i64 0,.int .i64 0]:=by rw[hw7];exact hX6.far (p:=⟨w1.heap.size,4,none⟩) hXN (.int .i64 (-1))
    have hP7:=hP6.grown (bH w6 ⟨w1.heap.size,4,none⟩ (.int .i64 (-1))) (fun m e=>by cases e;exact hBn)
    have hG7:=aE hG6 (bH w6 ⟨w1.heap.size,4,none⟩ (.int .i64 (-1))) hwn;rw[←hw7]at hP7 hG7;clear hw7 hN6 hX6 hP6 hG6 q4 qf4;have q4:=hN7.cell 4;simp only[List.getElem?_toArray,List.getElem?_cons_zero,List.getElem?_cons_succ]at q4
    go_wp2_with fail
    clear q4;cases r6 with
    |nil=>
     refine(bW g B w7 hP7).mono ?_
     rintro e w8 ⟨rfl,rfl⟩;go_wp2_with fail
     exact⟨rfl,.inr ⟨cV hgr (dL hnl3) (dM _ _ _) (by decide),rfl⟩,hG7⟩
    |cons y r9=>
     refine(bN g B y r9 w7 hP7).mono ?_
     rintro e w8 ⟨rfl,hP8,hk⟩;have hX8:=hX7.grownBy hk hneX;have hN8:=hN7.grownBy hk hneN;have hG8:=hG7.trans hk;clear hG7 hk hX7 hN7;go_wp2_with fail
     refine(cF y w8).mono ?_
     rintro e w9 ⟨⟨c,hc,rfl⟩|⟨hc,rfl⟩,hk⟩
     case inr=>
      have hP9:=hP8.below hk;have hk:=aC (row:=some g) hk;have hX9:=hX8.grownBy hk hneX;have hN9:=hN8.grownBy hk hneN;have hG9:=hG8.trans hk;clear hG8 hk hX8 hN8 hP8;go_wp2_with fail
      exact⟨rfl,.inr ⟨(cG (tu:=1) hgr (dL hnl3) (dM _ _ _) (by decide) (by decide)).trans (by rw[hc]),rfl⟩,hG9⟩
     have hP9:=hP8.below hk;have hk:=aC (row:=some g) hk;have hX9:=hX8.grownBy hk hneX;have hN9:=hN8.grownBy hk hneN;have hG9:=hG8.trans hk;clear hG8 hk hX8 hN8 hP8;have nf0:=hN9.frozen 0;have nf1:=hN9.frozen 1;have nf2:=hN9.frozen 2;have nf3:=hN9.frozen 3;have nf4:=hN9.frozen 4;have nf5:=hN9.frozen 5;have nf6:=hN9.frozen 6;have nf7:=hN9.frozen 7;have nf8:=hN9.frozen 8;have nf9:=hN9.frozen 9;have n0:=hN9.cell 0;have n1:=hN9.cell 1;have n2:=hN9.cell 2;have n3:=hN9.cell 3;have n4:=hN9.cell 4;have n5:=hN9.cell 5;have n6:=hN9.cell 6;have n7:=hN9.cell 7;have n8:=hN9.cell 8;have n9:=hN9.cell 9;simp only[List.getElem?_toArray,List.getElem?_cons_zero,List.getElem?_cons_succ]at n0 n1 n2 n3 n4 n5 n6 n7 n8 n9
     have xf0:=hX9.frozen 0;have xf1:=hX9.frozen 1;have xf2:=hX9.frozen 2;have xf3:=hX9.frozen 3;have xf4:=hX9.frozen 4;have xf5:=hX9.frozen 5;have xf6:=hX9.frozen 6;have xf7:=hX9.frozen 7;have xf8:=hX9.frozen 8;have xf9:=hX9.frozen 9;have x0:=hX9.cell 0;have x1:=hX9.cell 1;have x2:=hX9.cell 2;have x3:=hX9.cell 3;have x4:=hX9.cell 4;have x5:=hX9.cell 5;have x6:=hX9.cell 6;have x7:=hX9.cell 7;have x8:=hX9.cell 8;have x9:=hX9.cell 9;simp only[List.getElem?_toArray,List.getElem?_cons_zero,List.getElem?_cons_succ]at x0 x1 x2 x3 x4 x5 x6 x7 x8 x9
     go_wp2_with fail
     have hX10:=hX9.far (p:=⟨w1.heap.size,5,none⟩) hXN (.int .i64 c);have hP10:=hP9.grown (bH w9 ⟨w1.heap.size,5,none⟩ (.int .i64 c)) (fun m e=>by cases e;exact hBn)
     have hG10:=aE hG9 (bH w9 ⟨w1.heap.size,5,none⟩ (.int .i64 c)) hwn;exact bodyPost_ret (aF (t:=4) rfl _ _ _ _ rfl rfl (hX10.set10 rfl)) rfl ⟨.inl ⟨⟨1,1,gr,1,-1,c,0,0,0,0⟩,r9,(cG (tu:=1) hgr (dL hnl3) (dM _ _ _) (by decide) (by decide)).trans (by rw[hc]),rfl,hP10.grown (aI _ w.heap.size) (fun m e=>by cases e;exact hBw)⟩,aE hG10 (aI _ w.heap.size) (Nat.le_refl _)⟩
   go_wp2_with fail
   refine(bQ g B [116,105,103,104,116,101,110,115] r4 w5 hP5).mono ?_
   rintro e w7 (⟨r7,rfl,rfl,hP7,hk⟩|⟨hnc7,rfl,rfl⟩)
   case inl=>
    have hX7:=hX5.grownBy hk hneX;have hN7:=hN5.grownBy hk hneN;have hG7:=hG5.trans hk;clear hG5 hk hX5 hN5;have q4:=hN7.cell 4;have qf4:=hN7.frozen 4;simp only[List.getElem?_toArray,List.getElem?_cons_zero,List.getElem?_cons_succ]at q4
    obtain⟨w8,hw8⟩ : ∃w8,w8=w7.setCell ⟨w1.heap.size,4,none⟩ (.int .i64 1):=⟨_,rfl⟩
    go_wp2_with fail
    rw[←hw8];have hN8:BK w8 w1.heap.size 118 #[.int .i64 1,.int .i64 1,.int .i64 gr,.int .i64 1,.int .i64 1,.int .i64 0,.int .i64 0,.int .i64 0,.int .i64 0,.int .i64 0]:=by rw[hw8];exact hN7.set_ 4 (.int .i64 1)
    have hX8:BK w8 w.heap.size 118 #[.int .i64 0,.int .i64 0,.int .i64 0,.int .i64 0,.int .i64 0,.int .i64 0,.int .i64 0,.int .i64 0,.int .i64 0,.int .i64 0]:=by rw[hw8];exact hX7.far (p:=⟨w1.heap.size,4,none⟩) hXN (.int .i64 1)
    have hP8:=hP7.grown (bH w7 ⟨w1.heap.size,4,none⟩ (.int .i64 1)) (fun m e=>by cases e;exact hBn)
    have hG8:=aE hG7 (bH w7 ⟨w1.heap.size,4,none⟩ (.int .i64 1)) hwn;rw[←hw8]at hP8 hG8;clear hw8 hN7 hX7 hP7 hG7 q4 qf4;have q4:=hN8.cell 4;simp only[List.getElem?_toArray,List.getElem?_cons_zero,List.getElem?_cons_succ]at q4
    go_wp2_with fail
    clear q4;cases r7 with
    |nil=>
     refine(bW g B w8 hP8).mono ?_
     rintro e w9 ⟨rfl,rfl⟩;go_wp2_with fail
     exact⟨rfl,.inr ⟨cV hgr (dL hnl3) (dL hnc6) (by decide),rfl⟩,hG8⟩
    |cons y r9=>
     refine(bN g B y r9 w8 hP8).mono ?_
     rintro e w9 ⟨rfl,hP9,hk⟩;have hX9:=hX8.grownBy hk hneX;have hN9:=hN8.grownBy hk hneN;have hG9:=hG8.trans hk;clear hG8 hk hX8 hN8;go_wp2_with fail
     refine(cF y w9).mono ?_
     rintro e w10 ⟨⟨c,hc,rfl⟩|⟨hc,rfl⟩,hk⟩
     case inr=>
      have hP10:=hP9.below hk;have hk:=aC (row:=some g) hk;have hX10:=hX9.grownBy hk hneX;have hN10:=hN9.grownBy hk hneN;have hG10:=hG9.trans hk;clear hG9 hk hX9 hN9 hP9;go_wp2_with fail
      exact⟨rfl,.inr ⟨(cG (tu:=1) hgr (dL hnl3) (dL hnc6) (by decide) (by decide)).trans (by rw[hc]),rfl⟩,hG10⟩
     have hP10:=hP9.below hk;have hk:=aC (row:=some g) hk;have hX10:=hX9.grownBy hk hneX;have hN10:=hN9.grownBy hk hneN;have hG10:=hG9.trans hk;clear hG9 hk hX9 hN9 hP9;have nf0:=hN10.frozen 0;have nf1:=hN10.frozen 1;have nf2:=hN10.frozen 2;have nf3:=hN10.frozen 3;have nf4:=hN10.frozen 4;have nf5:=hN10.frozen 5;have nf6:=hN10.frozen 6;have nf7:=hN10.frozen 7;have nf8:=hN10.frozen 8;have nf9:=hN10.frozen 9;have n0:=hN10.cell 0;have n1:=hN10.cell 1;have n2:=hN10.cell 2;have n3:=hN10.cell 3;have n4:=hN10.cell 4;have n5:=hN10.cell 5;have n6:=hN10.cell 6;have n7:=hN10.cell 7;have n8:=hN10.cell 8;have n9:=hN10.cell 9;simp only[List.getElem?_toArray,List.getElem?_cons_zero,List.getElem?_cons_succ]at n0 n1 n2 n3 n4 n5 n6 n7 n8 n9
     have xf0:=hX10.frozen 0;have xf1:=hX10.frozen 1;have xf2:=hX10.frozen 2;have xf3:=hX10.frozen 3;have xf4:=hX10.frozen 4;have xf5:=hX10.frozen 5;have xf6:=hX10.frozen 6;have xf7:=hX10.frozen 7;have xf8:=hX10.frozen 8;have xf9:=hX10.frozen 9;have x0:=hX10.cell 0;have x1:=hX10.cell 1;have x2:=hX10.cell 2;have x3:=hX10.cell 3;have x4:=hX10.cell 4;have x5:=hX10.cell 5;have x6:=hX10.cell 6;have x7:=hX10.cell 7;have x8:=hX10.cell 8;have x9:=hX10.cell 9;simp only[List.getElem?_toArray,List.getElem?_cons_zero,List.getElem?_cons_succ]at x0 x1 x2 x3 x4 x5 x6 x7 x8 x9
     go_wp2_with fail
     have hX11:=hX10.far (p:=⟨w1.heap.size,5,none⟩) hXN (.int .i64 c);have hP11:=hP10.grown (bH w10 ⟨w1.heap.size,5,none⟩ (.int .i64 c)) (fun m e=>by cases e;exact hBn)
     have hG11:=aE hG10 (bH w10 ⟨w1.heap.size,5,none⟩ (.int .i64 c)) hwn;exact bodyPost_ret (aF (t:=4) rfl _ _ _ _ rfl rfl (hX11.set10 rfl)) rfl ⟨.inl ⟨⟨1,1,gr,1,1,c,0,0,0,0⟩,r9,(cG (tu:=1) hgr (dL hnl3) (dL hnc6) (by decide) (by decide)).trans (by rw[hc]),rfl,hP11.grown (aI _ w.heap.size) (fun m e=>by cases e;exact hBw)⟩,aE hG11 (aI _ w.heap.size) (Nat.le_refl _)⟩
   have q4:=hN5.cell 4;simp only[List.getElem?_toArray,List.getElem?_cons_zero,List.getElem?_cons_succ]at q4
   have nf0:=hN5.frozen 0;have nf1:=hN5.frozen 1;have nf2:=hN5.frozen 2;have nf3:=hN5.frozen 3;have nf4:=hN5.frozen 4;have nf5:=hN5.frozen 5;have nf6:=hN5.frozen 6;have nf7:=hN5.frozen 7;have nf8:=hN5.frozen 8;have nf9:=hN5.frozen 9;have n0:=hN5.cell 0;have n1:=hN5.cell 1;have n2:=hN5.cell 2;have n3:=hN5.cell 3;have n4:=hN5.cell 4;have n5:=hN5.cell 5;have n6:=hN5.cell 6;have n7:=hN5.cell 7;have n8:=hN5.cell 8;have n9:=hN5.cell 9;simp only[List.getElem?_toArray,List.getElem?_cons_zero,List.getElem?_cons_succ]at n0 n1 n2 n3 n4 n5 n6 n7 n8 n9
   have xf0:=hX5.frozen 0;have xf1:=hX5.frozen 1;have xf2:=hX5.frozen 2;have xf3:=hX5.frozen 3;have xf4:=hX5.frozen 4;have xf5:=hX5.frozen 5;have xf6:=hX5.frozen 6;have xf7:=hX5.frozen 7;have xf8:=hX5.frozen 8;have xf9:=hX5.frozen 9;have x0:=hX5.cell 0;have x1:=hX5.cell 1;have x2:=hX5.cell 2;have x3:=hX5.cell 3;have x4:=hX5.cell 4;have x5:=hX5.cell 5;have x6:=hX5.cell 6;have x7:=hX5.cell 7;have x8:=hX5.cell 8;have x9:=hX5.cell 9;simp only[List.getElem?_toArray,List.getElem?_cons_zero,List.getElem?_cons_succ]at x0 x1 x2 x3 x4 x5 x6 x7 x8 x9
   go_wp2_with fail
   exact bodyPost_ret (aF (t:=4) rfl _ _ _ _ rfl rfl (hX5.set10 rfl)) rfl ⟨.inl ⟨⟨1,1,gr,1,0,0,0,0,0,0⟩,r4,mR hgr (dL hnl3) (gJ hnc6 hnc7) (by decide),rfl,hP5.grown (aI _ w.heap.size) (fun m e=>by cases e;exact hBw)⟩,aE hG5 (aI _ w.heap.size) (Nat.le_refl _)⟩
  go_wp2_with fail
  refine(bQ g B [111,112,101,110,115] ws w2 hP2).mono ?_
  rintro e w3 (⟨r3,rfl,rfl,hP3,hk⟩|⟨hnc3,rfl,rfl⟩)
  case inl=>
   have hX3:=hX2.grownBy hk hneX;have hN3:=hN2.grownBy hk hneN;have hG3:=hG2.trans hk;clear hG2 hk hX2 hN2;have q4:=hN3.cell 4;have qf4:=hN3.frozen 4;simp only[List.getElem?_toArray,List.getElem?_cons_zero,List.getElem?_cons_succ]at q4
   obtain⟨w4,hw4⟩ : ∃w4,w4=w3.setCell ⟨w1.heap.size,4,none⟩ (.int .i64 (-1)):=⟨_,rfl⟩
   go_wp2_with fail
   rw[←hw4];have hN4:BK w4 w1.heap.size 118 #[.int .i64 1,.int .i64 1,.int .i64 gr,.int .i64 0,.int .i64 (-1),.int .i64 0,.int .i64 0,.int .i64 0,.int .i64 0,.int .i64 0]:=by rw[hw4];exact hN3.set_ 4 (.int .i64 (-1))
   have hX4:BK w4 w.heap.size 118 #[.int .i64 0,.int .i64 0,.int .i64 0,.int .i64 0,.int .i64 0,.int .i64 0,.int .i64 0,.int .i64 0,.int .i64 0,.int .i64 0]:=by rw[hw4];exact hX3.far (p:=⟨w1.heap.size,4,none⟩) hXN (.int .i64 (-1))
   have hP4:=hP3.grown (bH w3 ⟨w1.heap.size,4,none⟩ (.int .i64 (-1))) (fun m e=>by cases e;exact hBn)
   have hG4:=aE hG3 (bH w3 ⟨w1.heap.size,4,none⟩ (.int .i64 (-1))) hwn;rw[←hw4]at hP4 hG4;clear hw4 hN3 hX3 hP3 hG3 q4 qf4;have q4:=hN4.cell 4;simp only[List.getElem?_toArray,List.getElem?_cons_zero,List.getElem?_cons_succ]at q4
   go_wp2_with fail
   clear q4;cases r3 with
   |nil=>
    refine(bW g B w4 hP4).mono ?_
    rintro e w5 ⟨rfl,rfl⟩;go_wp2_with fail
    exact⟨rfl,.inr ⟨cV hgr (gJ hnl3 hnl4) (dM _ _ _) (by decide),rfl⟩,hG4⟩
   |cons y r9=>
    refine(bN g B y r9 w4 hP4).mono ?_
    rintro e w5 ⟨rfl,hP5,hk⟩;have hX5:=hX4.grownBy hk hneX;have hN5:=hN4.grownBy hk hneN;have hG5:=hG4.trans hk;clear hG4 hk hX4 hN4;go_wp2_with fail
    refine(cF y w5).mono ?_
    rintro e w6 ⟨⟨c,hc,rfl⟩|⟨hc,rfl⟩,hk⟩
    case inr=>
     have hP6:=hP5.below hk;have hk:=aC (row:=some g) hk;have hX6:=hX5.grownBy hk hneX;have hN6:=hN5.grownBy hk hneN;have hG6:=hG5.trans hk;clear hG5 hk hX5 hN5 hP5;go_wp2_with fail
     exact⟨rfl,.inr ⟨(cG (tu:=1) hgr (gJ hnl3 hnl4) (dM _ _ _) (by decide) (by decide)).trans (by rw[hc]),rfl⟩,hG6⟩
    have hP6:=hP5.below hk;have hk:=aC (row:=some g) hk;have hX6:=hX5.grownBy hk hneX;have hN6:=hN5.grownBy hk hneN;have hG6:=hG5.trans hk;clear hG5 hk hX5 hN5 hP5;have nf0:=hN6.frozen 0;have nf1:=hN6.frozen 1;have nf2:=hN6.frozen 2;have nf3:=hN6.frozen 3;have nf4:=hN6.frozen 4;have nf5:=hN6.frozen 5;have nf6:=hN6.frozen 6;have nf7:=hN6.frozen 7;have nf8:=hN6.frozen 8;have nf9:=hN6.frozen 9;have n0:=hN6.cell 0;have n1:=hN6.cell 1;have n2:=hN6.cell 2;have n3:=hN6.cell 3;have n4:=hN6.cell 4;have n5:=hN6.cell 5;have n6:=hN6.cell 6;have n7:=hN6.cell 7;have n8:=hN6.cell 8;have n9:=hN6.cell 9;simp only[List.getElem?_toArray,List.getElem?_cons_zero,List.getElem?_cons_succ]at n0 n1 n2 n3 n4 n5 n6 n7 n8 n9
    have xf0:=hX6.frozen 0;have xf1:=hX6.frozen 1;have xf2:=hX6.frozen 2;have xf3:=hX6.frozen 3;have xf4:=hX6.frozen 4;have xf5:=hX6.frozen 5;have xf6:=hX6.frozen 6;have xf7:=hX6.frozen 7;have xf8:=hX6.frozen 8;have xf9:=hX6.frozen 9;have x0:=hX6.cell 0;have x1:=hX6.cell 1;have x2:=hX6.cell 2;have x3:=hX6.cell 3;have x4:=hX6.cell 4;have x5:=hX6.cell 5;have x6:=hX6.cell 6;have x7:=hX6.cell 7;have x8:=hX6.cell 8;have x9:=hX6.cell 9;simp only[List.getElem?_toArray,List.getElem?_cons_zero,List.getElem?_cons_succ]at x0 x1 x2 x3 x4 x5 x6 x7 x8 x9
    go_wp2_with fail
    have hX7:=hX6.far (p:=⟨w1.heap.size,5,none⟩) hXN (.int .i64 c);have hP7:=hP6.grown (bH w6 ⟨w1.heap.size,5,none⟩ (.int .i64 c)) (fun m e=>by cases e;exact hBn)
    have hG7:=aE hG6 (bH w6 ⟨w1.heap.size,5,none⟩ (.int .i64 c)) hwn;exact bodyPost_ret (aF (t:=4) rfl _ _ _ _ rfl rfl (hX7.set10 rfl)) rfl ⟨.inl ⟨⟨1,1,gr,0,-1,c,0,0,0,0⟩,r9,(cG (tu:=1) hgr (gJ hnl3 hnl4) (dM _ _ _) (by decide) (by decide)).trans (by rw[hc]),rfl,hP7.grown (aI _ w.heap.size) (fun m e=>by cases e;exact hBw)⟩,aE hG7 (aI _ w.heap.size) (Nat.le_refl _)⟩
  go_wp2_with fail
  refine(bQ g B [116,105,103,104,116,101,110,115] ws w2 hP2).mono ?_
  rintro e w4 (⟨r4,rfl,rfl,hP4,hk⟩|⟨hnc4,rfl,rfl⟩)
  case inl=>
   have hX4:=hX2.grownBy hk hneX;have hN4:=hN2.grownBy hk hneN;have hG4:=hG2.trans hk;clear hG2 hk hX2 hN2;have q4:=hN4.cell 4;have qf4:=hN4.frozen 4;simp only[List.getElem?_toArray,List.getElem?_cons_zero,List.getElem?_cons_succ]at q4
   obtain⟨w5,hw5⟩ : ∃w5,w5=w4.setCell ⟨w1.heap.size,4,none⟩ (.int .i64 1):=⟨_,rfl⟩
   go_wp2_with fail
   rw[←hw5];have hN5:BK w5 w1.heap.size 118 #[.int .i64 1,.int .i64 1,.int .i64 gr,.int .i64 0,.int .i64 1,.int .i64 0,.int .i64 0,.int .i64 0,.int .i64 0,.int .i64 0]:=by rw[hw5];exact hN4.set_ 4 (.int .i64 1)
   have hX5:BK w5 w.heap.size 118 #[.int .i64 0,.int .i64 0,.int .i64 0,.int .i64 0,.int .i64 0,.int .i64 0,.int .i64 0,.int .i64 0,.int .i64 0,.int .i64 0]:=by rw[hw5];exact hX4.far (p:=⟨w1.heap.size,4,none⟩) hXN (.int .i64 1)
   have hP5:=hP4.grown (bH w4 ⟨w1.heap.size,4,none⟩ (.int .i64 1)) (fun m e=>by cases e;exact hBn)
   have hG5:=aE hG4 (bH w4 ⟨w1.heap.size,4,none⟩ (.int .i64 1)) hwn;rw[←hw5]at hP5 hG5;clear hw5 hN4 hX4 hP4 hG4 q4 qf4;have q4:=hN5.cell 4;simp only[List.getElem?_toArray,List.getElem?_cons_zero,List.getElem?_cons_succ]at q4
   go_wp2_with fail
   clear q4;cases r4 with
   |nil=>
    refine(bW g B w5 hP5).mono ?_
    rintro e w6 ⟨rfl,rfl⟩;go_wp2_with fail
    exact⟨rfl,.inr ⟨cV hgr (gJ hnl3 hnl4) (dL hnc3) (by decide),rfl⟩,hG5⟩
   |cons y r9=>
    refine(bN g B y r9 w5 hP5).mono ?_
    rintro e w6 ⟨rfl,hP6,hk⟩;have hX6:=hX5.grownBy hk hneX;have hN6:=hN5.grownBy hk hneN;have hG6:=hG5.trans hk;clear hG5 hk hX5 hN5;go_wp2_with fail
    refine(cF y w6).mono ?_
    rintro e w7 ⟨⟨c,hc,rfl⟩|⟨hc,rfl⟩,hk⟩
    case inr=>
     have hP7:=hP6.below hk;have hk:=aC (row:=some g) hk;have hX7:=hX6.grownBy hk hneX;have hN7:=hN6.grownBy hk hneN;have hG7:=hG6.trans hk;clear hG6 hk hX6 hN6 hP6;go_wp2_with fail
     exact⟨rfl,.inr ⟨(cG (tu:=1) hgr (gJ hnl3 hnl4) (dL hnc3) (by decide) (by decide)).trans (by rw[hc]),rfl⟩,hG7⟩
    have hP7:=hP6.below hk;have hk:=aC (row:=some g) hk;have hX7:=hX6.grownBy hk hneX;have hN7:=hN6.grownBy hk hneN;have hG7:=hG6.trans hk;clear hG6 hk hX6 hN6 hP6;have nf0:=hN7.frozen 0;have nf1:=hN7.frozen 1;have nf2:=hN7.frozen 2;have nf3:=hN7.frozen 3;have nf4:=hN7.frozen 4;have nf5:=hN7.frozen 5;have nf6:=hN7.frozen 6;have nf7:=hN7.frozen 7;have nf8:=hN7.frozen 8;have nf9:=hN7.frozen 9;have n0:=hN7.cell 0;have n1:=hN7.cell 1;have n2:=hN7.cell 2;have n3:=hN7.cell 3;have n4:=hN7.cell 4;have n5:=hN7.cell 5;have n6:=hN7.cell 6;have n7:=hN7.cell 7;have n8:=hN7.cell 8;have n9:=hN7.cell 9;simp only[List.getElem?_toArray,List.getElem?_cons_zero,List.getElem?_cons_succ]at n0 n1 n2 n3 n4 n5 n6 n7 n8 n9
    have xf0:=hX7.frozen 0;have xf1:=hX7.frozen 1;have xf2:=hX7.frozen 2;have xf3:=hX7.frozen 3;have xf4:=hX7.frozen 4;have xf5:=hX7.frozen 5;have xf6:=hX7.frozen 6;have xf7:=hX7.frozen 7;have xf8:=hX7.frozen 8;have xf9:=hX7.frozen 9;have x0:=hX7.cell 0;have x1:=hX7.cell 1;have x2:=hX7.cell 2;have x3:=hX7.cell 3;have x4:=hX7.cell 4;have x5:=hX7.cell 5;have x6:=hX7.cell 6;have x7:=hX7.cell 7;have x8:=hX7.cell 8;have x9:=hX7.cell 9;simp only[List.getElem?_toArray,List.getElem?_cons_zero,List.getElem?_cons_succ]at x0 x1 x2 x3 x4 x5 x6 x7 x8 x9
    go_wp2_with fail
    have hX8:=hX7.far (p:=⟨w1.heap.size,5,none⟩) hXN (.int .i64 c);have hP8:=hP7.grown (bH w7 ⟨w1.heap.size,5,none⟩ (.int .i64 c)) (fun m e=>by cases e;exact hBn)
    have hG8:=aE hG7 (bH w7 ⟨w1.heap.size,5,none⟩ (.int .i64 c)) hwn;exact bodyPost_ret (aF (t:=4) rfl _ _ _ _ rfl rfl (hX8.set10 rfl)) rfl ⟨.inl ⟨⟨1,1,gr,0,1,c,0,0,0,0⟩,r9,(cG (tu:=1) hgr (gJ hnl3 hnl4) (dL hnc3) (by decide) (by decide)).trans (by rw[hc]),rfl,hP8.grown (aI _ w.heap.size) (fun m e=>by cases e;exact hBw)⟩,aE hG8 (aI _ w.heap.size) (Nat.le_refl _)⟩
  have q4:=hN2.cell 4;simp only[List.getElem?_toArray,List.getElem?_cons_zero,List.getElem?_cons_succ]at q4
  have nf0:=hN2.frozen 0;have nf1:=hN2.frozen 1;have nf2:=hN2.frozen 2;have nf3:=hN2.frozen 3;have nf4:=hN2.frozen 4;have nf5:=hN2.frozen 5;have nf6:=hN2.frozen 6;have nf7:=hN2.frozen 7;have nf8:=hN2.frozen 8;have nf9:=hN2.frozen 9;have n0:=hN2.cell 0;have n1:=hN2.cell 1;have n2:=hN2.cell 2;have n3:=hN2.cell 3;have n4:=hN2.cell 4;have n5:=hN2.cell 5;have n6:=hN2.cell 6;have n7:=hN2.cell 7;have n8:=hN2.cell 8;have n9:=hN2.cell 9;simp only[List.getElem?_toArray,List.getElem?_cons_zero,List.getElem?_cons_succ]at n0 n1 n2 n3 n4 n5 n6 n7 n8 n9
  have xf0:=hX2.frozen 0;have xf1:=hX2.frozen 1;have xf2:=hX2.frozen 2;have xf3:=hX2.frozen 3;have xf4:=hX2.frozen 4;have xf5:=hX2.frozen 5;have xf6:=hX2.frozen 6;have xf7:=hX2.frozen 7;have xf8:=hX2.frozen 8;have xf9:=hX2.frozen 9;have x0:=hX2.cell 0;have x1:=hX2.cell 1;have x2:=hX2.cell 2;have x3:=hX2.cell 3;have x4:=hX2.cell 4;have x5:=hX2.cell 5;have x6:=hX2.cell 6;have x7:=hX2.cell 7;have x8:=hX2.cell 8;have x9:=hX2.cell 9;simp only[List.getElem?_toArray,List.getElem?_cons_zero,List.getElem?_cons_succ]at x0 x1 x2 x3 x4 x5 x6 x7 x8 x9
  go_wp2_with fail
  exact bodyPost_ret (aF (t:=4) rfl _ _ _ _ rfl rfl (hX2.set10 rfl)) rfl ⟨.inl ⟨⟨1,1,gr,0,0,0,0,0,0,0⟩,ws,mR hgr (gJ hnl3 hnl4) (gJ hnc3 hnc4) (by decide),rfl,hP2.grown (aI _ w.heap.size) (fun m e=>by cases e;exact hBw)⟩,aE hG2 (aI _ w.heap.size) (Nat.le_refl _)⟩
end Go.Proofs.YtjlkeoppppfeiaaGreat
