/- Lemmas. -/
import Derived.Test.YtjlkeoppppfeiaaGreatQNoteP
import Derived.Test.YtjlkeoppppfeiaaGreatQNRead4
namespace Go.Proofs.YtjlkeoppppfeiaaGreat
open Go.RowKit Go.Shelf Go.Sort Go.Proofs
theorem dI {P:Program} {c:Code} {Q:Exit→Act→World→Prop} {a:Act} {w:World} (h:∀w0,w0=w→c.wp P Q a w0):c.wp P Q a w:=h w rfl
def kA (k:Corner):Value:=.agg #[.int .i64 k.fr,.int .i64 k.til,.int .i64 k.turn,.int .i64 k.rad,.int .i64 k.inn,.int .i64 k.out,.int .i64 k.ang]
def eB (b:BkR) (a:Int):Int:=if a<b.sh then -1 else if b.lo≤a then 1 else 0
def iN (b:BkR) (k:Corner):NoteR:=
 if b.ra*k.out≤100*k.inn∧bB b k.out<bB b k.inn then ⟨1,k.turn,bB b k.inn,eB b k.ang,1,bB b k.out,0,0,0,0⟩
 else if b.ra*k.inn≤100*k.out∧bB b k.inn<bB b k.out then ⟨1,k.turn,bB b k.inn,eB b k.ang,-1,bB b k.out,0,0,0,0⟩
 else ⟨1,k.turn,bB b k.rad,eB b k.ang,0,0,0,0,0,0⟩
theorem bk7 {k:Corner} {w:World} {g:Nat} (h:BK w g 152 #[.int .i64 k.fr,.int .i64 k.til,.int .i64 k.turn,.int .i64 k.rad,.int .i64 k.inn,.int .i64 k.out,.int .i64 k.ang]) :
  w.cell? ⟨g,0,none⟩=some (.int .i64 k.fr)∧w.cell? ⟨g,1,none⟩=some (.int .i64 k.til)∧w.cell? ⟨g,2,none⟩=some (.int .i64 k.turn)∧w.cell? ⟨g,3,none⟩=some (.int .i64 k.rad)∧w.cell? ⟨g,4,none⟩=some (.int .i64 k.inn)∧w.cell? ⟨g,5,none⟩=some (.int .i64 k.out)∧w.cell? ⟨g,6,none⟩=some (.int .i64 k.ang):=by
 have c0:=h.cell 0;have c1:=h.cell 1;have c2:=h.cell 2;have c3:=h.cell 3;have c4:=h.cell 4;have c5:=h.cell 5;have c6:=h.cell 6;simp only[List.getElem?_toArray,List.getElem?_cons_zero,List.getElem?_cons_succ]at c0 c1 c2 c3 c4 c5 c6
 exact⟨c0,c1,c2,c3,c4,c5,c6⟩
set_option maxRecDepth 100000 in
set_option maxHeartbeats 8000000 in
theorem aBD (b:BkR) (hv:BkOK b) (A:Option Addr) (c:Nat) (k:Corner) (h1:0≤k.inn∧k.inn≤100000) (h2:0≤k.out∧k.out≤100000) (w:World) (h:SL iC 1 w w.heap.size A b.gs.length b.gs) :
  Calls Tryz.prog 55 #[bkA A c b,kA k] w fun e w'=>e = .returned (nA (iN b k))∧Below w.heap.size w w':=by
 have hmo:Tryz.prog.follows .mixedOrders=true:=by kernel_rfl
 obtain⟨w0,hw0⟩ : ∃w0,w0=((w.alloc (.cells #[.slice A b.gs.length c,.int .i64 b.sh,.int .i64 b.lo,.int .i64 b.ra,.int .i64 b.an,.int .i64 b.io,.int .i64 b.st,.int .i64 b.ga,.int .i64 b.le] 31)).alloc (.cells #[.int .i64 k.fr,.int .i64 k.til,.int .i64 k.turn,.int .i64 k.rad,.int .i64 k.inn,.int .i64 k.out,.int .i64 k.ang] 152)).alloc (.cells #[.int .i64 0,.int .i64 0,.int .i64 0,.int .i64 0,.int .i64 0,.int .i64 0,.int .i64 0,.int .i64 0,.int .i64 0,.int .i64 0] 118):=⟨_,rfl⟩
 have hX0:BK w0 w.heap.size 31 #[.slice A b.gs.length c,.int .i64 b.sh,.int .i64 b.lo,.int .i64 b.ra,.int .i64 b.an,.int .i64 b.io,.int .i64 b.st,.int .i64 b.ga,.int .i64 b.le]:=by rw[hw0];exact((BK.new w _ _).alloc _).alloc _
 have hY0:BK w0 (w.heap.size+1) 152 #[.int .i64 k.fr,.int .i64 k.til,.int .i64 k.turn,.int .i64 k.rad,.int .i64 k.inn,.int .i64 k.out,.int .i64 k.ang]:=by
  rw[hw0];have:=BK.new (w.alloc (.cells #[.slice A b.gs.length c,.int .i64 b.sh,.int .i64 b.lo,.int .i64 b.ra,.int .i64 b.an,.int .i64 b.io,.int .i64 b.st,.int .i64 b.ga,.int .i64 b.le] 31)) 152 #[.int .i64 k.fr,.int .i64 k.til,.int .i64 k.turn,.int .i64 k.rad,.int .i64 k.inn,.int .i64 k.out,.int .i64 k.ang];rw[World.size_alloc]at this;exact this.alloc _
 have hR0:BK w0 (w.heap.size+2) 118 #[.int .i64 0,.int .i64 0,.int .i64 0,.int .i64 0,.int .i64 0,.int .i64 0,.int .i64 0,.int .i64 0,.int .i64 0,.int .i64 0]:=by
  rw[hw0];have:=BK.new ((w.alloc (.cells #[.slice A b.gs.length c,.int .i64 b.sh,.int .i64 b.lo,.int .i64 b.ra,.int .i64 b.an,.int .i64 b.io,.int .i64 b.st,.int .i64 b.ga,.int .i64 b.le] 31)).alloc (.cells #[.int .i64 k.fr,.int .i64 k.til,.int .i64 k.turn,.int .i64 k.rad,.int .i64 k.inn,.int .i64 k.out,.int .i64 k.ang] 152)) 118 #[.int .i64 0,.int .i64 0,.int .i64 0,.int .i64 0,.int .i64 0,.int .i64 0,.int .i64 0,.int .i64 0,.int .i64 0,.int .i64 0];rw[World.size_alloc,World.size_alloc]at this;exact this
 have hB0:Below w.heap.size w w0:=by rw[hw0];exact(((Below.refl _ w).alloc (Nat.le_refl _) _).alloc (by simp) _).alloc (by simp;omega) _
 have hS0:SL iC 1 w0 w0.heap.size A b.gs.length b.gs:=(h.below hB0).more hB0.size;have hsz0:w0.heap.size=w.heap.size+3:=by rw[hw0];simp
 have hra:=hv.ra1;have hra2:=hv.ra2;have HV:=Lib.hid hv;have HS:=Lib.hid hS0;obtain⟨G,hG⟩ : ∃G,G=bB b k.rad:=⟨_,rfl⟩
 obtain⟨I,hI⟩ : ∃I,I=bB b k.inn:=⟨_,rfl⟩
 obtain⟨O,hO⟩ : ∃O,O=bB b k.out:=⟨_,rfl⟩
 obtain⟨P1,hP1⟩ : ∃P1,P1=b.ra*k.out:=⟨_,rfl⟩
 obtain⟨P2,hP2⟩ : ∃P2,P2=b.ra*k.inn:=⟨_,rfl⟩
 have q1:0≤b.ra*k.out∧b.ra*k.out≤1000*100000:=⟨Int.mul_nonneg (by omega) h2.1,Int.mul_le_mul hra2 h2.2 h2.1 (by omega)⟩
 have q2:0≤b.ra*k.inn∧b.ra*k.inn≤1000*100000:=⟨Int.mul_nonneg (by omega) h1.1,Int.mul_le_mul hra2 h1.2 h1.1 (by omega)⟩
 have hw1:IntKind.i64.wrap (b.ra*k.out)=P1:=by rw[hP1];exact IntWalk.i64_in _ (by omega)
 have hw2:IntKind.i64.wrap (b.ra*k.inn)=P2:=by rw[hP2];exact IntWalk.i64_in _ (by omega)
 have hw3:IntKind.i64.wrap (100*k.inn)=100*k.inn:=IntWalk.i64_in _ (by omega)
 have hw4:IntKind.i64.wrap (100*k.out)=100*k.out:=IntWalk.i64_in _ (by omega)
 have HG:=Lib.hid hG;have HI:=Lib.hid hI;have HO:=Lib.hid hO;have HEQ:Hid (iN b k=if P1≤100*k.inn∧O<I then ⟨1,k.turn,I,eB b k.ang,1,O,0,0,0,0⟩ else if P2≤100*k.out∧I<O then ⟨1,k.turn,I,eB b k.ang,-1,O,0,0,0,0⟩ else ⟨1,k.turn,G,eB b k.ang,0,0,0,0,0,0⟩):=by
  show _=_
  rw[hG,hI,hO,hP1,hP2]
  rfl
 clear hv h hS0 hG hI hO hP1 hP2 q1 q2 hra hra2 h1 h2;unfold bkA kA;go_enter Tryz.func55,Tryz.ntmps55
 go_wp2_with fail
 rw[←hw0];clear hw0;obtain⟨x0',x1',x2',x3',x4',x5',x6',x7',x8'⟩:=bk9 hX0;obtain⟨y0',y1',y2',y3',y4',y5',y6'⟩:=bk7 hY0;have x0:=fun d os=>cell_regrown x0' d os
 have x1:=fun d os=>cell_regrown x1' d os
 have x2:=fun d os=>cell_regrown x2' d os
 have x3:=fun d os=>cell_regrown x3' d os
 have x4:=fun d os=>cell_regrown x4' d os
 have x5:=fun d os=>cell_regrown x5' d os
 have x6:=fun d os=>cell_regrown x6' d os
 have x7:=fun d os=>cell_regrown x7' d os
 have x8:=fun d os=>cell_regrown x8' d os
 have y2:=fun d os=>cell_regrown y2' d os
 have y3:=fun d os=>cell_regrown y3' d os
 refine qO 8 7 [5] 118 #[.int .i64 0,.int .i64 0,.int .i64 0,.int .i64 0,.int .i64 0,.int .i64 0,.int .i64 0,.int .i64 0,.int .i64 0,.int .i64 0] 5 _ hmo (by decide) rfl rfl rfl (fun a w=>rfl) (by kernel_rfl) ?_
 simp only[List.take_succ_cons,List.take_zero,List.drop_succ_cons,List.drop_zero]
 repeat (refine aH (by decide) (by decide) (fun K hK=>?_);go_simp;refine hK _ ?_;clear hK K)
 refine fZ (ι:=Unit) 136 #[.agg #[.slice A b.gs.length c,.int .i64 b.sh,.int .i64 b.lo,.int .i64 b.ra,.int .i64 b.an,.int .i64 b.io,.int .i64 b.st,.int .i64 b.ga,.int .i64 b.le],.int .i64 k.rad] (fun _=>.int .i64 G) (fun _ _=>True) (by decide) (by decide) rfl (fun w=>by go_simp) aB (fun _=>aB) (fun W hW _=>?_) (fun i1 hs1=>?_)
 ·obtain⟨p,rfl⟩:=hW
  have hb:=below_regrown w0 p.d p.os;refine(eK b HV.out A c k.rad _ ((HS.out.below hb).more hb.size)).mono ?_
  rintro e w' ⟨rfl,hbl⟩;exact⟨(),by rw[HG.out],trivial,hbl⟩
 repeat (refine aH (by decide) (by decide) (fun K hK=>?_);go_simp;refine hK _ ?_;clear hK K)
 refine aES (by decide) ?_
 refine bI ?_
 intro tb W5 hk5 _ htb hTB;clear hs1 x0 x1 x2 x3 x4 x5 x6 x7 x8 y2 y3 x0' x1' x2' x3' x4' x5' x6' x7' x8' y0' y1' y2' y3' y4' y5' y6';have tl:=hTB.lt;have hX5:=hX0.below hk5 hX0.lt;have hY5:=hY0.below hk5 hY0.lt;have hR5:=hR0.below hk5 hR0.lt;have hB5:=hB0.trans (hk5.mono hB0.size);have tf:=hTB.frozen;have t0:=hTB.cell 0;have t1:=hTB.cell 1;have t2:=hTB.cell 2;have t3:=hTB.cell 3;have t4:=hTB.cell 4;have t5:=hTB.cell 5;have t6:=hTB.cell 6;have t7:=hTB.cell 7;have t8:=hTB.cell 8;have t9:=hTB.cell 9;simp only[List.getElem?_toArray,List.getElem?_cons_zero,List.getElem?_cons_succ]at t0 t1 t2 t3 t4 t5 t6 t7 t8 t9
 go_upto_region 2 with fail
 refine dI (fun W6 hW6=>?_)
 have hT6:BK W6 tb 118 #[.int .i64 1,.int .i64 k.turn,.int .i64 G,.int .i64 0,.int .i64 0,.int .i64 0,.int .i64 0,.int .i64 0,.int .i64 0,.int .i64 0]:=by rw[hW6];exact hTB.set10 rfl
 have hk6:Below w0.heap.size w0 W6:=by rw[hW6];exact bM hk5 htb
 clear hW6 t0 t1 t2 t3 t4 t5 t6 t7 t8 t9 tf tl hTB hX5 hY5 hR5 hB5 hk5;have hX6:=hX0.below hk6 hX0.lt;have hY6:=hY0.below hk6 hY0.lt;have hR6:=hR0.below hk6 hR0.lt;have HTB:Hid (w.heap.size+3≤tb):=by show _≤_;omega
 simp only[show w.heap.size+1+1=w.heap.size+2 from rfl]
 obtain⟨x0,x1,x2,x3,x4,x5,x6,x7,x8⟩:=bk9 hX6;obtain⟨y0,y1,y2,y3,y4,y5,y6⟩:=bk7 hY6;have f3:=hT6.frozen 3;have t3:=hT6.cell 3;have tl:=hT6.lt;simp only[List.getElem?_toArray,List.getElem?_cons_zero,List.getElem?_cons_succ]at t3
 by_cases a1:k.ang<b.sh
 ·have HL:Hid (eB b k.ang = -1):=by show _=_;unfold eB;rw[if_pos a1]
  go_upto_region 6 with fail
  refine dI (fun W7 hW7=>?_)
  have hX7:BK W7 w.heap.size 31 #[.slice A b.gs.length c,.int .i64 b.sh,.int .i64 b.lo,.int .i64 b.ra,.int .i64 b.an,.int .i64 b.io,.int .i64 b.st,.int .i64 b.ga,.int .i64 b.le]:=by rw[hW7];exact(hX6.far (p:=⟨tb,3,none⟩) (by have:=HTB.out;simp only;omega) _)
  have hY7:BK W7 (w.heap.size+1) 152 #[.int .i64 k.fr,.int .i64 k.til,.int .i64 k.turn,.int .i64 k.rad,.int .i64 k.inn,.int .i64 k.out,.int .i64 k.ang]:=by rw[hW7];exact(hY6.far (p:=⟨tb,3,none⟩) (by have:=HTB.out;simp only;omega) _)
  have hR7:BK W7 (w.heap.size+2) 118 #[.int .i64 0,.int .i64 0,.int .i64 0,.int .i64 0,.int .i64 0,.int .i64 0,.int .i64 0,.int .i64 0,.int .i64 0,.int .i64 0]:=by rw[hW7];exact(hR6.far (p:=⟨tb,3,none⟩) (by have:=HTB.out;simp only;omega) _)
  have hT7:BK W7 tb 118 #[.int .i64 1,.int .i64 k.turn,.int .i64 G,.int .i64 (-1),.int .i64 0,.int .i64 0,.int .i64 0,.int .i64 0,.int .i64 0,.int .i64 0]:=by rw[hW7];exact hT6.set_ 3 _
  have hk7:Below w0.heap.size w0 W7:=by rw[hW7];exact hk6.setCell htb _
  clear hW7 hX6 hY6 hR6 hT6 hk6 x0 x1 x2 x3 x4 x5 x6 x7 x8 y0 y1 y2 y3 y4 y5 y6 f3 t3 tl a1;obtain⟨x0',x1',x2',x3',x4',x5',x6',x7',x8'⟩:=bk9 hX7;obtain⟨y0',y1',y2',y3',y4',y5',y6'⟩:=bk7 hY7;have x0:=fun d os=>cell_regrown x0' d os
  have x1:=fun d os=>cell_regrown x1' d os
  have x2:=fun d os=>cell_regrown x2' d os
  have x3:=fun d os=>cell_regrown x3' d os
  have x4:=fun d os=>cell_regrown x4' d os
  have x5:=fun d os=>cell_regrown x5' d os
  have x6:=fun d os=>cell_regrown x6' d os
  have x7:=fun d os=>cell_regrown x7' d os
  have x8:=fun d os=>cell_regrown x8' d os
  have y4:=fun d os=>cell_regrown y4' d os
  have y5:=fun d os=>cell_regrown y5' d os
  refine aM 8 [3,7] hmo (by kernel_rfl) ?_
  simp only[List.take_succ_cons,List.take_zero,List.drop_succ_cons,List.drop_zero]
  repeat (refine aH (by decide) (by decide) (fun K hK=>?_);go_simp;refine hK _ ?_;clear hK K)
  refine fZ (ι:=Unit) 136 #[.agg #[.slice A b.gs.length c,.int .i64 b.sh,.int .i64 b.lo,.int .i64 b.ra,.int .i64 b.an,.int .i64 b.io,.int .i64 b.st,.int .i64 b.ga,.int .i64 b.le],.int .i64 k.inn] (fun _=>.int .i64 I) (fun _ _=>True) (by decide) (by decide) rfl (fun w=>by go_simp) aB (fun _=>aB) (fun W hW _=>?_) (fun ihs1 hs1=>?_)
  ·obtain⟨p,rfl⟩:=hW
   have hb:=below_regrown W7 p.d p.os;refine(eK b HV.out A c k.inn _ ((HS.out.below (hk7.trans (hb.mono hk7.size))).more (Nat.le_trans hk7.size hb.size))).mono ?_
   rintro e w' ⟨rfl,hbl⟩;exact⟨(),by rw[HI.out],trivial,hbl⟩
  repeat (refine aH (by decide) (by decide) (fun K hK=>?_);go_simp;refine hK _ ?_;clear hK K)
  refine fZ (ι:=Unit) 136 #[.agg #[.slice A b.gs.length c,.int .i64 b.sh,.int .i64 b.lo,.int .i64 b.ra,.int .i64 b.an,.int .i64 b.io,.int .i64 b.st,.int .i64 b.ga,.int .i64 b.le],.int .i64 k.out] (fun _=>.int .i64 O) (fun _ _=>True) (by decide) (by decide) rfl (fun w=>by go_simp) hs1 (fun _=>aB) (fun W hW _=>?_) (fun ihs2 hs2=>?_)
  ·obtain⟨p,rfl⟩:=hW
   have hb:=below_regrown W7 p.d p.os;refine(eK b HV.out A c k.out _ ((HS.out.below (hk7.trans (hb.mono hk7.size))).more (Nat.le_trans hk7.size hb.size))).mono ?_
   rintro e w' ⟨rfl,hbl⟩;exact⟨(),by rw[HO.out],trivial,hbl⟩
  refine bI ?_
  intro W8 hk8 _;clear hs1 hs2 x0 x1 x2 x3 x4 x5 x6 x7 x8 y4 y5 x0' x1' x2' x3' x4' x5' x6' x7' x8' y0' y1' y2' y3' y4' y5' y6';have hX8:=hX7.below hk8 hX7.lt;have hY8:=hY7.below hk8 hY7.lt;have hR8:=hR7.below hk8 hR7.lt;have hT8:=hT7.below hk8 hT7.lt;have hB8:Below w.heap.size w W8:=hB0.trans ((hk7.trans (hk8.mono hk7.size)).mono hB0.size);clear hX7 hY7 hR7 hT7 hk7 hk8;have HR8:=Lib.hid hR8;have HT8:=Lib.hid hT8;have HB8:=Lib.hid hB8;obtain⟨x0,x1,x2,x3,x4,x5,x6,x7,x8⟩:=bk9 hX8;obtain⟨y0,y1,y2,y3,y4,y5,y6⟩:=bk7 hY8;have t0:=hT8.cell 0;have t1:=hT8.cell 1;have t2:=hT8.cell 2;have t3:=hT8.cell 3;have t4:=hT8.cell 4;have t5:=hT8.cell 5;have t6:=hT8.cell 6;have t7:=hT8.cell 7;have t8:=hT8.cell 8;have t9:=hT8.cell 9;simp only[List.getElem?_toArray,List.getElem?_cons_zero,List.getElem?_cons_succ]at t0 t1 t2 t3 t4 t5 t6 t7 t8 t9
  have tf:=hT8.frozen;have tl:=hT8.lt;have rf:=hR8.frozen;have r0:=hR8.cell 0;have r1:=hR8.cell 1;have r2:=hR8.cell 2;have r3:=hR8.cell 3;have r4:=hR8.cell 4;have r5:=hR8.cell 5;have r6:=hR8.cell 6;have r7:=hR8.cell 7;have r8:=hR8.cell 8;have r9:=hR8.cell 9;simp only[List.getElem?_toArray,List.getElem?_cons_zero,List.getElem?_cons_succ]at r0 r1 r2 r3 r4 r5 r6 r7 r8 r9
  have rl:=hR8.lt;have hne:tb≠w.heap.size+2:=by have:=HTB.out;omega
  clear hX8 hY8 hR8 hT8 hB8;by_cases a3:P1≤100*k.inn
  ·by_cases a4:O<I
   ·go_wp2_with fail
    exact bodyPost_ret (aF (t:=4) rfl _ _ _ _ rfl rfl (BK.set10 (((HR8.out.far (p:=⟨tb,2,none⟩) (Ne.symm hne) _).far (p:=⟨tb,4,none⟩) (Ne.symm hne) _).far (p:=⟨tb,5,none⟩) (Ne.symm hne) _) rfl)) rfl ⟨by rw[HEQ.out,if_pos ⟨by omega,by omega⟩,HL.out];rfl,bM (((HB8.out.setCell (p:=⟨tb,2,none⟩) (by have:=HTB.out;simp only;omega) _).setCell (p:=⟨tb,4,none⟩) (by have:=HTB.out;simp only;omega) _).setCell (p:=⟨tb,5,none⟩) (by have:=HTB.out;simp only;omega) _) (by omega)⟩
   ·by_cases b1:P2≤100*k.out
    ·by_cases b2:I<O
     ·go_wp2_with fail
      exact bodyPost_ret (aF (t:=4) rfl _ _ _ _ rfl rfl (BK.set10 (((HR8.out.far (p:=⟨tb,2,none⟩) (Ne.symm hne) _).far (p:=⟨tb,4,none⟩) (Ne.symm hne) _).far (p:=⟨tb,5,none⟩) (Ne.symm hne) _) rfl)) rfl ⟨by rw[HEQ.out,if_neg (fun h=>by omega),if_pos ⟨by omega,by omega⟩,HL.out];rfl,bM (((HB8.out.setCell (p:=⟨tb,2,none⟩) (by have:=HTB.out;simp only;omega) _).setCell (p:=⟨tb,4,none⟩) (by have:=HTB.out;simp only;omega) _).setCell (p:=⟨tb,5,none⟩) (by have:=HTB.out;simp only;omega) _) (by omega)⟩
     ·go_wp2_with fail
      exact bodyPost_ret (aF (t:=4) rfl _ _ _ _ rfl rfl (BK.set10 HR8.out rfl)) rfl ⟨by rw[HEQ.out,if_neg (fun h=>by omega),if_neg (fun h=>by omega),HL.out];rfl,bM HB8.out (by omega)⟩
    ·go_wp2_with fail
     exact bodyPost_ret (aF (t:=4) rfl _ _ _ _ rfl rfl (BK.set10 HR8.out rfl)) rfl ⟨by rw[HEQ.out,if_neg (fun h=>by omega),if_neg (fun h=>by omega),HL.out];rfl,bM HB8.out (by omega)⟩
  ·by_cases b1:P2≤100*k.out
   ·by_cases b2:I<O
    ·go_wp2_with fail
     exact bodyPost_ret (aF (t:=4) rfl _ _ _ _ rfl rfl (BK.set10 (((HR8.out.far (p:=⟨tb,2,none⟩) (Ne.symm hne) _).far (p:=⟨tb,4,none⟩) (Ne.symm hne) _).far (p:=⟨tb,5,none⟩) (Ne.symm hne) _) rfl)) rfl ⟨by rw[HEQ.out,if_neg (fun h=>by omega),if_pos ⟨by omega,by omega⟩,HL.out];rfl,bM (((HB8.out.setCell (p:=⟨tb,2,none⟩) (by have:=HTB.out;simp only;omega) _).setCell (p:=⟨tb,4,none⟩) (by have:=HTB.out;simp only;omega) _).setCell (p:=⟨tb,5,none⟩) (by have:=HTB.out;simp only;omega) _) (by omega)⟩
    ·go_wp2_with fail
     exact bodyPost_ret (aF (t:=4) rfl _ _ _ _ rfl rfl (BK.set10 HR8.out rfl)) rfl ⟨by rw[HEQ.out,if_neg (fun h=>by omega),if_neg (fun h=>by omega),HL.out];rfl,bM HB8.out (by omega)⟩
   ·go_wp2_with fail
    exact bodyPost_ret (aF (t:=4) rfl _ _ _ _ rfl rfl (BK.set10 HR8.out rfl)) rfl ⟨by rw[HEQ.out,if_neg (fun h=>by omega),if_neg (fun h=>by omega),HL.out];rfl,bM HB8.out (by omega)⟩
 ·by_cases a2:b.lo≤k.ang
  ·have HL:Hid (eB b k.ang=1):=by show _=_;unfold eB;rw[if_neg a1,if_pos a2]
   go_upto_region 6 with fail
   refine dI (fun W7 hW7=>?_)
   have hX7:BK W7 w.heap.size 31 #[.slice A b.gs.length c,.int .i64 b.sh,.int .i64 b.lo,.int .i64 b.ra,.int .i64 b.an,.int .i64 b.io,.int .i64 b.st,.int .i64 b.ga,.int .i64 b.le]:=by rw[hW7];exact(hX6.far (p:=⟨tb,3,none⟩) (by have:=HTB.out;simp only;omega) _)
   have hY7:BK W7 (w.heap.size+1) 152 #[.int .i64 k.fr,.int .i64 k.til,.int .i64 k.turn,.int .i64 k.rad,.int .i64 k.inn,.int .i64 k.out,.int .i64 k.ang]:=by rw[hW7];exact(hY6.far (p:=⟨tb,3,none⟩) (by have:=HTB.out;simp only;omega) _)
   have hR7:BK W7 (w.heap.size+2) 118 #[.int .i64 0,.int .i64 0,.int .i64 0,.int .i64 0,.int .i64 0,.int .i64 0,.int .i64 0,.int .i64 0,.int .i64 0,.int .i64 0]:=by rw[hW7];exact(hR6.far (p:=⟨tb,3,none⟩) (by have:=HTB.out;simp only;omega) _)
   have hT7:BK W7 tb 118 #[.int .i64 1,.int .i64 k.turn,.int .i64 G,.int .i64 (1),.int .i64 0,.int .i64 0,.int .i64 0,.int .i64 0,.int .i64 0,.int .i64 0]:=by rw[hW7];exact hT6.set_ 3 _
   have hk7:Below w0.heap.size w0 W7:=by rw[hW7];exact hk6.setCell htb _
   clear hW7 hX6 hY6 hR6 hT6 hk6 x0 x1 x2 x3 x4 x5 x6 x7 x8 y0 y1 y2 y3 y4 y5 y6 f3 t3 tl a1 a2;obtain⟨x0',x1',x2',x3',x4',x5',x6',x7',x8'⟩:=bk9 hX7;obtain⟨y0',y1',y2',y3',y4',y5',y6'⟩:=bk7 hY7;have x0:=fun d os=>cell_regrown x0' d os
   have x1:=fun d os=>cell_regrown x1' d os
   have x2:=fun d os=>cell_regrown x2' d os
   have x3:=fun d os=>cell_regrown x3' d os
   have x4:=fun d os=>cell_regrown x4' d os
   have x5:=fun d os=>cell_regrown x5' d os
   have x6:=fun d os=>cell_regrown x6' d os
   have x7:=fun d os=>cell_regrown x7' d os
   have x8:=fun d os=>cell_regrown x8' d os
   have y4:=fun d os=>cell_regrown y4' d os
   have y5:=fun d os=>cell_regrown y5' d os
   refine aM 8 [3,7] hmo (by kernel_rfl) ?_
   simp only[List.take_succ_cons,List.take_zero,List.drop_succ_cons,List.drop_zero]
   repeat (refine aH (by decide) (by decide) (fun K hK=>?_);go_simp;refine hK _ ?_;clear hK K)
   refine fZ (ι:=Unit) 136 #[.agg #[.slice A b.gs.length c,.int .i64 b.sh,.int .i64 b.lo,.int .i64 b.ra,.int .i64 b.an,.int .i64 b.io,.int .i64 b.st,.int .i64 b.ga,.int .i64 b.le],.int .i64 k.inn] (fun _=>.int .i64 I) (fun _ _=>True) (by decide) (by decide) rfl (fun w=>by go_simp) aB (fun _=>aB) (fun W hW _=>?_) (fun ihs1 hs1=>?_)
   ·obtain⟨p,rfl⟩:=hW
    have hb:=below_regrown W7 p.d p.os;refine(eK b HV.out A c k.inn _ ((HS.out.below (hk7.trans (hb.mono hk7.size))).more (Nat.le_trans hk7.size hb.size))).mono ?_
    rintro e w' ⟨rfl,hbl⟩;exact⟨(),by rw[HI.out],trivial,hbl⟩
   repeat (refine aH (by decide) (by decide) (fun K hK=>?_);go_simp;refine hK _ ?_;clear hK K)
   refine fZ (ι:=Unit) 136 #[.agg #[.slice A b.gs.length c,.int .i64 b.sh,.int .i64 b.lo,.int .i64 b.ra,.int .i64 b.an,.int .i64 b.io,.int .i64 b.st,.int .i64 b.ga,.int .i64 b.le],.int .i64 k.out] (fun _=>.int .i64 O) (fun _ _=>True) (by decide) (by decide) rfl (fun w=>by go_simp) hs1 (fun _=>aB) (fun W hW _=>?_) (fun ihs2 hs2=>?_)
   ·obtain⟨p,rfl⟩:=hW
    have hb:=below_regrown W7 p.d p.os;refine(eK b HV.out A c k.out _ ((HS.out.below (hk7.trans (hb.mono hk7.size))).more (Nat.le_trans hk7.size hb.size))).mono ?_
    rintro e w' ⟨rfl,hbl⟩;exact⟨(),by rw[HO.out],trivial,hbl⟩
   refine bI ?_
   intro W8 hk8 _;clear hs1 hs2 x0 x1 x2 x3 x4 x5 x6 x7 x8 y4 y5 x0' x1' x2' x3' x4' x5' x6' x7' x8' y0' y1' y2' y3' y4' y5' y6';have hX8:=hX7.below hk8 hX7.lt;have hY8:=hY7.below hk8 hY7.lt;have hR8:=hR7.below hk8 hR7.lt;have hT8:=hT7.below hk8 hT7.lt;have hB8:Below w.heap.size w W8:=hB0.trans ((hk7.trans (hk8.mono hk7.size)).mono hB0.size);clear hX7 hY7 hR7 hT7 hk7 hk8;have HR8:=Lib.hid hR8;have HT8:=Lib.hid hT8;have HB8:=Lib.hid hB8;obtain⟨x0,x1,x2,x3,x4,x5,x6,x7,x8⟩:=bk9 hX8;obtain⟨y0,y1,y2,y3,y4,y5,y6⟩:=bk7 hY8;have t0:=hT8.cell 0;have t1:=hT8.cell 1;have t2:=hT8.cell 2;have t3:=hT8.cell 3;have t4:=hT8.cell 4;have t5:=hT8.cell 5;have t6:=hT8.cell 6;have t7:=hT8.cell 7;have t8:=hT8.cell 8;have t9:=hT8.cell 9;simp only[List.getElem?_toArray,List.getElem?_cons_zero,List.getElem?_cons_succ]at t0 t1 t2 t3 t4 t5 t6 t7 t8 t9
   have tf:=hT8.frozen;have tl:=hT8.lt;have rf:=hR8.frozen;have r0:=hR8.cell 0;have r1:=hR8.cell 1;have r2:=hR8.cell 2;have r3:=hR8.cell 3;have r4:=hR8.cell 4;have r5:=hR8.cell 5;have r6:=hR8.cell 6;have r7:=hR8.cell 7;have r8:=hR8.cell 8;have r9:=hR8.cell 9;simp only[List.getElem?_toArray,List.getElem?_cons_zero,List.getElem?_cons_succ]at r0 r1 r2 r3 r4 r5 r6 r7 r8 r9
   have rl:=hR8.lt;have hne:tb≠w.heap.size+2:=by have:=HTB.out;omega
   clear hX8 hY8 hR8 hT8 hB8;by_cases a3:P1≤100*k.inn
   ·by_cases a4:O<I
    ·go_wp2_with fail
     exact bodyPost_ret (aF (t:=4) rfl _ _ _ _ rfl rfl (BK.set10 (((HR8.out.far (p:=⟨tb,2,none⟩) (Ne.symm hne) _).far (p:=⟨tb,4,none⟩) (Ne.symm hne) _).far (p:=⟨tb,5,none⟩) (Ne.symm hne) _) rfl)) rfl ⟨by rw[HEQ.out,if_pos ⟨by omega,by omega⟩,HL.out];rfl,bM (((HB8.out.setCell (p:=⟨tb,2,none⟩) (by have:=HTB.out;simp only;omega) _).setCell (p:=⟨tb,4,none⟩) (by have:=HTB.out;simp only;omega) _).setCell (p:=⟨tb,5,none⟩) (by have:=HTB.out;simp only;omega) _) (by omega)⟩
    ·by_cases b1:P2≤100*k.out
     ·by_cases b2:I<O
      ·go_wp2_with fail
       exact bodyPost_ret (aF (t:=4) rfl _ _ _ _ rfl rfl (BK.set10 (((HR8.out.far (p:=⟨tb,2,none⟩) (Ne.symm hne) _).far (p:=⟨tb,4,none⟩) (Ne.symm hne) _).far (p:=⟨tb,5,none⟩) (Ne.symm hne) _) rfl)) rfl ⟨by rw[HEQ.out,if_neg (fun h=>by omega),if_pos ⟨by omega,by omega⟩,HL.out];rfl,bM (((HB8.out.setCell (p:=⟨tb,2,none⟩) (by have:=HTB.out;simp only;omega) _).setCell (p:=⟨tb,4,none⟩) (by have:=HTB.out;simp only;omega) _).setCell (p:=⟨tb,5,none⟩) (by have:=HTB.out;simp only;omega) _) (by omega)⟩
      ·go_wp2_with fail
       exact bodyPost_ret (aF (t:=4) rfl _ _ _ _ rfl rfl (BK.set10 HR8.out rfl)) rfl ⟨by rw[HEQ.out,if_neg (fun h=>by omega),if_neg (fun h=>by omega),HL.out];rfl,bM HB8.out (by omega)⟩
     ·go_wp2_with fail
      exact bodyPost_ret (aF (t:=4) rfl _ _ _ _ rfl rfl (BK.set10 HR8.out rfl)) rfl ⟨by rw[HEQ.out,if_neg (fun h=>by omega),if_neg (fun h=>by omega),HL.out];rfl,bM HB8.out (by omega)⟩
   ·by_cases b1:P2≤100*k.out
    ·by_cases b2:I<O
     ·go_wp2_with fail
      exact bodyPost_ret (aF (t:=4) rfl _ _ _ _ rfl rfl (BK.set10 (((HR8.out.far (p:=⟨tb,2,none⟩) (Ne.symm hne) _).far (p:=⟨tb,4,none⟩) (Ne.symm hne) _).far (p:=⟨tb,5,none⟩) (Ne.symm hne) _) rfl)) rfl ⟨by rw[HEQ.out,if_neg (fun h=>by omega),if_pos ⟨by omega,by omega⟩,HL.out];rfl,bM (((HB8.out.setCell (p:=⟨tb,2,none⟩) (by have:=HTB.out;simp only;omega) _).setCell (p:=⟨tb,4,none⟩) (by have:=HTB.out;simp only;omega) _).setCell (p:=⟨tb,5,none⟩) (by have:=HTB.out;simp only;omega) _) (by omega)⟩
     ·go_wp2_with fail
      exact bodyPost_ret (aF (t:=4) rfl _ _ _ _ rfl rfl (BK.set10 HR8.out rfl)) rfl ⟨by rw[HEQ.out,if_neg (fun h=>by omega),if_neg (fun h=>by omega),HL.out];rfl,bM HB8.out (by omega)⟩
    ·go_wp2_with fail
     exact bodyPost_ret (aF (t:=4) rfl _ _ _ _ rfl rfl (BK.set10 HR8.out rfl)) rfl ⟨by rw[HEQ.out,if_neg (fun h=>by omega),if_neg (fun h=>by omega),HL.out];rfl,bM HB8.out (by omega)⟩
  ·have HL:Hid (eB b k.ang=0):=by show _=_;unfold eB;rw[if_neg a1,if_neg a2]
   go_upto_region 6 with fail
   refine dI (fun W7 hW7=>?_)
   have hX7:BK W7 w.heap.size 31 #[.slice A b.gs.length c,.int .i64 b.sh,.int .i64 b.lo,.int .i64 b.ra,.int .i64 b.an,.int .i64 b.io,.int .i64 b.st,.int .i64 b.ga,.int .i64 b.le]:=by rw[hW7];exact hX6
   have hY7:BK W7 (w.heap.size+1) 152 #[.int .i64 k.fr,.int .i64 k.til,.int .i64 k.turn,.int .i64 k.rad,.int .i64 k.inn,.int .i64 k.out,.int .i64 k.ang]:=by rw[hW7];exact hY6
   have hR7:BK W7 (w.heap.size+2) 118 #[.int .i64 0,.int .i64 0,.int .i64 0,.int .i64 0,.int .i64 0,.int .i64 0,.int .i64 0,.int .i64 0,.int .i64 0,.int .i64 0]:=by rw[hW7];exact hR6
   have hT7:BK W7 tb 118 #[.int .i64 1,.int .i64 k.turn,.int .i64 G,.int .i64 (0),.int .i64 0,.int .i64 0,.int .i64 0,.int .i64 0,.int .i64 0,.int .i64 0]:=by rw[hW7];exact hT6
   have hk7:Below w0.heap.size w0 W7:=by rw[hW7];exact hk6
   clear hW7 hX6 hY6 hR6 hT6 hk6 x0 x1 x2 x3 x4 x5 x6 x7 x8 y0 y1 y2 y3 y4 y5 y6 f3 t3 tl a1 a2;obtain⟨x0',x1',x2',x3',x4',x5',x6',x7',x8'⟩:=bk9 hX7;obtain⟨y0',y1',y2',y3',y4',y5',y6'⟩:=bk7 hY7;have x0:=fun d os=>cell_regrown x0' d os
   have x1:=fun d os=>cell_regrown x1' d os
   have x2:=fun d os=>cell_regrown x2' d os
   have x3:=fun d os=>cell_regrown x3' d os
   have x4:=fun d os=>cell_regrown x4' d os
   have x5:=fun d os=>cell_regrown x5' d os
   have x6:=fun d os=>cell_regrown x6' d os
   have x7:=fun d os=>cell_regrown x7' d os
   have x8:=fun d os=>cell_regrown x8' d os
   have y4:=fun d os=>cell_regrown y4' d os
   have y5:=fun d os=>cell_regrown y5' d os
   refine aM 8 [3,7] hmo (by kernel_rfl) ?_
   simp only[List.take_succ_cons,List.take_zero,List.drop_succ_cons,List.drop_zero]
   repeat (refine aH (by decide) (by decide) (fun K hK=>?_);go_simp;refine hK _ ?_;clear hK K)
   refine fZ (ι:=Unit) 136 #[.agg #[.slice A b.gs.length c,.int .i64 b.sh,.int .i64 b.lo,.int .i64 b.ra,.int .i64 b.an,.int .i64 b.io,.int .i64 b.st,.int .i64 b.ga,.int .i64 b.le],.int .i64 k.inn] (fun _=>.int .i64 I) (fun _ _=>True) (by decide) (by decide) rfl (fun w=>by go_simp) aB (fun _=>aB) (fun W hW _=>?_) (fun ihs1 hs1=>?_)
   ·obtain⟨p,rfl⟩:=hW
    have hb:=below_regrown W7 p.d p.os;refine(eK b HV.out A c k.inn _ ((HS.out.below (hk7.trans (hb.mono hk7.size))).more (Nat.le_trans hk7.size hb.size))).mono ?_
    rintro e w' ⟨rfl,hbl⟩;exact⟨(),by rw[HI.out],trivial,hbl⟩
   repeat (refine aH (by decide) (by decide) (fun K hK=>?_);go_simp;refine hK _ ?_;clear hK K)
   refine fZ (ι:=Unit) 136 #[.agg #[.slice A b.gs.length c,.int .i64 b.sh,.int .i64 b.lo,.int .i64 b.ra,.int .i64 b.an,.int .i64 b.io,.int .i64 b.st,.int .i64 b.ga,.int .i64 b.le],.int .i64 k.out] (fun _=>.int .i64 O) (fun _ _=>True) (by decide) (by decide) rfl (fun w=>by go_simp) hs1 (fun _=>aB) (fun W hW _=>?_) (fun ihs2 hs2=>?_)
   ·obtain⟨p,rfl⟩:=hW
    have hb:=below_regrown W7 p.d p.os;refine(eK b HV.out A c k.out _ ((HS.out.below (hk7.trans (hb.mono hk7.size))).more (Nat.le_trans hk7.size hb.size))).mono ?_
    rintro e w' ⟨rfl,hbl⟩;exact⟨(),by rw[HO.out],trivial,hbl⟩
   refine bI ?_
   intro W8 hk8 _;clear hs1 hs2 x0 x1 x2 x3 x4 x5 x6 x7 x8 y4 y5 x0' x1' x2' x3' x4' x5' x6' x7' x8' y0' y1' y2' y3' y4' y5' y6';have hX8:=hX7.below hk8 hX7.lt;have hY8:=hY7.below hk8 hY7.lt;have hR8:=hR7.below hk8 hR7.lt;have hT8:=hT7.below hk8 hT7.lt;have hB8:Below w.heap.size w W8:=hB0.trans ((hk7.trans (hk8.mono hk7.size)).mono hB0.size);clear hX7 hY7 hR7 hT7 hk7 hk8;have HR8:=Lib.hid hR8;have HT8:=Lib.hid hT8;have HB8:=Lib.hid hB8;obtain⟨x0,x1,x2,x3,x4,x5,x6,x7,x8⟩:=bk9 hX8;obtain⟨y0,y1,y2,y3,y4,y5,y6⟩:=bk7 hY8;have t0:=hT8.cell 0;have t1:=hT8.cell 1;have t2:=hT8.cell 2;have t3:=hT8.cell 3;have t4:=hT8.cell 4;have t5:=hT8.cell 5;have t6:=hT8.cell 6;have t7:=hT8.cell 7;have t8:=hT8.cell 8;have t9:=hT8.cell 9;simp only[List.getElem?_toArray,List.getElem?_cons_zero,List.getElem?_cons_succ]at t0 t1 t2 t3 t4 t5 t6 t7 t8 t9
   have tf:=hT8.frozen;have tl:=hT8.lt;have rf:=hR8.frozen;have r0:=hR8.cell 0;have r1:=hR8.cell 1;have r2:=hR8.cell 2;have r3:=hR8.cell 3;have r4:=hR8.cell 4;have r5:=hR8.cell 5;have r6:=hR8.cell 6;have r7:=hR8.cell 7;have r8:=hR8.cell 8;have r9:=hR8.cell 9;simp only[List.getElem?_toArray,List.getElem?_cons_zero,List.getElem?_cons_succ]at r0 r1 r2 r3 r4 r5 r6 r7 r8 r9
   have rl:=hR8.lt;have hne:tb≠w.heap.size+2:=by have:=HTB.out;omega
   clear hX8 hY8 hR8 hT8 hB8;by_cases a3:P1≤100*k.inn
   ·by_cases a4:O<I
    ·go_wp2_with fail
     exact bodyPost_ret (aF (t:=4) rfl _ _ _ _ rfl rfl (BK.set10 (((HR8.out.far (p:=⟨tb,2,none⟩) (Ne.symm hne) _).far (p:=⟨tb,4,none⟩) (Ne.symm hne) _).far (p:=⟨tb,5,none⟩) (Ne.symm hne) _) rfl)) rfl ⟨by rw[HEQ.out,if_pos ⟨by omega,by omega⟩,HL.out];rfl,bM (((HB8.out.setCell (p:=⟨tb,2,none⟩) (by have:=HTB.out;simp only;omega) _).setCell (p:=⟨tb,4,none⟩) (by have:=HTB.out;simp only;omega) _).setCell (p:=⟨tb,5,none⟩) (by have:=HTB.out;simp only;omega) _) (by omega)⟩
    ·by_cases b1:P2≤100*k.out
     ·by_cases b2:I<O
      ·go_wp2_with fail
       exact bodyPost_ret (aF (t:=4) rfl _ _ _ _ rfl rfl (BK.set10 (((HR8.out.far (p:=⟨tb,2,none⟩) (Ne.symm hne) _).far (p:=⟨tb,4,none⟩) (Ne.symm hne) _).far (p:=⟨tb,5,none⟩) (Ne.symm hne) _) rfl)) rfl ⟨by rw[HEQ.out,if_neg (fun h=>by omega),if_pos ⟨by omega,by omega⟩,HL.out];rfl,bM (((HB8.out.setCell (p:=⟨tb,2,none⟩) (by have:=HTB.out;simp only;omega) _).setCell (p:=⟨tb,4,none⟩) (by have:=HTB.out;simp only;omega) _).setCell (p:=⟨tb,5,none⟩) (by have:=HTB.out;simp only;omega) _) (by omega)⟩
      ·go_wp2_with fail
       exact bodyPost_ret (aF (t:=4) rfl _ _ _ _ rfl rfl (BK.set10 HR8.out rfl)) rfl ⟨by rw[HEQ.out,if_neg (fun h=>by omega),if_neg (fun h=>by omega),HL.out];rfl,bM HB8.out (by omega)⟩
     ·go_wp2_with fail
      exact bodyPost_ret (aF (t:=4) rfl _ _ _ _ rfl rfl (BK.set10 HR8.out rfl)) rfl ⟨by rw[HEQ.out,if_neg (fun h=>by omega),if_neg (fun h=>by omega),HL.out];rfl,bM HB8.out (by omega)⟩
   ·by_cases b1:P2≤100*k.out
    ·by_cases b2:I<O
     ·go_wp2_with fail
      exact bodyPost_ret (aF (t:=4) rfl _ _ _ _ rfl rfl (BK.set10 (((HR8.out.far (p:=⟨tb,2,none⟩) (Ne.symm hne) _).far (p:=⟨tb,4,none⟩) (Ne.symm hne) _).far (p:=⟨tb,5,none⟩) (Ne.symm hne) _) rfl)) rfl ⟨by rw[HEQ.out,if_neg (fun h=>by omega),if_pos ⟨by omega,by omega⟩,HL.out];rfl,bM (((HB8.out.setCell (p:=⟨tb,2,none⟩) (by have:=HTB.out;simp only;omega) _).setCell (p:=⟨tb,4,none⟩) (by have:=HTB.out;simp only;omega) _).setCell (p:=⟨tb,5,none⟩) (by have:=HTB.out;simp only;omega) _) (by omega)⟩
     ·go_wp2_with fail
      exact bodyPost_ret (aF (t:=4) rfl _ _ _ _ rfl rfl (BK.set10 HR8.out rfl)) rfl ⟨by rw[HEQ.out,if_neg (fun h=>by omega),if_neg (fun h=>by omega),HL.out];rfl,bM HB8.out (by omega)⟩
    ·go_wp2_with fail
     exact bodyPost_ret (aF (t:=4) rfl _ _ _ _ rfl rfl (BK.set10 HR8.out rfl)) rfl ⟨by rw[HEQ.out,if_neg (fun h=>by omega),if_neg (fun h=>by omega),HL.out];rfl,bM HB8.out (by omega)⟩
end Go.Proofs.YtjlkeoppppfeiaaGreat
