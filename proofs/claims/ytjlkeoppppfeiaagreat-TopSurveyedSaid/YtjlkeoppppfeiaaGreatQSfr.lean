/- Lemmas. -/
import Derived.Test.YtjlkeoppppfeiaaGreatQMrgd
import Derived.Test.YtjlkeoppppfeiaaGreatQCmp
import Derived.Test.YtjlkeoppppfeiaaGreatQRuns
namespace Go.Proofs.YtjlkeoppppfeiaaGreat
open Go.RowKit Go.Shelf Go.Sort Go.Proofs
def sfr (x y:Piece) (l:Int):Option Piece:=
 if x.turn=0 then some ⟨l,y.turn,y.rad,if y.wid<x.wid then y.wid else x.wid,if x.sur<y.sur then y.sur else x.sur⟩
 else if y.turn=0 then some ⟨l,x.turn,x.rad,if y.wid<x.wid then y.wid else x.wid,if x.sur<y.sur then y.sur else x.sur⟩
 else if x.turn=y.turn then some ⟨l,x.turn,if y.rad<x.rad then y.rad else x.rad,if y.wid<x.wid then y.wid else x.wid,if x.sur<y.sur then y.sur else x.sur⟩
 else none
def aDv (o:Option Piece):Value:=match o with
 |some z=>.tuple #[.agg #[.int .i64 z.len,.int .i64 z.turn,.int .i64 z.rad,.int .i64 z.wid,.int .i64 z.sur],.bool true]
 |none=>.tuple #[.agg #[.int .i64 0,.int .i64 0,.int .i64 0,.int .i64 0,.int .i64 0],.bool false]
theorem oO {P:Program} {fn:Func} {Φ:Ending→World→Prop} {ex:Exit} {a:Act} {w:World} (h:∀W,W=w→bodyPost P fn Φ ex a W):bodyPost P fn Φ ex a w:=h w rfl
theorem wM {P:Program} {c:Code} {Q:Exit→Act→World→Prop} {a:Act} {w:World} (h:∀W,W=w→c.wp P Q a W):c.wp P Q a w:=h w rfl
set_option maxRecDepth 100000 in
set_option maxHeartbeats 4000000 in
theorem aAk (x y:Piece) (w:World):Calls Tryz.prog 41 #[.agg #[.int .i64 x.len,.int .i64 x.turn,.int .i64 x.rad,.int .i64 x.wid,.int .i64 x.sur,.int .i64 y.len,.int .i64 y.turn,.int .i64 y.rad,.int .i64 y.wid,.int .i64 y.sur]] w fun e w'=>e = .returned (aDv (sfr x y 0))∧Below w.heap.size w w':=by
 have hmo:Tryz.prog.follows .mixedOrders=true:=by kernel_rfl
 obtain⟨MW,hMW⟩ : ∃MW,MW=if y.wid<x.wid then y.wid else x.wid:=⟨_,rfl⟩
 obtain⟨MS',hMS⟩ : ∃MS',MS'=if x.sur<y.sur then y.sur else x.sur:=⟨_,rfl⟩
 obtain⟨MR,hMR⟩ : ∃MR,MR=if y.rad<x.rad then y.rad else x.rad:=⟨_,rfl⟩
 have e0:Hid (sfr x y 0=if x.turn=0 then some ⟨0,y.turn,y.rad,MW,MS'⟩ else if y.turn=0 then some ⟨0,x.turn,x.rad,MW,MS'⟩ else if x.turn=y.turn then some ⟨0,x.turn,MR,MW,MS'⟩ else none):=by show _=_;rw[hMW,hMS,hMR];rfl
 have q1:=hMW.symm;have q2:=hMS.symm;have q3:=hMR.symm;clear hMW hMS hMR;obtain⟨w0,hw0⟩ : ∃w0,w0=(w.alloc (.cells #[.int .i64 x.len,.int .i64 x.turn,.int .i64 x.rad,.int .i64 x.wid,.int .i64 x.sur,.int .i64 y.len,.int .i64 y.turn,.int .i64 y.rad,.int .i64 y.wid,.int .i64 y.sur] 126)).alloc (.cells #[.int .i64 0,.int .i64 0,.int .i64 0,.int .i64 0,.int .i64 0] 112):=⟨_,rfl⟩
 have hB0:Below w.heap.size w w0:=by rw[hw0];exact((Below.refl _ _).alloc (Nat.le_refl _) _).alloc (by simp) _
 have hP0:BK w0 w.heap.size 126 #[.int .i64 x.len,.int .i64 x.turn,.int .i64 x.rad,.int .i64 x.wid,.int .i64 x.sur,.int .i64 y.len,.int .i64 y.turn,.int .i64 y.rad,.int .i64 y.wid,.int .i64 y.sur]:=by rw[hw0];exact(BK.new w _ _).alloc _
 have hZ0:BK w0 (w.heap.size+1) 112 #[.int .i64 0,.int .i64 0,.int .i64 0,.int .i64 0,.int .i64 0]:=by rw[hw0];have:=BK.new (w.alloc (.cells #[.int .i64 x.len,.int .i64 x.turn,.int .i64 x.rad,.int .i64 x.wid,.int .i64 x.sur,.int .i64 y.len,.int .i64 y.turn,.int .i64 y.rad,.int .i64 y.wid,.int .i64 y.sur] 126)) 112 #[.int .i64 0,.int .i64 0,.int .i64 0,.int .i64 0,.int .i64 0];rw[World.size_alloc]at this;exact this
 go_enter Tryz.func41,Tryz.ntmps41
 go_wp2_with fail
 rw[←hw0];clear hw0;have k0:=fun d os=>cell_regrown (hP0.cell 0) d os
 have k1:=fun d os=>cell_regrown (hP0.cell 1) d os
 have k2:=fun d os=>cell_regrown (hP0.cell 2) d os
 have k3:=fun d os=>cell_regrown (hP0.cell 3) d os
 have k4:=fun d os=>cell_regrown (hP0.cell 4) d os
 have k5:=fun d os=>cell_regrown (hP0.cell 5) d os
 have k6:=fun d os=>cell_regrown (hP0.cell 6) d os
 have k7:=fun d os=>cell_regrown (hP0.cell 7) d os
 have k8:=fun d os=>cell_regrown (hP0.cell 8) d os
 have k9:=fun d os=>cell_regrown (hP0.cell 9) d os
 refine qP 7 4 5 6 [] 112 112 #[.int .i64 0,.int .i64 0,.int .i64 0,.int .i64 0,.int .i64 0] #[.int .i64 0,.int .i64 0,.int .i64 0,.int .i64 0,.int .i64 0] #[.int .i64 x.len,.int .i64 x.turn,.int .i64 x.rad,.int .i64 x.wid,.int .i64 x.sur] 4 5 8 (.agg #[.int .i64 x.len,.int .i64 x.turn,.int .i64 x.rad,.int .i64 x.wid,.int .i64 x.sur]) _ _ _ hmo (by decide) rfl rfl rfl (fun a w=>rfl) rfl rfl rfl (fun a w=>rfl) rfl rfl rfl (by kernel_rfl) (by kernel_rfl) (fun a w b h1 h2 h3=>nK x 4 8 a w b h1 h2 h3 _ rfl) (by kernel_rfl) ?_
 simp only[List.take_succ_cons,List.take_zero,List.drop_succ_cons,List.drop_zero]
 repeat (refine nB (by decide) (by decide) (fun K hK=>?_);go_simp;refine hK _ ?_;clear hK K)
 refine gD (by decide) (fun h=>by cases h) ?_
 refine gD (by decide) (fun h=>by cases h) ?_
 refine gD (by decide) (fun _=>⟨rfl,by simp⟩) ?_
 refine mD ?_
 intro b1 b2 Wf hbf _ hg1 hg2 hne K1 K2;clear k0 k1 k2 k3 k4 k5 k6 k7 k8 k9;have hne2:¬b2=b1:=fun e=>hne e.symm
 have hBF:=hB0.trans (hbf.mono hB0.size);have hZF:=hZ0.below hbf hZ0.lt;have hZL:=hZ0.lt;have f2:=K2.frozen;have l2:=K2.lt;have t0:=K2.cell 0;have t1:=K2.cell 1;have t2:=K2.cell 2;have t3:=K2.cell 3;have t4:=K2.cell 4;simp only[List.getElem?_toArray,List.getElem?_cons_zero,List.getElem?_cons_succ]at t0 t1 t2 t3 t4
 go_upto_region 2 with fail
 refine wM (fun Wg hWg=>?_)
 have G1:BK Wg b1 112 #[.int .i64 x.len,.int .i64 x.turn,.int .i64 x.rad,.int .i64 x.wid,.int .i64 x.sur]:=by rw[hWg];exact(((((K1.far (p:=⟨b2,0,none⟩) hne _).far (p:=⟨b2,1,none⟩) hne _).far (p:=⟨b2,2,none⟩) hne _).far (p:=⟨b2,3,none⟩) hne _).far (p:=⟨b2,4,none⟩) hne _)
 have G2:BK Wg b2 112 #[.int .i64 y.len,.int .i64 y.turn,.int .i64 y.rad,.int .i64 y.wid,.int .i64 y.sur]:=by rw[hWg];exact(((((K2.set_ 0 _).set_ 1 _).set_ 2 _).set_ 3 _).set_ 4 _)
 have hz2:w.heap.size+1≠b2:=by omega
 have hZG:BK Wg (w.heap.size+1) 112 #[.int .i64 0,.int .i64 0,.int .i64 0,.int .i64 0,.int .i64 0]:=by rw[hWg];exact(((((hZF.far (p:=⟨b2,0,none⟩) hz2 _).far (p:=⟨b2,1,none⟩) hz2 _).far (p:=⟨b2,2,none⟩) hz2 _).far (p:=⟨b2,3,none⟩) hz2 _).far (p:=⟨b2,4,none⟩) hz2 _)
 have hg3:w.heap.size≤b2:=by omega
 have hBG:Below w.heap.size w Wg:=by rw[hWg];exact(((((hBF.setCell hg3 _).setCell hg3 _).setCell hg3 _).setCell hg3 _).setCell hg3 _)
 clear hWg K1 K2 f2 l2 t0 t1 t2 t3 t4 hBF hZF hbf;have s0:=G1.cell 0;have s1:=G1.cell 1;have s2:=G1.cell 2;have s3:=G1.cell 3;have s4:=G1.cell 4;have t0:=G2.cell 0;have t1:=G2.cell 1;have t2:=G2.cell 2;have t3:=G2.cell 3;have t4:=G2.cell 4;have z0:=hZG.cell 0;have z1:=hZG.cell 1;have z2:=hZG.cell 2;have z3:=hZG.cell 3;have z4:=hZG.cell 4;have zf:=hZG.frozen;have ll1:=G1.lt;have ll2:=G2.lt;have llz:=hZG.lt;have hnz1:w.heap.size+1<b1:=by omega
 have hnz2:w.heap.size+1<b2:=by omega
 simp only[List.getElem?_toArray,List.getElem?_cons_zero,List.getElem?_cons_succ]at s0 t0 s1 t1 s2 t2 s3 t3 s4 t4 z0 z1 z2 z3 z4
 by_cases h1:x.turn=0
 ·have b1':(x.turn == 0)=true:=by simpa using h1
  have H1:=Lib.hid h1;clear h1;go_wp2_with fail
  go_region
  go_wp2_with fail
  refine oO (fun WF hWF=>?_)
  have hZZ:BK WF (w.heap.size+1) 112 #[.int .i64 0,.int .i64 y.turn,.int .i64 y.rad,.int .i64 MW,.int .i64 MS']:=by rw[hWF];exact(((((hZG.set_ 0 _).set_ 1 _).set_ 2 _).set_ 3 _).set_ 4 _).alloc _
  have hBZ:Below w.heap.size w WF:=by rw[hWF];exact aD (((((((hBG.setCell (by simp<;>omega) _).setCell (by simp<;>omega) _).setCell (by simp<;>omega) _).setCell (by simp<;>omega) _).setCell (by simp<;>omega) _).alloc (by simp;exact hBG.size) _)) 1
  clear hWF;have y0:=hZZ.cell 0;have y1:=hZZ.cell 1;have y2:=hZZ.cell 2;have y3:=hZZ.cell 3;have y4:=hZZ.cell 4;simp only[List.getElem?_toArray,List.getElem?_cons_zero,List.getElem?_cons_succ]at y0 y1 y2 y3 y4
  refine bodyPost_ret (v:=.tuple #[.agg #[.int .i64 0,.int .i64 y.turn,.int .i64 y.rad,.int .i64 MW,.int .i64 MS'],.bool true]) (by simp[results,Tryz.results41,go_sem,y0,y1,y2,y3,y4]) rfl ⟨by rw[e0.out,if_pos H1.out];exact rfl,hBZ⟩
 have b1':(x.turn == 0)=false:=by simpa using h1
 have H1:=Lib.hid h1;clear h1;by_cases h2:y.turn=0
 ·have b2':(y.turn == 0)=true:=by simpa using h2
  have H2:=Lib.hid h2;clear h2;go_wp2_with fail
  go_region
  go_wp2_with fail
  refine oO (fun WF hWF=>?_)
  have hZZ:BK WF (w.heap.size+1) 112 #[.int .i64 0,.int .i64 x.turn,.int .i64 x.rad,.int .i64 MW,.int .i64 MS']:=by rw[hWF];exact(((((hZG.set_ 0 _).set_ 1 _).set_ 2 _).set_ 3 _).set_ 4 _).alloc _
  have hBZ:Below w.heap.size w WF:=by rw[hWF];exact aD (((((((hBG.setCell (by simp<;>omega) _).setCell (by simp<;>omega) _).setCell (by simp<;>omega) _).setCell (by simp<;>omega) _).setCell (by simp<;>omega) _).alloc (by simp;exact hBG.size) _)) 1
  clear hWF;have y0:=hZZ.cell 0;have y1:=hZZ.cell 1;have y2:=hZZ.cell 2;have y3:=hZZ.cell 3;have y4:=hZZ.cell 4;simp only[List.getElem?_toArray,List.getElem?_cons_zero,List.getElem?_cons_succ]at y0 y1 y2 y3 y4
  refine bodyPost_ret (v:=.tuple #[.agg #[.int .i64 0,.int .i64 x.turn,.int .i64 x.rad,.int .i64 MW,.int .i64 MS'],.bool true]) (by simp[results,Tryz.results41,go_sem,y0,y1,y2,y3,y4]) rfl ⟨by rw[e0.out,if_neg H1.out,if_pos H2.out];exact rfl,hBZ⟩
 have b2':(y.turn == 0)=false:=by simpa using h2
 have H2:=Lib.hid h2;clear h2;by_cases h3:x.turn=y.turn
 ·have b3':(x.turn == y.turn)=true:=by simpa using h3
  have H3:=Lib.hid h3;clear h3;go_wp2_with fail
  go_region
  go_wp2_with fail
  refine oO (fun WF hWF=>?_)
  have hZZ:BK WF (w.heap.size+1) 112 #[.int .i64 0,.int .i64 x.turn,.int .i64 MR,.int .i64 MW,.int .i64 MS']:=by rw[hWF];exact(((((hZG.set_ 0 _).set_ 1 _).set_ 2 _).set_ 3 _).set_ 4 _).alloc _
  have hBZ:Below w.heap.size w WF:=by rw[hWF];exact aD (((((((hBG.setCell (by simp<;>omega) _).setCell (by simp<;>omega) _).setCell (by simp<;>omega) _).setCell (by simp<;>omega) _).setCell (by simp<;>omega) _).alloc (by simp;exact hBG.size) _)) 1
  clear hWF;have y0:=hZZ.cell 0;have y1:=hZZ.cell 1;have y2:=hZZ.cell 2;have y3:=hZZ.cell 3;have y4:=hZZ.cell 4;simp only[List.getElem?_toArray,List.getElem?_cons_zero,List.getElem?_cons_succ]at y0 y1 y2 y3 y4
  refine bodyPost_ret (v:=.tuple #[.agg #[.int .i64 0,.int .i64 x.turn,.int .i64 MR,.int .i64 MW,.int .i64 MS'],.bool true]) (by simp[results,Tryz.results41,go_sem,y0,y1,y2,y3,y4]) rfl ⟨by rw[e0.out,if_neg H1.out,if_neg H2.out,if_pos H3.out];exact rfl,hBZ⟩
 have b3':(x.turn == y.turn)=false:=by simpa using h3
 have H3:=Lib.hid h3;clear h3;go_wp2_with fail
 refine oO (fun WF hWF=>?_)
 have hZZ:BK WF (w.heap.size+1) 112 #[.int .i64 0,.int .i64 0,.int .i64 0,.int .i64 0,.int .i64 0]:=by rw[hWF];exact(((((hZG.set_ 0 _).set_ 1 _).set_ 2 _).set_ 3 _).set_ 4 _).alloc _
 have hBZ:Below w.heap.size w WF:=by rw[hWF];exact(((((((hBG.setCell (by simp<;>omega) _).setCell (by simp<;>omega) _).setCell (by simp<;>omega) _).setCell (by simp<;>omega) _).setCell (by simp<;>omega) _).alloc (by simp;exact hBG.size) _))
 clear hWF;have y0:=hZZ.cell 0;have y1:=hZZ.cell 1;have y2:=hZZ.cell 2;have y3:=hZZ.cell 3;have y4:=hZZ.cell 4;simp only[List.getElem?_toArray,List.getElem?_cons_zero,List.getElem?_cons_succ]at y0 y1 y2 y3 y4
 refine bodyPost_ret (v:=.tuple #[.agg #[.int .i64 0,.int .i64 0,.int .i64 0,.int .i64 0,.int .i64 0],.bool false]) (by simp[results,Tryz.results41,go_sem,y0,y1,y2,y3,y4]) rfl ⟨by rw[e0.out,if_neg H1.out,if_neg H2.out,if_neg H3.out];exact rfl,hBZ⟩
end Go.Proofs.YtjlkeoppppfeiaaGreat
namespace Go.Proofs.YtjlkeoppppfeiaaGreat
open Go.RowKit Go.Shelf Go.Sort Go.Proofs
theorem zX {ps qs:List Piece} (hp:∀q∈ps,1≤q.len) (hq:∀q∈qs,1≤q.len) (he:sumL ps=sumL qs):∀(f i j:Nat) (fr:Int),Lie ps i fr→Lie qs j fr→∀s∈strs ps qs f i j fr,s.p∈ps∧s.q∈qs∧1≤s.til-s.fr∧s.til-s.fr≤s.p.len
 |0,_,_,_,_,_,s,hs=>by cases hs
 |f+1,i,j,fr,h1,h2,s,hs=>by
  by_cases hi:i<ps.length
  ·have hj:=h1.both h2 he hp hi
   obtain⟨t,ht⟩ : ∃t,t=min (sumL (ps.take (i+1))) (sumL (qs.take (j+1))):=⟨_,rfl⟩
   rw[j6 hi hj ht]at hs;have t1:=h1.hi hi;have t2:=h2.hi hj;have hlo:=h1.lo;have hst:=dH ps i hi;rcases List.mem_cons.1 hs with rfl|hs
   ·exact⟨List.getElem_mem hi,List.getElem_mem hj,by show 1≤t-fr;omega,by show t-fr≤ps[i].len;omega⟩
   ·exact zX hp hq he f _ _ t (h1.next hp hi (by omega) (by omega)) (h2.next hq hj (by omega) (by omega)) s hs
  ·rw[qE hi]at hs
   cases hs
theorem aDI {ps qs:List Piece} (hp:∀q∈ps,1≤q.len) (hq:∀q∈qs,1≤q.len) (he:sumL ps=sumL qs):∀s∈strL ps qs,s.p∈ps∧s.q∈qs∧1≤s.til-s.fr∧s.til-s.fr≤s.p.len:=
 zX hp hq he _ 0 0 0 (Lie.start hp) (Lie.start hq)
theorem aCF {x y z:Piece} {l:Int} (hx:pOk x=true) (hy:pOk y=true) (hl1:1≤l) (hl2:l≤5000) (h:sfr x y l=some z):pOk z=true:=by
 have hif:∀p:Piece,pOk p=true→(1≤p.len∧p.len≤5000)∧(-1≤p.turn∧p.turn≤1)∧(15≤p.wid∧p.wid≤300)∧(1≤p.sur∧p.sur≤9)∧((p.turn=0→p.rad=0)∧(¬p.turn=0→5≤p.rad∧p.rad≤2000)):=by
  intro p h;simp only[pOk,inR,Bool.and_eq_true,decide_eq_true_eq]at h;refine⟨h.1,h.2.1,h.2.2.1,h.2.2.2.1,fun h0=>?_,fun h0=>?_⟩
  ·have:=h.2.2.2.2;rw[if_pos h0]at this;simpa using this
  ·have:=h.2.2.2.2;rw[if_neg h0]at this;simpa using this
 have hfi:∀p:Piece,(1≤p.len∧p.len≤5000)→(-1≤p.turn∧p.turn≤1)→(15≤p.wid∧p.wid≤300)→(1≤p.sur∧p.sur≤9)→((p.turn=0→p.rad=0)∧(¬p.turn=0→5≤p.rad∧p.rad≤2000))→pOk p=true:=by
  intro p h1 h2 h3 h4 h5;simp only[pOk,inR,Bool.and_eq_true,decide_eq_true_eq];refine⟨h1,h2,h3,h4,?_⟩
  split
  ·rename_i h0;simpa using h5.1 h0
  ·rename_i h0;simpa using h5.2 h0
 obtain⟨x1,x2,x3,x4,x5,x6⟩:=hif x hx;obtain⟨y1,y2,y3,y4,y5,y6⟩:=hif y hy;have hw:15≤(if y.wid<x.wid then y.wid else x.wid)∧(if y.wid<x.wid then y.wid else x.wid)≤300:=by split<;>omega
 have hs:1≤(if x.sur<y.sur then y.sur else x.sur)∧(if x.sur<y.sur then y.sur else x.sur)≤9:=by split<;>omega
 unfold sfr at h
 split at h
 ·cases h;exact hfi _ ⟨hl1,hl2⟩ y2 hw hs ⟨y5,y6⟩
 ·rename_i h1
  split at h
  ·cases h;exact hfi _ ⟨hl1,hl2⟩ x2 hw hs ⟨x5,x6⟩
  ·rename_i h2
   split at h
   ·cases h
    have hr:5≤(if y.rad<x.rad then y.rad else x.rad)∧(if y.rad<x.rad then y.rad else x.rad)≤2000:=by
     have a1:=x6 h1;have a2:=y6 h2
     split<;>omega
    exact hfi _ ⟨hl1,hl2⟩ x2 hw hs ⟨fun h0=>absurd h0 h1,fun _=>hr⟩
   ·cases h
def sfM (l:List Str):Option (List Piece):=l.foldl (fun acc s=>acc.bind fun L=>(sfr s.p s.q (s.til-s.fr)).map fun z=>L++[z]) (some [])
theorem sfM_snoc (l:List Str) (s:Str):sfM (l++[s])=(sfM l).bind fun L=>(sfr s.p s.q (s.til-s.fr)).map fun z=>L++[z]:=by simp[sfM,List.foldl_append]
theorem wN:∀(r l:List Str),sfM l=none→sfM (l++r)=none
 | [],l,h=>by rw[List.append_nil];exact h
 |s::r,l,h=>by
  have:=wN r (l++[s]) (by rw[sfM_snoc,h];rfl)
  rwa [List.append_assoc]at this
theorem tU:∀(l:List Str) {L:List Piece},sfM l=some L→L.length=l.length:=fun l=>by
 induction l using eQ with
 |h0=>intro L h;cases h;rfl
 |h1 l s ih=>
  intro L h;rw[sfM_snoc]at h;cases hl:sfM l with
  |none=>rw[hl]at h;cases h
  |some L'=>
   rw[hl]at h;simp only[Option.bind_some]at h;cases hs:sfr s.p s.q (s.til-s.fr) with
   |none=>rw[hs]at h;cases h
   |some z=>rw[hs]at h;cases h;rw[List.length_append,List.length_append,ih hl];rfl
theorem aDJ:∀(l:List Str) {L:List Piece},sfM l=some L→∀z∈L,∃s∈l,sfr s.p s.q (s.til-s.fr)=some z:=fun l=>by
 induction l using eQ with
 |h0=>intro L h z hz;cases h;cases hz
 |h1 l s ih=>
  intro L h z hz;rw[sfM_snoc]at h;cases hl:sfM l with
  |none=>rw[hl]at h;cases h
  |some L'=>
   rw[hl]at h;simp only[Option.bind_some]at h;cases hs:sfr s.p s.q (s.til-s.fr) with
   |none=>rw[hs]at h;cases h
   |some z'=>
    rw[hs]at h;cases h
    rcases List.mem_append.1 hz with hz|hz
    ·obtain⟨s',h1,h2⟩:=ih hl z hz
     exact⟨s',List.mem_append.2 (.inl h1),h2⟩
    ·rw[List.mem_singleton]at hz
     subst hz;exact⟨s,List.mem_append.2 (.inr (List.mem_cons_self ..)),hs⟩
theorem yG {ps qs:List Piece} (hp:∀q∈ps,pOk q=true) (hq:∀q∈qs,pOk q=true) (he:sumL ps=sumL qs) {L:List Piece} (h:sfM (strL ps qs)=some L):∀z∈L,pOk z=true:=by
 intro z hz;obtain⟨s,h1,h2⟩:=aDJ _ h z hz;obtain⟨a1,a2,a3,a4⟩:=aDI (fun q hq'=>(aP (hp q hq')).1) (fun q hq'=>(aP (hq q hq')).1) he s h1
 have:=aP (hp _ a1);exact aCF (hp _ a1) (hq _ a2) a3 (by omega) h2
theorem aDK {x y:Piece} {l:Int} {z:Piece} (h:sfr x y 0=some z):sfr x y l=some { z with len:=l }:=by
 unfold sfr at h ⊢
 split at h
 ·rename_i h1;rw[if_pos h1];cases h;rfl
 ·rename_i h1
  rw[if_neg h1]
  split at h
  ·rename_i h2;rw[if_pos h2];cases h;rfl
  ·rename_i h2
   rw[if_neg h2]
   split at h
   ·rename_i h3;rw[if_pos h3];cases h;rfl
   ·cases h
theorem aDw {x y:Piece} {l:Int} (h:sfr x y 0=none):sfr x y l=none:=by
 unfold sfr at h ⊢
 split at h
 ·cases h
 ·rename_i h1
  rw[if_neg h1]
  split at h
  ·cases h
  ·rename_i h2
   rw[if_neg h2]
   split at h
   ·cases h
   ·rename_i h3;rw[if_neg h3]
theorem wO {ps:List Piece} (hp:∀q∈ps,pOk q=true):∀z∈normP ps,pOk z=true:=by
 intro z hz;have h1:∀q∈ps,1≤q.len:=fun q hq=>(aP (hp q hq)).1
 obtain⟨p,hpm,hpe⟩:=yL h1 hz;exact sH (hp p hpm) hpe (oA h1 z hz)
end Go.Proofs.YtjlkeoppppfeiaaGreat
namespace Go.Proofs.YtjlkeoppppfeiaaGreat
open Go.RowKit Go.Shelf Go.Sort Go.Proofs
def rfM (xs ys:List Piece):Nat→Option (List Piece)
 |0=>some []
 |k+1=>(rfM xs ys k).bind fun L=>match xs[k]?,ys[k]? with
  |some x,some y=>(sfr x y 1).map fun z=>L++[z]
  |_,_=>some L
theorem qB (xs ys:List Piece) (k:Nat) {x y:Piece} (hx:xs[k]?=some x) (hy:ys[k]?=some y):rfM xs ys (k+1)=(rfM xs ys k).bind fun L=>(sfr x y 1).map fun z=>L++[z]:=by
 rw[rfM,hx,hy]
theorem zY (xs ys:List Piece) {x y:Piece} (k:Nat):∀m:Nat,(∀i,i<m+1→xs[k+i]?=some x∧ys[k+i]?=some y) →
  rfM xs ys (k+(m+1))=(rfM xs ys k).bind fun L=>(sfr x y 1).map fun z=>L++List.replicate (m+1) z
 |0,h=>by
  obtain⟨h1,h2⟩:=h 0 (by omega)
  rw[qB xs ys k h1 h2]
  rfl
 |m+1,h=>by
  obtain⟨h1,h2⟩:=h (m+1) (by omega)
  have ih:=zY xs ys k m (fun i hi=>h i (by omega))
  show rfM xs ys ((k+(m+1))+1)=_
  rw[qB xs ys (k+(m+1)) h1 h2,ih];cases rfM xs ys k with
  |none=>rfl
  |some L=>
   cases sfr x y 1 with
   |none=>rfl
   |some z=>
    simp only[Option.bind_some,Option.map_some];rw[List.append_assoc,←List.replicate_succ']
theorem aDL (p q:Piece) (l:Int):sfr (one p) (one q) l=sfr p q l:=rfl
theorem aAl {p q:Piece} {l:Int}:(sfr p q 1).map (fun z=>List.replicate l.toNat z)=(sfr p q l).map fun z=>units [z]:=by
 unfold sfr
 split
 ·simp[units,one]
 ·split
  ·simp[units,one]
  ·split
   ·simp[units,one]
   ·rfl
theorem qC {ps qs:List Piece} (hp:∀q∈ps,1≤q.len) (hq:∀q∈qs,1≤q.len) (he:sumL ps=sumL qs):∀(f i j:Nat) (fr:Int) (acc:Option (List Piece)),Lie ps i fr→Lie qs j fr→(ps.length-i)+(qs.length-j)≤f →
  rfM (units ps) (units qs) fr.toNat=acc.map units →
  rfM (units ps) (units qs) (sumL ps).toNat=((strs ps qs f i j fr).foldl (fun acc s=>acc.bind fun L=>(sfr s.p s.q (s.til-s.fr)).map fun z=>L++[z]) acc).map units
 |0,i,j,fr,acc,h1,_,hf,ha=>by
  rw[strs,List.foldl_nil,←ha,h1.end_ (by omega)]
 |f+1,i,j,fr,acc,h1,h2,hf,ha=>by
  by_cases hi:i<ps.length
  ·have hj:=h1.both h2 he hp hi
   have hpi:ps[i]?=some ps[i]:=List.getElem?_eq_getElem hi
   have hqj:qs[j]?=some qs[j]:=List.getElem?_eq_getElem hj
   obtain⟨t,ht⟩ : ∃t,t=min (sumL (ps.take (i+1))) (sumL (qs.take (j+1))):=⟨_,rfl⟩
   rw[j6 hi hj ht,List.foldl_cons];have t1:=h1.hi hi;have t2:=h2.hi hj;have hn:=h1.nn;have hlo1:=h1.lo;have hlo2:=h2.lo;obtain⟨m,hm⟩ : ∃m:Nat,t=fr+(m+1:Nat):=⟨(t-fr-1).toNat,by omega⟩
   have hrun:=zY (units ps) (units qs) (x:=one ps[i]) (y:=one qs[j]) fr.toNat m (fun k hk=>by
    have e:fr.toNat+k=(fr+k).toNat:=by omega
    rw[e];exact⟨lV (fun q hq=>by have:=hp q hq;omega) (by omega) ⟨hi,by omega,by omega⟩ hpi,lV (fun q hq'=>by have:=hq q hq';omega) (by omega) ⟨hj,by omega,by omega⟩ hqj⟩)
   have hnew:rfM (units ps) (units qs) t.toNat=(acc.bind fun L=>(sfr ps[i] qs[j] (t-fr)).map fun z=>L++[z]).map units:=by
    have e1:t.toNat=fr.toNat+(m+1):=by omega
    rw[e1,hrun,ha,aDL];have hu:=aAl (p:=ps[i]) (q:=qs[j]) (l:=t-fr);have hl:(t-fr).toNat=m+1:=by omega
    rw[hl]at hu;cases acc with
    |none=>rfl
    |some L=>
     simp only[Option.map_some,Option.bind_some];cases h5:sfr ps[i] qs[j] 1 with
     |none=>
      rw[h5]at hu;cases h6:sfr ps[i] qs[j] (t-fr) with
      |none=>rfl
      |some z=>rw[h6]at hu;cases hu
     |some z1=>
      rw[h5]at hu;cases h6:sfr ps[i] qs[j] (t-fr) with
      |none=>rw[h6]at hu;cases hu
      |some z=>
       rw[h6]at hu;simp only[Option.map_some,Option.some.injEq]at hu ⊢;rw[cM,hu]
   refine qC hp hq he f _ _ t _ (h1.next hp hi (by omega) (by omega)) (h2.next hq hj (by omega) (by omega)) ?_ hnew
   have a1:=mV ps i t;have a2:=mV qs j t;have a3:nxI ps i t=i+1∨nxI qs j t=j+1:=by
    unfold nxI;rcases Int.le_total (sumL (ps.take (i+1))) (sumL (qs.take (j+1))) with h|h
    ·exact .inl (if_pos (by omega))
    ·exact .inr (if_pos (by omega))
   omega
  ·rw[qE hi,List.foldl_nil,←ha,h1.end_ hi]
theorem zZ {ps qs:List Piece} (hp:∀q∈ps,1≤q.len) (hq:∀q∈qs,1≤q.len) (he:sumL ps=sumL qs):rfM (units ps) (units qs) (sumL ps).toNat=(sfM (strL ps qs)).map units:=
 qC hp hq he _ 0 0 0 (some []) (Lie.start hp) (Lie.start hq) (by omega) rfl
end Go.Proofs.YtjlkeoppppfeiaaGreat
