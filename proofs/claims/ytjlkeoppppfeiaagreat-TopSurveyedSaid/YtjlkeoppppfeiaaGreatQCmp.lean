/- Lemmas. -/
import Derived.Test.YtjlkeoppppfeiaaGreatQOrdM
import Derived.Test.YtjlkeoppppfeiaaGreatQStr1
import Derived.Test.YtjlkeoppppfeiaaGreatQBackM
import Derived.Test.YtjlkeoppppfeiaaGreatQReg
namespace Go.Proofs.YtjlkeoppppfeiaaGreat
open Go.RowKit Go.Shelf Go.Sort Go.Proofs
attribute [local go_sem] Oper.semAt_some
theorem nK (p:Piece) (d x:Tmp) (a:Act) (w:World) (b:Nat) (h1:a.eval (.tmp d) = .pointer (some ⟨b,0,none⟩)) (h2:a.eval (.tmp x) = .agg #[.int .i64 p.len,.int .i64 p.turn,.int .i64 p.rad,.int .i64 p.wid,.int .i64 p.sur]) (h3:BK w b 112 #[.int .i64 0,.int .i64 0,.int .i64 0,.int .i64 0,.int .i64 0]) (o:Oper) (ho:o.op = .store 112 (.tmp d) (.tmp x)) :
  ∃w',(execOp a.eval o).run Tryz.prog w = .ok .skip w'∧BK w' b 112 #[.int .i64 p.len,.int .i64 p.turn,.int .i64 p.rad,.int .i64 p.wid,.int .i64 p.sur]∧Below b w w'∧w'.heap.size=w.heap.size∧∀k,k≠b→w'.heap[k]?=w.heap[k]?:=by
 have c0:=h3.cell 0;have c1:=h3.cell 1;have c2:=h3.cell 2;have c3:=h3.cell 3;have c4:=h3.cell 4;have f:=h3.frozen;have hl:=h3.lt;simp only[List.getElem?_toArray,List.getElem?_cons_zero,List.getElem?_cons_succ]at c0 c1 c2 c3 c4
 refine⟨((((w.setCell ⟨b,0,none⟩ (.int .i64 p.len)).setCell ⟨b,1,none⟩ (.int .i64 p.turn)).setCell ⟨b,2,none⟩ (.int .i64 p.rad)).setCell ⟨b,3,none⟩ (.int .i64 p.wid)).setCell ⟨b,4,none⟩ (.int .i64 p.sur),?_,((((h3.set_ 0 _).set_ 1 _).set_ 2 _).set_ 3 _).set_ 4 _,((((((Below.refl b w).setCell (Nat.le_refl _) _).setCell (Nat.le_refl _) _).setCell (Nat.le_refl _) _).setCell (Nat.le_refl _) _).setCell (Nat.le_refl _) _),by simp,fun k hk=>?_⟩
 ·unfold execOp
  rw[ho];simp only[h1,h2];go_simp
 ·rw[Below.heap_setCell _ _ _ _ hk,Below.heap_setCell _ _ _ _ hk,Below.heap_setCell _ _ _ _ hk,Below.heap_setCell _ _ _ _ hk,Below.heap_setCell _ _ _ _ hk]
theorem aCV {tol:Int} {l:List Dif} {s:Str} (h:iF tol s.p s.q=false):stp tol l s=jD l s.fr s.til:=by unfold stp;rw[if_neg (by rw[h];simp)]
theorem aBB {tol:Int} {l:List Dif} {s:Str} (h:iF tol s.p s.q=true):stp tol l s=l:=by unfold stp;rw[if_pos h]
theorem aCW (tol:Int) (l:List Dif) (s:Str):(stp tol l s).length≤l.length+1:=by
 unfold stp
 split
 ·omega
 ·exact aBi _ _ _
theorem uJ (tol:Int):∀(l:List Str) (o:List Dif),(l.foldl (stp tol) o).length≤o.length+l.length
 | [],o=>by simp
 |s::l,o=>by
  have:=uJ tol l (stp tol o s);have h2:=aCW tol o s;simp only[List.foldl_cons,List.length_cons];omega
theorem aAF (tol:Int) (pre:List BS) (e:BS):((pre++[e]).map (·.1)).foldl (stp tol) []=stp tol ((pre.map (·.1)).foldl (stp tol) []) e.1:=by simp
theorem yT {α β:Type} (B g base:Nat) (t e:TypeId) (cf:α→List Value) (sz:Nat) (f:β→List α):OwnFrom B (fun s W=>∃A n c,BK W g t #[.slice A n c]∧OW cf sz e base W A n c (f s)):=by
 intro s W W' row hs hg hr;obtain⟨A,n,c,h1,h2⟩:=hs;refine⟨A,n,c,kP B g t (fun _:Unit=>_) () W W' row h1 hg hr,h2.keep (fun b hb=>hg.block b.block (h2.lt hb).2 (fun e=>?_))⟩
 obtain⟨_,o,ho,hc⟩:=hr _ e.symm;subst hb;rcases h2.1.2 with⟨h3,_⟩|⟨g',cap,cur,h3,_,hg',_⟩
 ·cases h3
 ·injection h3 with h3
  injection h3 with h3
  subst h3;rw[hg']at ho;cases ho
  cases hc
set_option maxRecDepth 100000 in
set_option maxHeartbeats 8000000 in
theorem aAG (tol:Int) (pa:Option Addr) (pn pc:Nat) (ca:Option Addr) (cn cc:Nat) (ja:Option Addr) (jn jc:Nat) (R:Road) (pa2:Option Addr) (pn2 pc2:Nat) (ca2:Option Addr) (cn2 cc2:Nat) (ja2:Option Addr) (jn2 jc2:Nat) (R2:Road) (w:World)
  (h:RD w w.heap.size pa pn ca cn ja jn R) (h2:RD w w.heap.size pa2 pn2 ca2 cn2 ja2 jn2 R2) (hv:OK R) (hv2:OK R2) (hs:sumL R.ps=sumL R2.ps) (ht:inR tol 0 2000=true) :
  CallsIn Fence.wide 6 Tryz.prog 11 #[.agg #[.slice pa pn pc,.slice ca cn cc,.slice ja jn jc],.agg #[.slice pa2 pn2 pc2,.slice ca2 cn2 cc2,.slice ja2 jn2 jc2],.int .i64 tol] w fun e w'=>
   ∃A n c,e = .returned (.tuple #[.slice A n c,.int .i64 0])∧OW dC 2 142 w.heap.size w' A n c (fJ tol (units R.ps) (units R2.ps) (sumL R.ps).toNat)∧Below w.heap.size w w':=by
 have hR:=Lib.hid h;have hR2:=Lib.hid h2;have hv':=Lib.hid hv;have hv2':=Lib.hid hv2;have hs':=Lib.hid hs;have hE:=Lib.hid ht;simp only[inR,Bool.and_eq_true,decide_eq_true_eq]at ht;obtain⟨ht1,ht2⟩:=ht;have hpn:pn≤2000:=by rw[h.p.1];exact hv.p2
 have hpn2:pn2≤2000:=by rw[h2.p.1];exact hv2.p2
 have hmo:Tryz.prog.follows .mixedOrders=true:=by kernel_rfl
 clear h h2 hv hv2 hs;obtain⟨w0,hw0⟩ : ∃w0,w0=((w.alloc (.cells #[.slice pa pn pc,.slice ca cn cc,.slice ja jn jc] 26)).alloc (.cells #[.slice pa2 pn2 pc2,.slice ca2 cn2 cc2,.slice ja2 jn2 jc2] 26)).alloc (.cells #[.int .i64 tol] 3):=⟨_,rfl⟩
 have hW0:Below w.heap.size w w0:=by rw[hw0];exact(((Below.refl w.heap.size w).alloc (Nat.le_refl _) _).alloc (by simp) _).alloc (by simp<;>omega) _
 have b0:BK w0 w.heap.size 26 #[.slice pa pn pc,.slice ca cn cc,.slice ja jn jc]:=by rw[hw0];exact((BK.new w _ _).alloc _).alloc _
 have b1:BK w0 (w.heap.size+1) 26 #[.slice pa2 pn2 pc2,.slice ca2 cn2 cc2,.slice ja2 jn2 jc2]:=by rw[hw0];have:=(BK.new (w.alloc (.cells #[.slice pa pn pc,.slice ca cn cc,.slice ja jn jc] 26)) 26 #[.slice pa2 pn2 pc2,.slice ca2 cn2 cc2,.slice ja2 jn2 jc2]);rw[World.size_alloc]at this;exact this.alloc _
 have b2:BK w0 (w.heap.size+2) 3 #[.int .i64 tol]:=by rw[hw0];have:=(BK.new ((w.alloc (.cells #[.slice pa pn pc,.slice ca cn cc,.slice ja jn jc] 26)).alloc (.cells #[.slice pa2 pn2 pc2,.slice ca2 cn2 cc2,.slice ja2 jn2 jc2] 26)) 3 #[.int .i64 tol]);rw[World.size_alloc,World.size_alloc]at this;exact this
 have hz0:w.heap.size+2<w0.heap.size:=b2.lt;refine callsIn_of_wp_marks Tryz.func11 rfl trivial ?_ rfl
 simp only[Tryz.ntmps11,List.size_toArray,List.length_cons,List.length_nil,Nat.reduceAdd,Nat.reduceSub,Array.replicate_succ,Array.replicate_zero,List.push_toArray,List.append_toArray,List.nil_append,List.cons_append];refine wpIn_wide.2 ?_
 go_wp2_with fail
 rw[←hw0];clear hw0;have r0:=b0.cell 0;have r1:=b0.cell 1;have r2:=b0.cell 2;have r3:=b1.cell 0;have r4:=b1.cell 1;have r5:=b1.cell 2;simp only[List.getElem?_toArray,List.getElem?_cons_zero,List.getElem?_cons_succ]at r0 r1 r2 r3 r4 r5
 go_wp2_with fail
 clear r0 r1 r2 r3 r4 r5;refine(oY pa pn pc ca cn cc ja jn jc R pa2 pn2 pc2 ca2 cn2 cc2 ja2 jn2 jc2 R2 _ (hR.out.grow hW0 hW0.size) (hR2.out.grow hW0 hW0.size) hv'.out hv2'.out).mono ?_
 rintro e w2 ⟨⟨hyes,-⟩,hb1⟩;obtain⟨g,ba,bq,g2,ba2,bq2,rfl,hM,hM2⟩:=hyes hs'.out;clear hyes;have hB2:=onto hW0 hb1 hW0.size;have B2:=b2.below hb1 b2.lt;have hz2:=Nat.lt_of_lt_of_le hz0 hb1.size;have hM':=Lib.hid hM;have hM2':=Lib.hid hM2;clear hM hM2;have r6:=B2.cell 0;simp only[List.getElem?_toArray,List.getElem?_cons_zero]at r6
 go_wp2_with fail
 refine(aW _ _ _ _).mono ?_
 rintro e w3 ⟨rfl,rfl⟩;rw[hE.out];go_wp2_with fail
 refine(kE g g2 _).mono ?_
 rintro e w8 ⟨rfl,rfl⟩;go_wp2_with fail
 obtain⟨W0,hW0'⟩ : ∃W0,W0=((w2.alloc (.cells #[.slice none 0 0] 39)).alloc (.cells #[.pointer (some ⟨g,0,none⟩)] 119)).alloc (.cells #[.pointer (some ⟨g2,0,none⟩)] 119):=⟨_,rfl⟩
 have e0:BK W0 w2.heap.size 39 #[.slice none 0 0]:=by rw[hW0'];exact((BK.new w2 _ _).alloc _).alloc _
 have e1:BK W0 (w2.heap.size+1) 119 #[.pointer (some ⟨g,0,none⟩)]:=by rw[hW0'];have:=(BK.new (w2.alloc (.cells #[.slice none 0 0] 39)) 119 #[.pointer (some ⟨g,0,none⟩)]);rw[World.size_alloc]at this;exact this.alloc _
 have e2:BK W0 (w2.heap.size+2) 119 #[.pointer (some ⟨g2,0,none⟩)]:=by rw[hW0'];have:=(BK.new ((w2.alloc (.cells #[.slice none 0 0] 39)).alloc (.cells #[.pointer (some ⟨g,0,none⟩)] 119)) 119 #[.pointer (some ⟨g2,0,none⟩)]);rw[World.size_alloc,World.size_alloc]at this;exact this
 have hsz:W0.heap.size=w2.heap.size+3:=by rw[hW0'];simp
 have hB0:Below w2.heap.size w2 W0:=by rw[hW0'];exact(((Below.refl _ w2).alloc (Nat.le_refl _) _).alloc (by simp) _).alloc (by simp<;>omega) _
 rw[←hW0'];have HS:=Lib.hid hsz;clear hW0' hsz;refine(wpIn_wide (n:=5)).1 ?_
 refine kN (fun a0 ha0=>?_)
 refine wpIn_rangeFunc_ownH (α:=BS) rfl (by omega) (gf:=120) (lb:=#[.pointer (some ⟨w2.heap.size+1,0,none⟩),.pointer (some ⟨w2.heap.size+2,0,none⟩)]) (by rw[ha0];rfl) trivial (enters_of Tryz.func120 (by kernel_rfl) rfl)
  (iQ 4 (by omega) (w2.heap.size+1) (w2.heap.size+2) w2.heap.size g g2 pa pn pc ca cn cc ja jn jc ba bq R pa2 pn2 pc2 ca2 cn2 cc2 ja2 jn2 jc2 ba2 bq2 R2 hpn hpn2 hv'.out.pk hv2'.out.pk hs'.out W0 (e1.cell 0) (e2.cell 0) (by have:=HS.out;omega) (by have:=HS.out;omega) hB0.size (hM'.out.grow hB0 (Nat.le_refl _)) (hM2'.out.grow hB0 (Nat.le_refl _)))
  KB2.t (KB2.b hB0.size (by have:=HS.out;omega) (by have:=HS.out;omega)) (Below.refl _ _) (fun _=>rfl)
  (fun pre W=>(∃A n c,BK W w2.heap.size 39 #[.slice A n c]∧OW dC 2 142 (w2.heap.size+3) W A n c ((pre.map (·.1)).foldl (stp tol) []))∧Since w2 W0.heap.size W)
  (fun _ _ _=>False)
  (OwnFrom.and (yT _ _ _ _ _ dC 2 (fun pre:List BS=>(pre.map (·.1)).foldl (stp tol) [])) (eP hB0.size))
  (fun c s A B row hs hg hr=>hs.elim)
  ⟨⟨none,0,0,e0,OW.nil_⟩,hB0,Nat.le_refl _⟩
  (fun e a' W=>∃Bx,w2.heap.size+2<Bx∧BK W Bx 128 #[.int .i64 e.1.fr,.int .i64 e.1.til,.int .i64 e.1.p.len,.int .i64 e.1.p.turn,.int .i64 e.1.p.rad,.int .i64 e.1.p.wid,.int .i64 e.1.p.sur,.int .i64 e.1.q.len,.int .i64 e.1.q.turn,.int .i64 e.1.q.rad,.int .i64 e.1.q.wid,.int .i64 e.1.q.sur]∧a'={ tmps:=(a0.tmps.setIfInBounds 33 (.agg #[.int .i64 e.1.fr,.int .i64 e.1.til,.int .i64 e.1.p.len,.int .i64 e.1.p.turn,.int .i64 e.1.p.rad,.int .i64 e.1.p.wid,.int .i64 e.1.p.sur,.int .i64 e.1.q.len,.int .i64 e.1.q.turn,.int .i64 e.1.q.rad,.int .i64 e.1.q.wid,.int .i64 e.1.q.sur])).setIfInBounds 12 (.pointer (some ⟨Bx,0,none⟩)),defers:=[] })
  (fun e a' s A B row hs hg hr=>by
   obtain⟨Bx,h1,h2,h3⟩:=hs;exact⟨Bx,h1,kP W0.heap.size _ _ (fun _:Unit=>_) () A B row h2 hg hr,h3⟩) ?assign ?body ?done ?stop
 case assign=>
  intro l pre e W K hI hK;rw[ha0]at hK ⊢;simp only[bsV,List.setIfInBounds_toArray,List.set_cons_succ,List.set_cons_zero]at hK ⊢
  gi_wp2
  obtain⟨⟨A,n,c,i1,i2⟩,hB⟩:=hI;have hz:=HS.out;have hz2:=hB.2;have hbA:=(Below.refl W.heap.size W).alloc (Nat.le_refl _) (.cells #[.int .i64 e.1.fr,.int .i64 e.1.til,.int .i64 e.1.p.len,.int .i64 e.1.p.turn,.int .i64 e.1.p.rad,.int .i64 e.1.p.wid,.int .i64 e.1.p.sur,.int .i64 e.1.q.len,.int .i64 e.1.q.turn,.int .i64 e.1.q.rad,.int .i64 e.1.q.wid,.int .i64 e.1.q.sur] 128);exact hK _ _ ((KeepsOthers.alloc _ _).from _) (KB2.of_below hbA (by omega) (by omega) (by omega)) ⟨⟨A,n,c,i1.alloc _,i2.alloc _⟩,hB.onto hbA⟩ ⟨W.heap.size,by omega,BK.new W _ _,rfl⟩
 case body=>
  rintro l pre e a' W hlW ⟨r',hr⟩ ⟨⟨A,n,c,i1,i2⟩,hB⟩ ⟨Bx,hBx,bX,rfl⟩ hlt;obtain⟨L,hL⟩ : ∃L,L=(pre.map (·.1)).foldl (stp tol) []:=⟨_,rfl⟩
  rw[←hL]at i2;have HNEW:Hid (((pre++[e]).map (·.1)).foldl (stp tol) []=stp tol L e.1):=by show _=_;rw[aAF,←hL]
  obtain⟨⟨fr,tl,p,q⟩,hpk,hqk,hf0,hft,hb5⟩:=e
  dsimp only at bX hpk hqk hf0 hft hb5 HNEW ⊢
  rw[ha0];simp only[List.setIfInBounds_toArray,List.set_cons_succ,List.set_cons_zero];have hz:w2.heap.size+3≤W0.heap.size:=by have:=HS.out;omega
  have hzW:=hB.2;have bT:=B2.below hB.1 hz2;have hnl:n≤4000:=by
   have h1:=i2.len;have h2:=uJ tol (pre.map (·.1)) [];rw[←hL,List.length_map]at h2;simp at h2;omega
  clear hL;have c0:=i1.cell 0;have f0:=i1.frozen 0;have x0:=bX.cell 0;have x1:=bX.cell 1;have x2:=bX.cell 2;have x3:=bX.cell 3;have x4:=bX.cell 4;have x5:=bX.cell 5;have x6:=bX.cell 6;have x7:=bX.cell 7;have x8:=bX.cell 8;have x9:=bX.cell 9;have x10:=bX.cell 10;have x11:=bX.cell 11;simp only[List.getElem?_toArray,List.getElem?_cons_zero,List.getElem?_cons_succ]at c0 x0 x1 x2 x3 x4 x5 x6 x7 x8 x9 x10 x11
  have k0:=fun d os=>cell_regrown x0 d os
  have k1:=fun d os=>cell_regrown x1 d os
  have k2:=fun d os=>cell_regrown x2 d os
  have k3:=fun d os=>cell_regrown x3 d os
  have k4:=fun d os=>cell_regrown x4 d os
  have k5:=fun d os=>cell_regrown x5 d os
  have k6:=fun d os=>cell_regrown x6 d os
  have k7:=fun d os=>cell_regrown x7 d os
  have k8:=fun d os=>cell_regrown x8 d os
  have k9:=fun d os=>cell_regrown x9 d os
  have k10:=fun d os=>cell_regrown x10 d os
  have k11:=fun d os=>cell_regrown x11 d os
  gi_wp2
  refine nY 9 6 7 8 [] 112 112 #[.int .i64 0,.int .i64 0,.int .i64 0,.int .i64 0,.int .i64 0] #[.int .i64 0,.int .i64 0,.int .i64 0,.int .i64 0,.int .i64 0] #[.int .i64 p.len,.int .i64 p.turn,.int .i64 p.rad,.int .i64 p.wid,.int .i64 p.sur] 13 14 36 (.agg #[.int .i64 p.len,.int .i64 p.turn,.int .i64 p.rad,.int .i64 p.wid,.int .i64 p.sur]) _ _ _ hmo (by decide) rfl rfl rfl (fun a w=>rfl) rfl rfl rfl (fun a w=>rfl) rfl rfl rfl (by kernel_rfl) (by kernel_rfl) (fun a w b h1 h2 h3=>nK p 13 36 a w b h1 h2 h3 _ rfl) (by kernel_rfl) ?_
  simp only[List.take_succ_cons,List.take_zero,List.drop_succ_cons,List.drop_zero]
  repeat (refine nB (by decide) (by decide) (fun K hK=>?_);go_simp;refine hK _ ?_;clear hK K)
  refine gD (by decide) (fun h=>by cases h) ?_
  refine gD (by decide) (fun h=>by cases h) ?_
  refine gD (by decide) (fun _=>⟨rfl,by simp⟩) ?_
  refine mD ?_
  intro b1' b2' Wf hbf _ hg1 hg2 hne K1 K2;clear k0 k1 k2 k3 k4 k5 k6 k7 k8 k9 k10 k11;have hne':¬b1'=b2':=hne;have hne2:¬b2'=b1':=fun e=>hne e.symm
  have f2:=K2.frozen;have l2:=K2.lt;have t0:=K2.cell 0;have t1:=K2.cell 1;have t2:=K2.cell 2;have t3:=K2.cell 3;have t4:=K2.cell 4;simp only[List.getElem?_toArray,List.getElem?_cons_zero,List.getElem?_cons_succ]at t0 t1 t2 t3 t4
  gi_upto_region 8 with fail
  obtain⟨Wg,hWg⟩ : ∃Wg,Wg=(((((Wf.setCell ⟨b2',0,none⟩ (.int .i64 q.len)).setCell ⟨b2',1,none⟩ (.int .i64 q.turn)).setCell ⟨b2',2,none⟩ (.int .i64 q.rad)).setCell ⟨b2',3,none⟩ (.int .i64 q.wid)).setCell ⟨b2',4,none⟩ (.int .i64 q.sur)):=⟨_,rfl⟩
  have G1:BK Wg b1' 112 #[.int .i64 p.len,.int .i64 p.turn,.int .i64 p.rad,.int .i64 p.wid,.int .i64 p.sur]:=by rw[hWg];exact(((((K1.far (p:=⟨b2',0,none⟩) hne _).far (p:=⟨b2',1,none⟩) hne _).far (p:=⟨b2',2,none⟩) hne _).far (p:=⟨b2',3,none⟩) hne _).far (p:=⟨b2',4,none⟩) hne _)
  have G2:BK Wg b2' 112 #[.int .i64 q.len,.int .i64 q.turn,.int .i64 q.rad,.int .i64 q.wid,.int .i64 q.sur]:=by rw[hWg];exact(((((K2.set_ 0 _).set_ 1 _).set_ 2 _).set_ 3 _).set_ 4 _)
  have hbg:Below W.heap.size W Wg:=by rw[hWg];exact(((((hbf.setCell hg2 _).setCell hg2 _).setCell hg2 _).setCell hg2 _).setCell hg2 _)
  rw[←hWg];clear hWg K1 K2 f2 l2 hbf hg1 hg2 hne hne2 t0 t1 t2 t3 t4;have s0:=G1.cell 0;have s1:=G1.cell 1;have s2:=G1.cell 2;have s3:=G1.cell 3;have s4:=G1.cell 4;have t0:=G2.cell 0;have t1:=G2.cell 1;have t2:=G2.cell 2;have t3:=G2.cell 3;have t4:=G2.cell 4;have tt:=(bT.below hbg bT.lt).cell 0;simp only[List.getElem?_toArray,List.getElem?_cons_zero,List.getElem?_cons_succ]at tt s0 t0 s1 t1 s2 t2 s3 t3 s4 t4
  have hr1:=yR hpk;have hr2:=yR hqk;obtain⟨D,hD⟩ : ∃D,D=p.rad-q.rad:=⟨_,rfl⟩
  have hwd:IntKind.i64.wrap (p.rad-q.rad)=D:=by rw[hD];exact IntWalk.i64_in _ (by omega)
  have hwt:IntKind.i64.wrap (-tol) = -tol:=IntWalk.i64_in _ (by omega)
  have hnear:Hid (iF tol p q=(decide (p.turn=q.turn)&&(inR D (-tol) tol&&(decide (p.wid=q.wid)&&decide (p.sur=q.sur))))):=by
   show iF tol p q=_
   rw[iF,hD,inR];have e:decide (-(p.rad-q.rad)≤tol)=decide (-tol≤p.rad-q.rad):=by rw[decide_eq_decide];omega
   rw[e];cases decide (p.rad-q.rad≤tol)<;>cases decide (-tol≤p.rad-q.rad)<;>simp
  clear hD
  gi_cut [69] from 101 (fun s69 wx=>s69 = .bool (iF tol p q)∧wx=Wg)
  case first=>
   by_cases c1:p.turn=q.turn
   case neg=>
    have e1:(p.turn == q.turn)=false:=by simpa using c1
    have hnf:Hid (iF tol p q=false):=by show _=_;rw[hnear.out];simp[c1]
    clear c1 hnear
    gi_wp2_with (refine⟨trivial,?_⟩)
    gi_meet
    case rel=>exact⟨by rw[hnf.out],rfl⟩
   have e1:(p.turn == q.turn)=true:=by simpa using c1
   cases c2:inR D (-tol) tol
   case false=>
    have hnf:Hid (iF tol p q=false):=by show _=_;rw[hnear.out,c2];simp
    have HC:=Lib.hid c2;clear c1 hnear c2
    gi_wp2_with (refine⟨trivial,?_⟩;refine CallsIn.inRound _ (callsIn_wide.2 ((aW _ _ _ _).mono ?_));rintro e w' ⟨rfl,rfl⟩;rw[HC.out])
    gi_meet
    case rel=>exact⟨by rw[hnf.out],rfl⟩
   have HC:=Lib.hid c2;by_cases c3:p.wid=q.wid
   case neg=>
    have e3:(p.wid == q.wid)=false:=by simpa using c3
    have hnf:Hid (iF tol p q=false):=by show _=_;rw[hnear.out];simp[c3]
    clear c1 hnear c2 c3
    gi_wp2_with (refine⟨trivial,?_⟩;refine CallsIn.inRound _ (callsIn_wide.2 ((aW _ _ _ _).mono ?_));rintro e w' ⟨rfl,rfl⟩;rw[HC.out])
    gi_meet
    case rel=>exact⟨by rw[hnf.out],rfl⟩
   have e3:(p.wid == q.wid)=true:=by simpa using c3
   have hnf:Hid (iF tol p q=(p.sur == q.sur)):=by show _=_;rw[hnear.out,c2];by_cases c4:p.sur=q.sur<;>simp[c1,c3,c4]
   clear c1 hnear c2 c3
   gi_wp2_with (refine⟨trivial,?_⟩;refine CallsIn.inRound _ (callsIn_wide.2 ((aW _ _ _ _).mono ?_));rintro e w' ⟨rfl,rfl⟩;rw[HC.out])
   gi_meet
   case rel=>exact⟨by rw[hnf.out],rfl⟩
  obtain⟨rfl,rfl⟩:=hcut;have hOg:OW dC 2 142 (w2.heap.size+3) wc A n c L:=i2.call hbg;have j1:=i1.below hbg i1.lt;have jX:=bX.below hbg bX.lt;have hzg:=hbg.size;clear hnear hwd hwt tt G1 G2 hne' c0 f0 s0 t0 s1 t1 s2 t2 s3 t3 s4 t4 x0 x1 x2 x3 x4 x5 x6 x7 x8 x9 x10 x11;cases hnr:iF tol p q
  case true=>
   have hnew:=Lib.hid (HNEW.out.trans (aBB (s:=⟨fr,tl,p,q⟩) hnr));clear HNEW hnr
   gi_wp2
   exact⟨dD hbg,KB2.of_below hbg (by omega) (by omega) (by omega),⟨A,n,c,j1,by rw[hnew.out];exact hOg⟩,hB.onto hbg⟩
  have hfar:=Lib.hid (HNEW.out.trans (aCV (s:=⟨fr,tl,p,q⟩) hnr));clear HNEW hnr;have c0:=j1.cell 0;have x0:=jX.cell 0;have x1:=jX.cell 1;simp only[List.getElem?_toArray,List.getElem?_cons_zero,List.getElem?_cons_succ]at c0 x0 x1
  have k0:=fun d os=>cell_regrown c0 d os
  have k1:=fun d os=>cell_regrown x0 d os
  have hwn:IntKind.i64.wrap ((n:Int)-1)=(n:Int)-1:=IntWalk.i64_in _ (by omega)
  rcases cJ L with hL|⟨ds,d0,hL⟩
  case inl=>
   have hn0:n=0:=by have:=hOg.len;rw[hL]at this;simpa using this
   subst hn0;have hnew:Hid (jD L fr tl=L++[⟨fr,tl⟩]):=by rw[hL];exact rfl
   clear hwn
   gi_wp2
   refine jG 12 hmo (by kernel_rfl) ?_
   simp only[List.take_succ_cons,List.take_zero,List.drop_succ_cons,List.drop_zero]
   iterate 2 (quiet_step (fail))
   refine wH (.tmp 73) 74 2 9 true rfl rfl rfl rfl (by simp) rfl (by kernel_rfl) ?_
   simp only[List.take_succ_cons,List.take_zero,List.drop_succ_cons,List.drop_zero,aAh,List.foldl_cons,List.foldl_nil,Act.put,List.setIfInBounds_toArray,List.set_cons_succ,List.set_cons_zero,Bool.not_true];intro a1 ha1;refine wpQuiet_nil ?_
   intro Wh hbh;rw[ha1];clear ha1;have hOh:=hOg.call hbh;have jh:=j1.below hbh j1.lt;have jXh:=jX.below hbh jX.lt;have hbg2:=hbg.trans (hbh.mono hbg.size);have hzh:=hbg2.size;clear hOg j1 jX hbg hzg c0 x0 x1 k0 k1;have c0:=jh.cell 0;have x0:=jXh.cell 0;have x1:=jXh.cell 1;simp only[List.getElem?_toArray,List.getElem?_cons_zero,List.getElem?_cons_succ]at c0 x0 x1
   have hN1:=BK.new Wh 142 #[.int .i64 fr,.int .i64 tl];have i1':=jh.alloc (.cells #[.int .i64 fr,.int .i64 tl] 142);have HFZ:Hid (∀w3 g c'',App1 dC 2 142 (w2.heap.size+3) (Wh.alloc (.cells #[.int .i64 fr,.int .i64 tl] 142)) A 0 c L ⟨fr,tl⟩ g c'' w3→w3.heap[w2.heap.size]?=(Wh.alloc (.cells #[.int .i64 fr,.int .i64 tl] 142)).heap[w2.heap.size]?):=by
    intro w3 g c'' hap;exact hap.far _ (by simp;omega) (fun b hb=>by have:=(hOh.lt hb).1;omega)
   gi_wp2_with (gi_at_builtin;refine fA rfl _ _ 39 rfl (w2.heap.size+3) 142 _ 2 16 Tryz.underlying39 aDP rfl (by decide) dC A 0 c L rfl (hOh.alloc _) ⟨fr,tl⟩ #[.int .i64 fr,.int .i64 tl] rfl rfl 142 Wh.heap.size rfl hN1 (by simp[dC,Value.oneCell']) (by omega) (by omega) (by simp;omega) ?_;intro g' c' w1 hap;have hw1:=HFZ.out _ _ _ hap;have hm1:=i1'.same hw1;have m0:=hm1.cell 0;have mf:=hm1.frozen 0;have HAP:=Lib.hid hap;clear hap)
   have hap:=HAP.out;have hm2:=hm1.set_ 0 (.slice (some ⟨g',0,none⟩) (0+1) c');have hgl2:w2.heap.size+3≤g':=(hap.own.lt rfl).1;have hbA:=(Below.refl Wh.heap.size Wh).alloc (Nat.le_refl _) (.cells #[.int .i64 fr,.int .i64 tl] 142);have hb1':Below (w2.heap.size+3) Wh w1:=(hbA.mono (by omega)).trans hap.bel
   have hb2':Below (w2.heap.size+3) W w1:=(hbg2.mono (by omega)).trans hb1'
   refine⟨((dD hbg2).trans (((KeepsOthers.alloc _ _).from _).trans (hap.keeps (hOh.alloc _) _))).trans ((KeepsOthers.setCell _ _ _).from _),(KB2.of_below hb2' (by omega) (by omega) (by omega)).setCell (by simp<;>omega) (by simp<;>omega) (by simp<;>omega) _,⟨_,_,_,hm2,?_⟩,⟨(hB.1.trans (hb2'.mono (by omega))).setCell (by simp<;>omega) _,by have h1:=hap.size;simp at h1 ⊢;omega⟩⟩
   rw[hfar.out,hnew.out];exact hap.own.setCell (fun b hb=>by cases hb;show g'≠w2.heap.size;omega) _
  case inr=>
   have hnD:n=ds.length+1:=by have:=hOg.len;rw[hL]at this;simpa using this
   obtain⟨a1,hA0⟩ : ∃a1,A=some a1:=by
    cases A with
    |none=>have:=hOg.none_.1;omega
    |some a1=>exact⟨a1,rfl⟩
   obtain⟨bo,rfl,hbo,hbbo,hfz,hrow⟩:=hOg.at_ aBh a1 hA0;have hat:L[n-1]?=some d0:=by rw[hL,hnD];simp
   have dt:wc.cell? ⟨bo,(n-1)*2+1,none⟩=some (.int .i64 d0.til):=by have:=hrow _ d0 hat 1 _ rfl;rw[show 0+(n-1)*2+1=(n-1)*2+1 by omega]at this;exact this
   have df:=hfz ((n-1)*2+1);have hi3:((n:Int)-1).toNat=n-1:=by omega
   have hi4:(0:Int)≤(n:Int)-1:=by omega
   have hi5:(n:Int)-1<(n:Int):=by omega
   have hi6:(1:Int)≤(n:Int):=by omega
   have hi7:(0:Int)<(n:Int):=by omega
   have hn7:0<n:=by omega
   have HADD:=Lib.hid (fW ds d0 fr tl);have HL:=Lib.hid hL;have HND:=Lib.hid hnD;have HAT:=Lib.hid hat;subst hA0;clear hfz hrow hL hnD hat;have k2:=fun d os=>cell_regrown dt d os
   gi_wp2
   refine jG 12 hmo (by kernel_rfl) ?_
   simp only[List.take_succ_cons,List.take_zero,List.drop_succ_cons,List.drop_zero]
   repeat (quiet_step (fail))
   refine wpQuiet_nil ?_
   intro Wh hbh;clear k2;have dt':=(bc hbh hbo).trans dt;have df':=(bf hbh hbo).trans df;clear dt df;by_cases het:d0.til=fr
   case pos=>
    have hnew:Hid (jD L fr tl=L.set (n-1) ⟨d0.fr,tl⟩):=by
     show _=_
     rw[HL.out,HADD.out,if_pos het,HND.out];simp
    have et:(d0.til == fr)=true:=by simpa using het
    clear het;have hOh:=hOg.call hbh;have jh:=j1.below hbh j1.lt;have jXh:=jX.below hbh jX.lt;have hbg2:=hbg.trans (hbh.mono hbg.size);have hzh:=hbg2.size;clear hOg j1 jX hbg hzg c0 x0 x1 k0 k1;have c0:=jh.cell 0;have x0:=jXh.cell 0;have x1:=jXh.cell 1;simp only[List.getElem?_toArray,List.getElem?_cons_zero,List.getElem?_cons_succ]at c0 x0 x1
    have HOh:=Lib.hid hOh;clear hOh
    gi_wp2
    have h1:=HOh.out.setF aBh (n-1) 1 (x:=d0) (y:=⟨d0.fr,tl⟩) (v:=.int .i64 tl) HAT.out (by omega) rfl
    have hbo':w2.heap.size+3≤bo:=hbbo;refine⟨(dD hbg2).trans ((KeepsOthers.setCell _ _ _).from _),(KB2.of_below hbg2 (by omega) (by omega) (by omega)).setCell (by simp<;>omega) (by simp<;>omega) (by simp<;>omega) _,⟨_,_,_,jh.far (by simp<;>omega) _,?_⟩,(hB.onto hbg2).setCell (by simp<;>omega) _⟩
    rw[hfar.out,hnew.out];exact h1
   have hnew:Hid (jD L fr tl=L++[⟨fr,tl⟩]):=by
    show _=_
    rw[HL.out,HADD.out,if_neg het]
   have et:(d0.til == fr)=false:=by simpa using het
   clear het;have hOh:=hOg.call hbh;have jh:=j1.below hbh j1.lt;have jXh:=jX.below hbh jX.lt;have hbg2:=hbg.trans (hbh.mono hbg.size);have hzh:=hbg2.size;clear hOg j1 jX hbg hzg c0 x0 x1 k0 k1;have c0:=jh.cell 0;have x0:=jXh.cell 0;have x1:=jXh.cell 1;simp only[List.getElem?_toArray,List.getElem?_cons_zero,List.getElem?_cons_succ]at c0 x0 x1
   have hN1:=BK.new Wh 142 #[.int .i64 fr,.int .i64 tl];have i1':=jh.alloc (.cells #[.int .i64 fr,.int .i64 tl] 142);have HFZ:Hid (∀w3 g c'',App1 dC 2 142 (w2.heap.size+3) (Wh.alloc (.cells #[.int .i64 fr,.int .i64 tl] 142)) (some ⟨bo,0,none⟩) n c L ⟨fr,tl⟩ g c'' w3→w3.heap[w2.heap.size]?=(Wh.alloc (.cells #[.int .i64 fr,.int .i64 tl] 142)).heap[w2.heap.size]?):=by
    intro w3 g c'' hap;exact hap.far _ (by simp;omega) (fun b hb=>by have:=(hOh.lt hb).1;omega)
   gi_wp2_with (gi_at_builtin;refine fA rfl _ _ 39 rfl (w2.heap.size+3) 142 _ 2 16 Tryz.underlying39 aDP rfl (by decide) dC (some ⟨bo,0,none⟩) n c L rfl (hOh.alloc _) ⟨fr,tl⟩ #[.int .i64 fr,.int .i64 tl] rfl rfl 142 Wh.heap.size rfl hN1 (by simp[dC,Value.oneCell']) (by omega) (by omega) (by simp;omega) ?_;intro g' c' w1 hap;have hw1:=HFZ.out _ _ _ hap;have hm1:=i1'.same hw1;have m0:=hm1.cell 0;have mf:=hm1.frozen 0;have HAP:=Lib.hid hap;clear hap)
   have hap:=HAP.out;have hm2:=hm1.set_ 0 (.slice (some ⟨g',0,none⟩) (n+1) c');have hgl2:w2.heap.size+3≤g':=(hap.own.lt rfl).1;have hbA:=(Below.refl Wh.heap.size Wh).alloc (Nat.le_refl _) (.cells #[.int .i64 fr,.int .i64 tl] 142);have hb1':Below (w2.heap.size+3) Wh w1:=(hbA.mono (by omega)).trans hap.bel
   have hb2':Below (w2.heap.size+3) W w1:=(hbg2.mono (by omega)).trans hb1'
   refine⟨((dD hbg2).trans (((KeepsOthers.alloc _ _).from _).trans (hap.keeps (hOh.alloc _) _))).trans ((KeepsOthers.setCell _ _ _).from _),(KB2.of_below hb2' (by omega) (by omega) (by omega)).setCell (by simp<;>omega) (by simp<;>omega) (by simp<;>omega) _,⟨_,_,_,hm2,?_⟩,⟨(hB.1.trans (hb2'.mono (by omega))).setCell (by simp<;>omega) _,by have h1:=hap.size;simp at h1 ⊢;omega⟩⟩
   rw[hfar.out,hnew.out];exact hap.own.setCell (fun b hb=>by cases hb;show g'≠w2.heap.size;omega) _
 case stop=>exact fun D c pre W hD hk hs hK=>hs.elim
 case done=>
  rintro D ys W hD hys ⟨⟨A,n,c,i1,i2⟩,hB⟩ hK;rw[hys,fold_strL tol (fun q hq=>(aP (hv'.out.pk q hq)).1) (fun q hq=>(aP (hv2'.out.pk q hq)).1) hs'.out]at i2
  clear hys;rw[ha0];have c0:=i1.cell 0;simp only[List.getElem?_toArray,List.getElem?_cons_zero]at c0
  have HO:=Lib.hid i2;have HK:=Lib.hid hK;clear i2 hK;go_wp2_with fail
  refine⟨by simp,.inl ⟨_,_,rfl,run_takeDeferred HK.out,?_⟩⟩
  have hOf:=HO.out;have hne:∀g,A=some g→g.block≠D:=fun g hg e=>by
   subst hg;rcases hOf.1.2 with⟨h3,_⟩|⟨g',cap,cur,h3,_,hg',_⟩
   ·cases h3
   ·injection h3 with h3
    injection h3 with h3
    subst h3;have:=HK.out;rw[show D=g' from e.symm,hg']at this
    cases this
  exact⟨_,results_tmp2 (t:=6) (u:=7) rfl _ _ _,_,_,_,rfl,(hOf.keep (fun g hg=>World.putObj_heap_other (hne g hg))).drop0 (by have:=hB2.size;omega),(hB2.trans (hB.1.mono hB2.size)).trans (belowK_b (w:=w) (Nat.le_refl _) W D _ _ (by have:=hB2.size;have:=HS.out;omega) HK.out rfl rfl)⟩
theorem xA (tol:Int) (pa:Option Addr) (pn pc:Nat) (ca:Option Addr) (cn cc:Nat) (ja:Option Addr) (jn jc:Nat) (R:Road) (pa2:Option Addr) (pn2 pc2:Nat) (ca2:Option Addr) (cn2 cc2:Nat) (ja2:Option Addr) (jn2 jc2:Nat) (R2:Road) (w:World)
  (h:RD w w.heap.size pa pn ca cn ja jn R) (h2:RD w w.heap.size pa2 pn2 ca2 cn2 ja2 jn2 R2) (hv:OK R) (hv2:OK R2) (hs:sumL R.ps=sumL R2.ps) (ht:inR tol 0 2000=true) :
  Calls Tryz.prog 11 #[.agg #[.slice pa pn pc,.slice ca cn cc,.slice ja jn jc],.agg #[.slice pa2 pn2 pc2,.slice ca2 cn2 cc2,.slice ja2 jn2 jc2],.int .i64 tol] w fun e w'=>
   ∃A n c,e = .returned (.tuple #[.slice A n c,.int .i64 0])∧OW dC 2 142 w.heap.size w' A n c (fJ tol (units R.ps) (units R2.ps) (sumL R.ps).toNat)∧Below w.heap.size w w':=
 callsIn_wide.1 (aAG tol pa pn pc ca cn cc ja jn jc R pa2 pn2 pc2 ca2 cn2 cc2 ja2 jn2 jc2 R2 w h h2 hv hv2 hs ht)
end Go.Proofs.YtjlkeoppppfeiaaGreat
