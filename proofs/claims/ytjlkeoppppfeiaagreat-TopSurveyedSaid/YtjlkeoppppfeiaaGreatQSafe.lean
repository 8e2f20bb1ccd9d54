/- Lemmas. -/
import Derived.Test.YtjlkeoppppfeiaaGreatQSfr
import Derived.Test.YtjlkeoppppfeiaaGreatQRuns
namespace Go.Proofs.YtjlkeoppppfeiaaGreat
open Go.RowKit Go.Shelf Go.Sort Go.Proofs
attribute [local go_sem] Oper.semAt_some
theorem kV:∀(x:Crest) (r:List Crest),iS (fun x:Crest=>x.pos) bA okC x r=true
 |_,[]=>rfl
 |x,y::r=>by
  unfold iS
  split
  ·rw[kV (bA x y) r];rfl
  ·exact kV y r
theorem wK (l:List Crest):fH (fun x:Crest=>x.pos) bA okC l=true:=by
 cases l with
 |nil=>rfl
 |cons x r=>exact kV x r
set_option maxRecDepth 100000 in
set_option maxHeartbeats 8000000 in
theorem aDH (pa:Option Addr) (pn pc:Nat) (ca:Option Addr) (cn cc:Nat) (ja:Option Addr) (jn jc:Nat) (R:Road) (pa2:Option Addr) (pn2 pc2:Nat) (ca2:Option Addr) (cn2 cc2:Nat) (ja2:Option Addr) (jn2 jc2:Nat) (R2:Road) (w:World)
  (h:RD w w.heap.size pa pn ca cn ja jn R) (h2:RD w w.heap.size pa2 pn2 ca2 cn2 ja2 jn2 R2) (hv:OK R) (hv2:OK R2) (hs:sumL R.ps=sumL R2.ps) (hsm:R.ps.length+R2.ps.length≤2000) :
  CallsIn Fence.wide 6 Tryz.prog 10 #[.agg #[.slice pa pn pc,.slice ca cn cc,.slice ja jn jc],.agg #[.slice pa2 pn2 pc2,.slice ca2 cn2 cc2,.slice ja2 jn2 jc2]] w fun e w'=>
   ((sfM (strL R.ps R2.ps)=none→e = .returned (.tuple #[.agg #[.slice none 0 0,.slice none 0 0,.slice none 0 0],.int .i64 5]))∧(∀L,sfM (strL R.ps R2.ps)=some L→fH (fun x:Junc=>x.pos) aX okJ (aK (fun x:Junc=>x.pos) (R.js++R2.js))=false→e = .returned (.tuple #[.agg #[.slice none 0 0,.slice none 0 0,.slice none 0 0],.int .i64 5])) ∧
    (∀L,sfM (strL R.ps R2.ps)=some L→fH (fun x:Junc=>x.pos) aX okJ (aK (fun x:Junc=>x.pos) (R.js++R2.js))=true→∃A1 n1 c1 A2 n2 c2 A3 n3 c3,e = .returned (cQ A1 n1 c1 A2 n2 c2 A3 n3 c3 ⟨normP L,mgd (fun x:Crest=>x.pos) bA (aK (fun x:Crest=>x.pos) (R.cs++R2.cs)),mgd (fun x:Junc=>x.pos) aX (aK (fun x:Junc=>x.pos) (R.js++R2.js))⟩) ∧
      (OW pC 5 112 w.heap.size w' A1 n1 c1 (normP L)∧OW cC 2 52 w.heap.size w' A2 n2 c2 (mgd (fun x:Crest=>x.pos) bA (aK (fun x:Crest=>x.pos) (R.cs++R2.cs)))∧OW jC 3 54 w.heap.size w' A3 n3 c3 (mgd (fun x:Junc=>x.pos) aX (aK (fun x:Junc=>x.pos) (R.js++R2.js))))))∧Below w.heap.size w w':=by
 have hR:=Lib.hid h;have hR2:=Lib.hid h2;have hv':=Lib.hid hv;have hv2':=Lib.hid hv2;have hs':=Lib.hid hs;have hpn:pn≤2000:=by rw[h.p.1];exact hv.p2
 have hpn2:pn2≤2000:=by rw[h2.p.1];exact hv2.p2
 have hpp:pn+pn2≤2000:=by rw[h.p.1,h2.p.1];exact hsm
 have HC1:=Lib.hid h.c.1;have HC2:=Lib.hid h2.c.1;have hmo:Tryz.prog.follows .mixedOrders=true:=by kernel_rfl
 clear h h2 hv hv2 hs hsm;obtain⟨w0,hw0⟩ : ∃w0,w0=(((w.alloc (.cells #[.slice pa pn pc,.slice ca cn cc,.slice ja jn jc] 26)).alloc (.cells #[.slice pa2 pn2 pc2,.slice ca2 cn2 cc2,.slice ja2 jn2 jc2] 26)).alloc (.cells #[.slice none 0 0,.slice none 0 0,.slice none 0 0] 26)).alloc (.cells #[.int .i64 0] 36):=⟨_,rfl⟩
 have hW0:Below w.heap.size w w0:=by rw[hw0];exact((((Below.refl w.heap.size w).alloc (Nat.le_refl _) _).alloc (by simp) _).alloc (by simp<;>omega) _).alloc (by simp<;>omega) _
 have b0:BK w0 w.heap.size 26 #[.slice pa pn pc,.slice ca cn cc,.slice ja jn jc]:=by rw[hw0];exact(((BK.new w _ _).alloc _).alloc _).alloc _
 have b1:BK w0 (w.heap.size+1) 26 #[.slice pa2 pn2 pc2,.slice ca2 cn2 cc2,.slice ja2 jn2 jc2]:=by rw[hw0];have:=(BK.new (w.alloc (.cells #[.slice pa pn pc,.slice ca cn cc,.slice ja jn jc] 26)) 26 #[.slice pa2 pn2 pc2,.slice ca2 cn2 cc2,.slice ja2 jn2 jc2]);rw[World.size_alloc]at this;exact(this.alloc _).alloc _
 have b2:BK w0 (w.heap.size+1+1) 26 #[.slice none 0 0,.slice none 0 0,.slice none 0 0]:=by rw[hw0];have:=(BK.new ((w.alloc (.cells #[.slice pa pn pc,.slice ca cn cc,.slice ja jn jc] 26)).alloc (.cells #[.slice pa2 pn2 pc2,.slice ca2 cn2 cc2,.slice ja2 jn2 jc2] 26)) 26 #[.slice none 0 0,.slice none 0 0,.slice none 0 0]);rw[World.size_alloc,World.size_alloc]at this;exact this.alloc _
 have b3:BK w0 (w.heap.size+1+1+1) 36 #[.int .i64 0]:=by rw[hw0];have:=(BK.new (((w.alloc (.cells #[.slice pa pn pc,.slice ca cn cc,.slice ja jn jc] 26)).alloc (.cells #[.slice pa2 pn2 pc2,.slice ca2 cn2 cc2,.slice ja2 jn2 jc2] 26)).alloc (.cells #[.slice none 0 0,.slice none 0 0,.slice none 0 0] 26)) 36 #[.int .i64 0]);rw[World.size_alloc,World.size_alloc,World.size_alloc]at this;exact this
 have hz0:w.heap.size+3<w0.heap.size:=b3.lt;refine callsIn_of_wp_marks Tryz.func10 rfl trivial ?_ rfl
 simp only[Tryz.ntmps10,List.size_toArray,List.length_cons,List.length_nil,Nat.reduceAdd,Nat.reduceSub,Array.replicate_succ,Array.replicate_zero,List.push_toArray,List.append_toArray,List.nil_append,List.cons_append];refine wpIn_wide.2 ?_
 go_wp2_with fail
 rw[←hw0];clear hw0;have r0:=b0.cell 0;have r1:=b0.cell 1;have r2:=b0.cell 2;have r3:=b1.cell 0;have r4:=b1.cell 1;have r5:=b1.cell 2;simp only[List.getElem?_toArray,List.getElem?_cons_zero,List.getElem?_cons_succ]at r0 r1 r2 r3 r4 r5
 go_wp2_with fail
 clear r0 r1 r2 r3 r4 r5;refine(oY pa pn pc ca cn cc ja jn jc R pa2 pn2 pc2 ca2 cn2 cc2 ja2 jn2 jc2 R2 _ (hR.out.grow hW0 hW0.size) (hR2.out.grow hW0 hW0.size) hv'.out hv2'.out).mono ?_
 rintro e w2 ⟨⟨hyes,-⟩,hb1⟩;obtain⟨g,ba,bq,g2,ba2,bq2,rfl,hM,hM2⟩:=hyes hs'.out;clear hyes;have hB2:=onto hW0 hb1 hW0.size;have X2:=b0.below hb1 b0.lt;have Y2:=b1.below hb1 b1.lt;have Z2:=b2.below hb1 b2.lt;have E2:=b3.below hb1 b3.lt;have hz2:=Nat.lt_of_lt_of_le hz0 hb1.size;have hM':=Lib.hid hM;have hM2':=Lib.hid hM2;clear hM hM2;go_wp2_with fail
 refine(kE g g2 _).mono ?_
 rintro e w8 ⟨rfl,rfl⟩;go_wp2_with fail
 obtain⟨W0,hW0'⟩ : ∃W0,W0=((w2.alloc (.cells #[.slice none 0 0] 22)).alloc (.cells #[.pointer (some ⟨g,0,none⟩)] 119)).alloc (.cells #[.pointer (some ⟨g2,0,none⟩)] 119):=⟨_,rfl⟩
 have e0:BK W0 w2.heap.size 22 #[.slice none 0 0]:=by rw[hW0'];exact((BK.new w2 _ _).alloc _).alloc _
 have e1:BK W0 (w2.heap.size+1) 119 #[.pointer (some ⟨g,0,none⟩)]:=by rw[hW0'];have:=(BK.new (w2.alloc (.cells #[.slice none 0 0] 22)) 119 #[.pointer (some ⟨g,0,none⟩)]);rw[World.size_alloc]at this;exact this.alloc _
 have e2:BK W0 (w2.heap.size+2) 119 #[.pointer (some ⟨g2,0,none⟩)]:=by rw[hW0'];have:=(BK.new ((w2.alloc (.cells #[.slice none 0 0] 22)).alloc (.cells #[.pointer (some ⟨g,0,none⟩)] 119)) 119 #[.pointer (some ⟨g2,0,none⟩)]);rw[World.size_alloc,World.size_alloc]at this;exact this
 have hsz:W0.heap.size=w2.heap.size+3:=by rw[hW0'];simp
 have hB0:Below w2.heap.size w2 W0:=by rw[hW0'];exact(((Below.refl _ w2).alloc (Nat.le_refl _) _).alloc (by simp) _).alloc (by simp<;>omega) _
 rw[←hW0'];have HS:=Lib.hid hsz;clear hW0' hsz;refine(wpIn_wide (n:=5)).1 ?_
 refine kN (fun a0 ha0=>?_)
 refine wpIn_rangeFunc_ownH (α:=BS) rfl (by omega) (gf:=120) (lb:=#[.pointer (some ⟨w2.heap.size+1,0,none⟩),.pointer (some ⟨w2.heap.size+2,0,none⟩)]) (by rw[ha0];rfl) trivial (enters_of Tryz.func120 (by kernel_rfl) rfl)
  (iQ 4 (by omega) (w2.heap.size+1) (w2.heap.size+2) w2.heap.size g g2 pa pn pc ca cn cc ja jn jc ba bq R pa2 pn2 pc2 ca2 cn2 cc2 ja2 jn2 jc2 ba2 bq2 R2 hpn hpn2 hv'.out.pk hv2'.out.pk hs'.out W0 (e1.cell 0) (e2.cell 0) (by have:=HS.out;omega) (by have:=HS.out;omega) hB0.size (hM'.out.grow hB0 (Nat.le_refl _)) (hM2'.out.grow hB0 (Nat.le_refl _)))
  KB2.t (KB2.b hB0.size (by have:=HS.out;omega) (by have:=HS.out;omega)) (Below.refl _ _) (fun _=>rfl)
  (fun pre W=>((∃A n c,BK W w2.heap.size 22 #[.slice A n c]∧OW pC 5 112 (w2.heap.size+3) W A n c ((sfM (pre.map (·.1))).getD []))∧Hid (∃L,sfM (pre.map (·.1))=some L))∧Since w2 W0.heap.size W)
  (fun c pre W=>((c = .ret∧Hid (sfM (pre.map (·.1))=none))∧(BK W (w.heap.size+1+1) 26 #[.slice none 0 0,.slice none 0 0,.slice none 0 0]∧BK W (w.heap.size+1+1+1) 36 #[.int .i64 5]))∧Since w W0.heap.size W)
  (OwnFrom.and (OwnFrom.and (yT _ _ _ _ _ pC 5 (fun pre:List BS=>(sfM (pre.map (·.1))).getD [])) (ownFrom_pure _ _)) (eP hB0.size))
  (fun c=>OwnFrom.and (OwnFrom.and (ownFrom_pure _ _) (OwnFrom.and (kP _ _ _ (fun _:List BS=>#[.slice none 0 0,.slice none 0 0,.slice none 0 0])) (kP _ _ _ (fun _:List BS=>#[.int .i64 5])))) (eP (by have:=hB2.size;have:=hB0.size;omega)))
  ⟨⟨⟨none,0,0,e0,OW.nil_⟩,⟨[],rfl⟩⟩,hB0,Nat.le_refl _⟩
  (fun e a' W=>∃Bx,w2.heap.size+2<Bx∧BK W Bx 128 #[.int .i64 e.1.fr,.int .i64 e.1.til,.int .i64 e.1.p.len,.int .i64 e.1.p.turn,.int .i64 e.1.p.rad,.int .i64 e.1.p.wid,.int .i64 e.1.p.sur,.int .i64 e.1.q.len,.int .i64 e.1.q.turn,.int .i64 e.1.q.rad,.int .i64 e.1.q.wid,.int .i64 e.1.q.sur]∧a'={ tmps:=(a0.tmps.setIfInBounds 29 (.agg #[.int .i64 e.1.fr,.int .i64 e.1.til,.int .i64 e.1.p.len,.int .i64 e.1.p.turn,.int .i64 e.1.p.rad,.int .i64 e.1.p.wid,.int .i64 e.1.p.sur,.int .i64 e.1.q.len,.int .i64 e.1.q.turn,.int .i64 e.1.q.rad,.int .i64 e.1.q.wid,.int .i64 e.1.q.sur])).setIfInBounds 10 (.pointer (some ⟨Bx,0,none⟩)),defers:=[] })
  (fun e a' s A B row hs hg hr=>by
   obtain⟨Bx,h1,h2,h3⟩:=hs;exact⟨Bx,h1,kP W0.heap.size _ _ (fun _:Unit=>_) () A B row h2 hg hr,h3⟩) ?assign ?body ?done ?stop
 case assign=>
  intro l pre e W K hI hK;rw[ha0]at hK ⊢;simp only[bsV,List.setIfInBounds_toArray,List.set_cons_succ,List.set_cons_zero]at hK ⊢
  gi_wp2
  obtain⟨⟨⟨A,n,c,i1,i2⟩,hL⟩,hB⟩:=hI;have hz:=HS.out;have hz2:=hB.2;have hbA:=(Below.refl W.heap.size W).alloc (Nat.le_refl _) (.cells #[.int .i64 e.1.fr,.int .i64 e.1.til,.int .i64 e.1.p.len,.int .i64 e.1.p.turn,.int .i64 e.1.p.rad,.int .i64 e.1.p.wid,.int .i64 e.1.p.sur,.int .i64 e.1.q.len,.int .i64 e.1.q.turn,.int .i64 e.1.q.rad,.int .i64 e.1.q.wid,.int .i64 e.1.q.sur] 128);exact hK _ _ ((KeepsOthers.alloc _ _).from _) (KB2.of_below hbA (by omega) (by omega) (by omega)) ⟨⟨⟨A,n,c,i1.alloc _,i2.alloc _⟩,hL⟩,hB.onto hbA⟩ ⟨W.heap.size,by omega,BK.new W _ _,rfl⟩
 case body=>
  rintro l pre e a' W hlW ⟨r',hr⟩ ⟨⟨⟨A,n,c,i1,i2⟩,hSF⟩,hB⟩ ⟨Bx,hBx,bX,rfl⟩ hlt;obtain⟨L,hL⟩:=hSF.out;rw[hL]at i2;simp only[Option.getD_some]at i2;have HL:=Lib.hid hL;obtain⟨⟨fr,tl,p,q⟩,hpk,hqk,hf0,hft,hb5⟩:=e
  dsimp only at bX hpk hqk hf0 hft hb5 ⊢
  have HNEW:Hid (sfM ((pre++[(⟨⟨fr,tl,p,q⟩,hpk,hqk,hf0,hft,hb5⟩ : BS)]).map (·.1))=(sfr p q (tl-fr)).map fun z=>L++[z]):=by
   show _=_
   rw[List.map_append,List.map_cons,List.map_nil,sfM_snoc,hL]
   rfl
  rw[ha0];simp only[List.setIfInBounds_toArray,List.set_cons_succ,List.set_cons_zero];have hz:w2.heap.size+3≤W0.heap.size:=by have:=HS.out;omega
  have hzW:=hB.2;have hnl:n≤4000:=by
   have h1:=i2.len;have h2:=tU _ hL;rw[List.length_map]at h2;omega
  have bZ:=Z2.below hB.1 Z2.lt;have bE:=E2.below hB.1 E2.lt;clear hL;have hzl:=Z2.lt;have hel:=E2.lt;have x0:=bX.cell 0;have x1:=bX.cell 1;have x2:=bX.cell 2;have x3:=bX.cell 3;have x4:=bX.cell 4;have x5:=bX.cell 5;have x6:=bX.cell 6;have x7:=bX.cell 7;have x8:=bX.cell 8;have x9:=bX.cell 9;have x10:=bX.cell 10;have x11:=bX.cell 11;simp only[List.getElem?_toArray,List.getElem?_cons_zero,List.getElem?_cons_succ]at x0 x1 x2 x3 x4 x5 x6 x7 x8 x9 x10 x11
  gi_wp2_with fail
  refine aEh ((aAk p q W).mono ?_)
  rintro e' W1 ⟨rfl,hbW1⟩;clear x0 x1 x2 x3 x4 x5 x6 x7 x8 x9 x10 x11;have hz3:=hbW1.size;have hB1':=hB.onto hbW1;have hKf:=dD (B:=W0.heap.size) hbW1;have hKB:KB2 w2.heap.size (w2.heap.size+1) (w2.heap.size+2) W W1:=KB2.of_below hbW1 (by omega) (by omega) (by omega)
  have j1:=i1.below hbW1 i1.lt;have jX:=bX.below hbW1 bX.lt;have jZ:=bZ.below hbW1 bZ.lt;have jE:=bE.below hbW1 bE.lt;have jO:=i2.call hbW1;have x0:=jX.cell 0;have x1:=jX.cell 1;simp only[List.getElem?_toArray,List.getElem?_cons_zero,List.getElem?_cons_succ]at x0 x1
  cases hsf:sfr p q 0 with
  |none=>
   have hno:Hid (sfM ((pre++[(⟨⟨fr,tl,p,q⟩,hpk,hqk,hf0,hft,hb5⟩ : BS)]).map (·.1))=none):=by show _=_;rw[HNEW.out,aDw hsf];rfl
   simp only[aDv];have z0:=jZ.cell 0;have z1:=jZ.cell 1;have z2:=jZ.cell 2;have y0:=jE.cell 0;simp only[List.getElem?_toArray,List.getElem?_cons_zero,List.getElem?_cons_succ]at z0 z1 z2 y0
   have zf:=jZ.frozen;have yf:=jE.frozen;have zl:=jZ.lt;have yl:=jE.lt;clear hsf
   gi_wp2_with fail
   have hSw:Since w W0.heap.size W1:=⟨hB2.trans (hB1'.1.mono hB2.size),hB1'.2⟩;refine⟨(((((hKf.trans ((KeepsOthers.setCell _ _ _).from _)).trans ((KeepsOthers.setCell _ _ _).from _)).trans ((KeepsOthers.setCell _ _ _).from _)).trans ((KeepsOthers.setCell _ _ _).from _)).trans ((KeepsOthers.alloc _ _).from _)),
     ⟨⟨rfl,hno⟩,((((jZ.set_ 0 _).set_ 1 _).set_ 2 _).far (p:=⟨w.heap.size+1+1+1,0,none⟩) (by simp) _).alloc _,((((jE.far (p:=⟨w.heap.size+1+1,0,none⟩) (by simp) _).far (p:=⟨w.heap.size+1+1,1,none⟩) (by simp) _).far (p:=⟨w.heap.size+1+1,2,none⟩) (by simp) _).set_ 0 _).alloc _⟩,
     ((((hSw.setCell (by simp<;>omega) _).setCell (by simp<;>omega) _).setCell (by simp<;>omega) _).setCell (by simp<;>omega) _).onto ((Below.refl _ _).alloc (Nat.le_refl _) _)⟩
  |some z=>
   have hyes:Hid (sfM ((pre++[(⟨⟨fr,tl,p,q⟩,hpk,hqk,hf0,hft,hb5⟩ : BS)]).map (·.1))=some (L++[{ z with len:=tl-fr }])):=by show _=_;rw[HNEW.out,aDK hsf];rfl
   simp only[aDv];have c0:=j1.cell 0;have f0:=j1.frozen 0;have l0:=j1.lt;have lX:=jX.lt;simp only[List.getElem?_toArray,List.getElem?_cons_zero]at c0
   obtain⟨TD,hTD⟩ : ∃TD,TD=tl-fr:=⟨_,rfl⟩
   rw[←hTD]at hyes;have hw1:IntKind.i64.wrap (tl-fr)=TD:=by rw[hTD];exact IntWalk.i64_in _ (by omega)
   have HTD:=Lib.hid hTD;clear hsf hTD jZ jE bZ bE;have hO1:=jO.alloc (.cells #[.int .i64 TD,.int .i64 z.turn,.int .i64 z.rad,.int .i64 z.wid,.int .i64 z.sur] 112);have hN1:BK ((W1.alloc (.cells #[.int .i64 TD,.int .i64 z.turn,.int .i64 z.rad,.int .i64 z.wid,.int .i64 z.sur] 112)).alloc (.cells #[.int .i64 TD,.int .i64 z.turn,.int .i64 z.rad,.int .i64 z.wid,.int .i64 z.sur] 112)) (W1.heap.size+1) 112 #[.int .i64 TD,.int .i64 z.turn,.int .i64 z.rad,.int .i64 z.wid,.int .i64 z.sur]:=by
     have:=BK.new (W1.alloc (.cells #[.int .i64 TD,.int .i64 z.turn,.int .i64 z.rad,.int .i64 z.wid,.int .i64 z.sur] 112)) 112 #[.int .i64 TD,.int .i64 z.turn,.int .i64 z.rad,.int .i64 z.wid,.int .i64 z.sur];rw[World.size_alloc]at this;exact this
   have i1':=(j1.alloc (.cells #[.int .i64 TD,.int .i64 z.turn,.int .i64 z.rad,.int .i64 z.wid,.int .i64 z.sur] 112)).alloc (.cells #[.int .i64 TD,.int .i64 z.turn,.int .i64 z.rad,.int .i64 z.wid,.int .i64 z.sur] 112);have HFZ:Hid (∀w3 g c'',App1 pC 5 112 (w2.heap.size+3) ((W1.alloc (.cells #[.int .i64 TD,.int .i64 z.turn,.int .i64 z.rad,.int .i64 z.wid,.int .i64 z.sur] 112)).alloc (.cells #[.int .i64 TD,.int .i64 z.turn,.int .i64 z.rad,.int .i64 z.wid,.int .i64 z.sur] 112)) A n c L { z with len:=TD } g c'' w3→w3.heap[w2.heap.size]?=((W1.alloc (.cells #[.int .i64 TD,.int .i64 z.turn,.int .i64 z.rad,.int .i64 z.wid,.int .i64 z.sur] 112)).alloc (.cells #[.int .i64 TD,.int .i64 z.turn,.int .i64 z.rad,.int .i64 z.wid,.int .i64 z.sur] 112)).heap[w2.heap.size]?):=by
     intro w3 g c'' hap;exact hap.far _ (by simp;omega) (fun b hb=>by have:=(jO.lt hb).1;omega)
   gi_wp2_with (gi_at_builtin;refine fA rfl _ _ 22 rfl (w2.heap.size+3) 112 _ 5 40 Tryz.underlying22 yP rfl (by decide) pC A n c L rfl (hO1.alloc _) { z with len:=TD } #[.int .i64 TD,.int .i64 z.turn,.int .i64 z.rad,.int .i64 z.wid,.int .i64 z.sur] rfl rfl 112 (W1.heap.size+1) rfl hN1 (by simp[pC,Value.oneCell']) (by omega) (by omega) (by simp;omega) ?_;intro g' c' w1 hap;have hw1:=HFZ.out _ _ _ hap;have hm1:=i1'.same hw1;have m0:=hm1.cell 0;have mf:=hm1.frozen 0;have HAP:=Lib.hid hap;clear hap)
   have hap:=HAP.out;have hm2:=hm1.set_ 0 (.slice (some ⟨g',0,none⟩) (n+1) c');have hgl2:w2.heap.size+3≤g':=(hap.own.lt rfl).1;have hbA:=((Below.refl W1.heap.size W1).alloc (Nat.le_refl _) (.cells #[.int .i64 TD,.int .i64 z.turn,.int .i64 z.rad,.int .i64 z.wid,.int .i64 z.sur] 112)).alloc (by simp) (.cells #[.int .i64 TD,.int .i64 z.turn,.int .i64 z.rad,.int .i64 z.wid,.int .i64 z.sur] 112)
   have hb1':Below (w2.heap.size+3) W1 w1:=(hbA.mono (by omega)).trans hap.bel
   have hb2':Below (w2.heap.size+3) W w1:=(hbW1.mono (by omega)).trans hb1'
   refine⟨(hKf.trans (((KeepsOthers.alloc _ _).from _).trans (((KeepsOthers.alloc _ _).from _).trans (hap.keeps (hO1.alloc _) _)))).trans ((KeepsOthers.setCell _ _ _).from _),(KB2.of_below hb2' (by omega) (by omega) (by omega)).setCell (by simp<;>omega) (by simp<;>omega) (by simp<;>omega) _,⟨⟨_,_,_,hm2,?_⟩,⟨_,hyes.out⟩⟩,⟨(hB.1.trans (hb2'.mono (by omega))).setCell (by simp<;>omega) _,by have h1:=hap.size;simp at h1 ⊢;omega⟩⟩
   rw[hyes.out,Option.getD_some];exact hap.own.setCell (fun b hb=>by cases hb;show g'≠w2.heap.size;omega) _
 case stop=>
  rintro D c pre W hD ⟨rr,hrr⟩ ⟨⟨⟨rfl,hno⟩,hZ,hE⟩,hS⟩ hK;have hall:Hid (sfM (strL R.ps R2.ps)=none):=by show _=_;rw[←hrr];exact wN _ _ hno.out
  rw[ha0];have hDl:w.heap.size+3<D:=by have:=hB0.size;omega
  have hZP:BK (W.putObj D (.deferred none)) (w.heap.size+1+1) 26 #[.slice none 0 0,.slice none 0 0,.slice none 0 0]:=hZ.same (World.putObj_heap_other (by omega))
  have hEP:BK (W.putObj D (.deferred none)) (w.heap.size+1+1+1) 36 #[.int .i64 5]:=hE.same (World.putObj_heap_other (by omega))
  have z0:=hZP.cell 0;have z1:=hZP.cell 1;have z2:=hZP.cell 2;have y0:=hEP.cell 0;simp only[List.getElem?_toArray,List.getElem?_cons_zero,List.getElem?_cons_succ]at z0 z1 z2 y0
  have HK:=Lib.hid hK;clear hK
  gi_wp2_with fail
  go_wp2_with fail
  refine⟨by simp,.inl ⟨_,_,rfl,run_takeDeferred HK.out,?_⟩⟩
  refine⟨.tuple #[.agg #[.slice none 0 0,.slice none 0 0,.slice none 0 0],.int .i64 5],?_,⟨fun _=>rfl,fun L h=>by(rw[hall.out]at h;cases h),fun L h=>by(rw[hall.out]at h;cases h)⟩,hS.1.trans (belowK_b (w:=w) (Nat.le_refl _) W D _ _ (by omega) HK.out rfl rfl)⟩
  simp[results,Tryz.results10,go_sem,z0,z1,z2,y0]
 case done=>
  rintro D ys W hD hys ⟨⟨⟨A,n,c,i1,i2⟩,hSF⟩,hB⟩ hK;rw[hys]at i2 hSF;obtain⟨L,hL⟩:=hSF.out;rw[hL]at i2;simp only[Option.getD_some]at i2;have HL0:=Lib.hid hL;have hLok:=yG hv'.out.pk hv2'.out.pk hs'.out hL;have HLK:=Lib.hid hLok;have hnl:n≤2000:=by
   have h1:=i2.len;have h2:=tU _ hL;have h3:=wQ R.ps R2.ps;have h4:=hR.out.p.1;have h5:=hR2.out.p.1;omega
  have hDl:w.heap.size+3<D:=by have:=hB0.size;omega
  have hDK:DK W D:=hK;have HCL:=Lib.hid (show cn≤2000 by rw[hR.out.c.1];have:=hv'.out.c1;omega)
  have HCL2:=Lib.hid (show cn2≤2000 by rw[hR2.out.c.1];have:=hv2'.out.c1;omega)
  have HJL:=Lib.hid (show jn≤2000 by rw[hR.out.j.1];have:=hv'.out.j1;omega)
  have HJL2:=Lib.hid (show jn2≤2000 by rw[hR2.out.j.1];have:=hv2'.out.j1;omega)
  clear hys hSF hL hLok hK;rw[ha0];have c0:=i1.cell 0;simp only[List.getElem?_toArray,List.getElem?_cons_zero]at c0
  have HO:=Lib.hid i2;have HD:=Lib.hid hDK;clear i2 hDK;go_wp2_with fail
  refine(zW A n c L W (HO.out.sl iV) (fun q hq=>aP (HLK.out q hq)) hnl).mono ?_
  rintro e w3 ⟨P1,m1,q1,rfl,o1,hb3⟩;have hWw:w2.heap.size≤W.heap.size:=hB.1.size;have hB3:Below w2.heap.size w2 w3:=hB.1.trans (hb3.mono hWw);have D3:=HD.out.below hb3 HD.out.lt;have X3:=X2.below hB3 X2.lt;have Y3:=Y2.below hB3 Y2.lt;have Z3:=Z2.below hB3 Z2.lt;have E3:=E2.below hB3 E2.lt;have O13:=o1.drop0 hWw;have HO13:=Lib.hid O13;have HD3:=Lib.hid D3;have xl:=X3.lt;have yl:=Y3.lt;have x1:=X3.cell 1;have x2:=X3.cell 2;have y1:=Y3.cell 1;have y2:=Y3.cell 2;simp only[List.getElem?_toArray,List.getElem?_cons_zero,List.getElem?_cons_succ]at x1 x2 y1 y2
  clear o1 O13 D3 c0 i1;go_wp2_with fail
  refine i9 (fun w4 hw4=>?_)
  have hb4:Below w3.heap.size w3 w4:=by rw[hw4];exact(Below.refl _ _).alloc (Nat.le_refl _) _
  have J4:BK w4 w3.heap.size 26 #[.slice P1 m1 q1,.slice none 0 0,.slice none 0 0]:=by rw[hw4];exact BK.new _ _ _
  have hB4:Below w.heap.size w w4:=(hB2.trans (hB3.mono hB2.size)).trans (hb4.mono (by have:=hB2.size;have:=hB3.size;omega))
  clear hw4 x1 x2 y1 y2;refine(aCp ca cn cc R.cs ca2 cn2 cc2 R2.cs _ _ _ w4 (hR.out.grow hB4 hB4.size).c (hR2.out.grow hB4 hB4.size).c HCL.out HCL2.out rfl rfl rfl).mono ?_
  rintro e w5 ⟨⟨hyesC,-⟩,hb5⟩;obtain⟨P2,m2,q2,rfl,o2⟩:=hyesC (wK _);clear hyesC;have hwz:w2.heap.size≤w3.heap.size:=hB3.size;have J5:=J4.below hb5 J4.lt;have hb45:Below w3.heap.size w3 w5:=hb4.trans (hb5.mono hb4.size);have X5:=X3.below hb45 X3.lt;have Y5:=Y3.below hb45 Y3.lt;have x2:=X5.cell 2;have y2:=Y5.cell 2;have j0:=J5.cell 0;have j1:=J5.cell 1;have j2:=J5.cell 2;have jf:=J5.frozen;have jl:=J5.lt;have xl5:=X5.lt;have yl5:=Y5.lt;simp only[List.getElem?_toArray,List.getElem?_cons_zero,List.getElem?_cons_succ]at x2 y2 j0 j1 j2
  have hxj:w.heap.size<w3.heap.size:=xl;have hyj:w.heap.size+1<w3.heap.size:=yl;have HO2:=Lib.hid o2;clear o2;go_wp2_with fail
  refine i9 (fun w6 hw6=>?_)
  have J6:BK w6 w3.heap.size 26 #[.slice P1 m1 q1,.slice P2 m2 q2,.slice none 0 0]:=by rw[hw6];exact J5.set_ 1 _
  have hb56:Below w3.heap.size w5 w6:=by rw[hw6];exact(Below.refl w3.heap.size w5).setCell (p:=⟨w3.heap.size,1,none⟩) (Nat.le_refl _) _
  have hb36:Below w3.heap.size w3 w6:=hb45.trans hb56;have O16:OW pC 5 112 w2.heap.size w6 P1 m1 q1 (normP L):=HO13.out.keep (fun a ha=>hb36.block _ (HO13.out.lt ha).2)
  have O26:OW cC 2 52 w4.heap.size w6 P2 m2 q2 (mgd (fun x:Crest=>x.pos) bA (aK (fun x:Crest=>x.pos) (R.cs++R2.cs))):=by rw[hw6];exact HO2.out.setCell (fun a ha=>by have h1:=(HO2.out.lt ha).1;have h2:=J4.lt;show a.block≠w3.heap.size;omega) _
  have hB6:Below w.heap.size w w6:=(hB2.trans (hB3.mono hB2.size)).trans (hb36.mono (by have:=hB2.size;omega))
  clear hw6 x2 y2 j0 j1 j2 jf jl;obtain⟨GJ,hGJ⟩ : ∃GJ,GJ=fH (fun x:Junc=>x.pos) aX okJ (aK (fun x:Junc=>x.pos) (R.js++R2.js)):=⟨_,rfl⟩
  refine(aCq ja jn jc R.js ja2 jn2 jc2 R2.js _ _ GJ w6 (hR.out.grow hB6 hB6.size).j (hR2.out.grow hB6 hB6.size).j HJL.out HJL2.out rfl rfl hGJ.symm).mono ?_
  rintro e w7 ⟨⟨hyesJ,hnoJ⟩,hb7⟩;have J7:=J6.below hb7 J6.lt;have hb37:Below w3.heap.size w3 w7:=hb36.trans (hb7.mono hb36.size);have Z7:=Z3.below hb37 Z3.lt;have E7:=E3.below hb37 E3.lt;have D7:=HD3.out.below hb37 HD3.out.lt;have hDw3:=HD3.out.lt;have O17:=O16.call hb7;have O27:=O26.call hb7;have hB7:=hB6.trans (hb7.mono hB6.size);have hl4:=J4.lt;have hl46:w4.heap.size≤w6.heap.size:=by have:=hb5.size;have:=hb56.size;omega
  clear O16 O26 hb36 hb56 hb45 hb5 hB6;have j0:=J7.cell 0;have j1:=J7.cell 1;have j2:=J7.cell 2;have jf:=J7.frozen;have jl:=J7.lt;simp only[List.getElem?_toArray,List.getElem?_cons_zero,List.getElem?_cons_succ]at j0 j1 j2
  have hzl:=Z3.lt;have hel:=E3.lt;cases GJ
  case false=>
   obtain rfl:=hnoJ rfl;have HGJ:=Lib.hid hGJ.symm;clear hGJ hyesJ hnoJ;go_upto_region 16 with fail
   refine wM (fun wc hwc=>?_)
   have hZc:BK wc (w.heap.size+1+1) 26 #[.slice none 0 0,.slice none 0 0,.slice none 0 0]:=by rw[hwc];exact Z7.far (p:=⟨w3.heap.size,2,none⟩) (show _≠w3.heap.size by omega) _
   have hEc:BK wc (w.heap.size+1+1+1) 36 #[.int .i64 0]:=by rw[hwc];exact E7.far (p:=⟨w3.heap.size,2,none⟩) (show _≠w3.heap.size by omega) _
   have hDc:DK wc D:=by rw[hwc];exact D7.far (p:=⟨w3.heap.size,2,none⟩) (show D≠w3.heap.size by omega) _
   have hBc:Below w.heap.size w wc:=by rw[hwc];exact hB7.setCell (by show w.heap.size≤w3.heap.size;omega) _
   clear hwc j0 j1 j2 jf jl;have zf:=hZc.frozen;have ef:=hEc.frozen;have zl:=hZc.lt;have el:=hEc.lt;have z0:=hZc.cell 0;have z1:=hZc.cell 1;have z2:=hZc.cell 2;have y0:=hEc.cell 0;simp only[List.getElem?_toArray,List.getElem?_cons_zero,List.getElem?_cons_succ]at z0 z1 z2 y0
   obtain⟨WF,hWF⟩ : ∃WF,WF=(((wc.setCell ⟨w.heap.size+1+1,0,none⟩ (.slice none 0 0)).setCell ⟨w.heap.size+1+1,1,none⟩ (.slice none 0 0)).setCell ⟨w.heap.size+1+1,2,none⟩ (.slice none 0 0)).setCell ⟨w.heap.size+1+1+1,0,none⟩ (.int .i64 5):=⟨_,rfl⟩
   have hZF:BK WF (w.heap.size+1+1) 26 #[.slice none 0 0,.slice none 0 0,.slice none 0 0]:=by rw[hWF];exact(((hZc.set_ 0 _).set_ 1 _).set_ 2 _).far (p:=⟨w.heap.size+1+1+1,0,none⟩) (by simp) _
   have hEF:BK WF (w.heap.size+1+1+1) 36 #[.int .i64 5]:=by rw[hWF];exact(((hEc.far (p:=⟨w.heap.size+1+1,0,none⟩) (by simp) _).far (p:=⟨w.heap.size+1+1,1,none⟩) (by simp) _).far (p:=⟨w.heap.size+1+1,2,none⟩) (by simp) _).set_ 0 _
   have hDF:DK WF D:=by rw[hWF];exact(((hDc.far (p:=⟨w.heap.size+1+1,0,none⟩) (show D≠w.heap.size+1+1 by omega) _).far (p:=⟨w.heap.size+1+1,1,none⟩) (show D≠w.heap.size+1+1 by omega) _).far (p:=⟨w.heap.size+1+1,2,none⟩) (show D≠w.heap.size+1+1 by omega) _).far (p:=⟨w.heap.size+1+1+1,0,none⟩) (show D≠w.heap.size+1+1+1 by omega) _
   have hBF:Below w.heap.size w WF:=by rw[hWF];exact(((hBc.setCell (p:=⟨w.heap.size+1+1,0,none⟩) (by simp<;>omega) _).setCell (p:=⟨w.heap.size+1+1,1,none⟩) (by simp<;>omega) _).setCell (p:=⟨w.heap.size+1+1,2,none⟩) (by simp<;>omega) _).setCell (p:=⟨w.heap.size+1+1+1,0,none⟩) (by simp<;>omega) _
   have HDF:=Lib.hid hDF;clear hDF hDc hZc hEc hBc;go_wp2_with fail
   rw[←hWF];clear z0 z1 z2 y0;refine⟨by simp,.inl ⟨_,_,rfl,run_takeDeferred HDF.out,?_⟩⟩
   have hZP:BK (WF.putObj D (.deferred none)) (w.heap.size+1+1) 26 #[.slice none 0 0,.slice none 0 0,.slice none 0 0]:=hZF.same (World.putObj_heap_other (by omega))
   have hEP:BK (WF.putObj D (.deferred none)) (w.heap.size+1+1+1) 36 #[.int .i64 5]:=hEF.same (World.putObj_heap_other (by omega))
   have z0:=hZP.cell 0;have z1:=hZP.cell 1;have z2:=hZP.cell 2;have y0:=hEP.cell 0;simp only[List.getElem?_toArray,List.getElem?_cons_zero,List.getElem?_cons_succ]at z0 z1 z2 y0
   refine⟨.tuple #[.agg #[.slice none 0 0,.slice none 0 0,.slice none 0 0],.int .i64 5],?_,⟨fun h=>absurd (HL0.out.symm.trans h) (by simp),fun _ _ _=>rfl,fun _ _ hh=>absurd (HGJ.out.symm.trans hh) (by decide)⟩,hBF.trans (belowK_b (w:=w) (Nat.le_refl _) WF D _ _ (by omega) HDF.out rfl rfl)⟩
   simp[results,Tryz.results10,go_sem,z0,z1,z2,y0]
  case true=>
   obtain⟨P3,m3,q3,rfl,o3⟩:=hyesJ rfl;have HGJ:=Lib.hid hGJ.symm;have HO3:=Lib.hid o3;clear hGJ hyesJ hnoJ o3;go_wp2_with fail
   refine i9 (fun w8 hw8=>?_)
   have O18:OW pC 5 112 w2.heap.size w8 P1 m1 q1 (normP L):=by rw[hw8];exact O17.setCell (fun a ha=>by have h1:=(HO13.out.lt ha).2;show a.block≠w3.heap.size;omega) _
   have O28:OW cC 2 52 w4.heap.size w8 P2 m2 q2 (mgd (fun x:Crest=>x.pos) bA (aK (fun x:Crest=>x.pos) (R.cs++R2.cs))):=by rw[hw8];exact O27.setCell (fun a ha=>by have h1:=(O27.lt ha).1;show a.block≠w3.heap.size;omega) _
   have O38:OW jC 3 54 w6.heap.size w8 P3 m3 q3 (mgd (fun x:Junc=>x.pos) aX (aK (fun x:Junc=>x.pos) (R.js++R2.js))):=by rw[hw8];exact HO3.out.setCell (fun a ha=>by have h1:=(HO3.out.lt ha).1;show a.block≠w3.heap.size;omega) _
   have Z8:BK w8 (w.heap.size+1+1) 26 #[.slice none 0 0,.slice none 0 0,.slice none 0 0]:=by rw[hw8];exact Z7.far (p:=⟨w3.heap.size,2,none⟩) (show _≠w3.heap.size by omega) _
   have E8:BK w8 (w.heap.size+1+1+1) 36 #[.int .i64 0]:=by rw[hw8];exact E7.far (p:=⟨w3.heap.size,2,none⟩) (show _≠w3.heap.size by omega) _
   have D8:DK w8 D:=by rw[hw8];exact D7.far (p:=⟨w3.heap.size,2,none⟩) (show D≠w3.heap.size by omega) _
   have B8:Below w.heap.size w w8:=by rw[hw8];exact hB7.setCell (by show w.heap.size≤w3.heap.size;omega) _
   have hm1:m1≤20000:=by
     have h1:=O18.len;have h2:=gE (fun q hq=>aP (HLK.out q hq))
     have h3:=HO.out.len;omega
   clear hw8 j0 j1 j2 jf jl O17 O27 Z7 E7 D7 hB7;refine(nS P1 m1 q1 P2 m2 q2 P3 m3 q3 ⟨normP L,(mgd (fun x:Crest=>x.pos) bA (aK (fun x:Crest=>x.pos) (R.cs++R2.cs))),(mgd (fun x:Junc=>x.pos) aX (aK (fun x:Junc=>x.pos) (R.js++R2.js)))⟩ w8 ⟨O18.sl iV,O28.sl aZ,O38.sl aV⟩ (wO HLK.out) hm1).mono ?_
   rintro e wc ⟨rfl,hb9⟩;have O1:=O18.call hb9;have O2:=O28.call hb9;have O3:=O38.call hb9;have hZc:=Z8.below hb9 Z8.lt;have hEc:=E8.below hb9 E8.lt;have hDc:=D8.below hb9 D8.lt;have hBc:=B8.trans (hb9.mono B8.size);clear O18 O28 O38 Z8 E8 D8 B8 hb9;cases hfit:eW ⟨normP L,(mgd (fun x:Crest=>x.pos) bA (aK (fun x:Crest=>x.pos) (R.cs++R2.cs))),(mgd (fun x:Junc=>x.pos) aX (aK (fun x:Junc=>x.pos) (R.js++R2.js)))⟩
   case true=>
     have hbv:cQ P1 m1 q1 P2 m2 q2 P3 m3 q3 ⟨normP L,(mgd (fun x:Crest=>x.pos) bA (aK (fun x:Crest=>x.pos) (R.cs++R2.cs))),(mgd (fun x:Junc=>x.pos) aX (aK (fun x:Junc=>x.pos) (R.js++R2.js)))⟩ = .tuple #[.agg #[.slice P1 m1 q1,.slice P2 m2 q2,.slice P3 m3 q3],.int .i64 0]:=by rw[cQ,if_pos hfit]
     have HBV:=Lib.hid hbv;rw[hbv];clear hbv hfit;have zf:=hZc.frozen;have ef:=hEc.frozen;have zl:=hZc.lt;have el:=hEc.lt;have z0:=hZc.cell 0;have z1:=hZc.cell 1;have z2:=hZc.cell 2;have y0:=hEc.cell 0;simp only[List.getElem?_toArray,List.getElem?_cons_zero,List.getElem?_cons_succ]at z0 z1 z2 y0
     obtain⟨WF,hWF⟩ : ∃WF,WF=(((wc.setCell ⟨w.heap.size+1+1,0,none⟩ (.slice P1 m1 q1)).setCell ⟨w.heap.size+1+1,1,none⟩ (.slice P2 m2 q2)).setCell ⟨w.heap.size+1+1,2,none⟩ (.slice P3 m3 q3)).setCell ⟨w.heap.size+1+1+1,0,none⟩ (.int .i64 0):=⟨_,rfl⟩
     have hZF:BK WF (w.heap.size+1+1) 26 #[.slice P1 m1 q1,.slice P2 m2 q2,.slice P3 m3 q3]:=by rw[hWF];exact(((hZc.set_ 0 _).set_ 1 _).set_ 2 _).far (p:=⟨w.heap.size+1+1+1,0,none⟩) (by simp) _
     have hEF:BK WF (w.heap.size+1+1+1) 36 #[.int .i64 0]:=by rw[hWF];exact(((hEc.far (p:=⟨w.heap.size+1+1,0,none⟩) (by simp) _).far (p:=⟨w.heap.size+1+1,1,none⟩) (by simp) _).far (p:=⟨w.heap.size+1+1,2,none⟩) (by simp) _).set_ 0 _
     have hDF:DK WF D:=by rw[hWF];exact(((hDc.far (p:=⟨w.heap.size+1+1,0,none⟩) (show D≠w.heap.size+1+1 by omega) _).far (p:=⟨w.heap.size+1+1,1,none⟩) (show D≠w.heap.size+1+1 by omega) _).far (p:=⟨w.heap.size+1+1,2,none⟩) (show D≠w.heap.size+1+1 by omega) _).far (p:=⟨w.heap.size+1+1+1,0,none⟩) (show D≠w.heap.size+1+1+1 by omega) _
     have hBF:Below w.heap.size w WF:=by rw[hWF];exact(((hBc.setCell (p:=⟨w.heap.size+1+1,0,none⟩) (by simp<;>omega) _).setCell (p:=⟨w.heap.size+1+1,1,none⟩) (by simp<;>omega) _).setCell (p:=⟨w.heap.size+1+1,2,none⟩) (by simp<;>omega) _).setCell (p:=⟨w.heap.size+1+1+1,0,none⟩) (by simp<;>omega) _
     have r1:OW pC 5 112 w.heap.size WF P1 m1 q1 (normP L):=by rw[hWF];exact((((O1.setCell (p:=⟨w.heap.size+1+1,0,none⟩) (fun a ha=>by have:=(O1.lt ha).1;show a.block≠w.heap.size+1+1;omega) _).setCell (p:=⟨w.heap.size+1+1,1,none⟩) (fun a ha=>by have:=(O1.lt ha).1;show a.block≠w.heap.size+1+1;omega) _).setCell (p:=⟨w.heap.size+1+1,2,none⟩) (fun a ha=>by have:=(O1.lt ha).1;show a.block≠w.heap.size+1+1;omega) _).setCell (p:=⟨w.heap.size+1+1+1,0,none⟩) (fun a ha=>by have:=(O1.lt ha).1;show a.block≠w.heap.size+1+1+1;omega) _).drop0 (by omega)
     have r2:OW cC 2 52 w.heap.size WF P2 m2 q2 (mgd (fun x:Crest=>x.pos) bA (aK (fun x:Crest=>x.pos) (R.cs++R2.cs))):=by rw[hWF];exact((((O2.setCell (p:=⟨w.heap.size+1+1,0,none⟩) (fun a ha=>by have:=(O2.lt ha).1;show a.block≠w.heap.size+1+1;omega) _).setCell (p:=⟨w.heap.size+1+1,1,none⟩) (fun a ha=>by have:=(O2.lt ha).1;show a.block≠w.heap.size+1+1;omega) _).setCell (p:=⟨w.heap.size+1+1,2,none⟩) (fun a ha=>by have:=(O2.lt ha).1;show a.block≠w.heap.size+1+1;omega) _).setCell (p:=⟨w.heap.size+1+1+1,0,none⟩) (fun a ha=>by have:=(O2.lt ha).1;show a.block≠w.heap.size+1+1+1;omega) _).drop0 (by omega)
     have r3:OW jC 3 54 w.heap.size WF P3 m3 q3 (mgd (fun x:Junc=>x.pos) aX (aK (fun x:Junc=>x.pos) (R.js++R2.js))):=by rw[hWF];exact((((O3.setCell (p:=⟨w.heap.size+1+1,0,none⟩) (fun a ha=>by have:=(O3.lt ha).1;show a.block≠w.heap.size+1+1;omega) _).setCell (p:=⟨w.heap.size+1+1,1,none⟩) (fun a ha=>by have:=(O3.lt ha).1;show a.block≠w.heap.size+1+1;omega) _).setCell (p:=⟨w.heap.size+1+1,2,none⟩) (fun a ha=>by have:=(O3.lt ha).1;show a.block≠w.heap.size+1+1;omega) _).setCell (p:=⟨w.heap.size+1+1+1,0,none⟩) (fun a ha=>by have:=(O3.lt ha).1;show a.block≠w.heap.size+1+1+1;omega) _).drop0 (by omega)
     have HWF:=Lib.hid hWF;clear hWF;have HDF:=Lib.hid hDF;clear hDF hDc hZc hEc hBc;go_wp2_with fail
     rw[←HWF.out];clear z0 z1 z2 y0;refine⟨by simp,.inl ⟨_,_,rfl,run_takeDeferred HDF.out,?_⟩⟩
     have hZP:BK (WF.putObj D (.deferred none)) (w.heap.size+1+1) 26 #[.slice P1 m1 q1,.slice P2 m2 q2,.slice P3 m3 q3]:=hZF.same (World.putObj_heap_other (by omega))
     have hEP:BK (WF.putObj D (.deferred none)) (w.heap.size+1+1+1) 36 #[.int .i64 0]:=hEF.same (World.putObj_heap_other (by omega))
     have z0:=hZP.cell 0;have z1:=hZP.cell 1;have z2:=hZP.cell 2;have y0:=hEP.cell 0;simp only[List.getElem?_toArray,List.getElem?_cons_zero,List.getElem?_cons_succ]at z0 z1 z2 y0
     refine⟨.tuple #[.agg #[.slice P1 m1 q1,.slice P2 m2 q2,.slice P3 m3 q3],.int .i64 0],?_,⟨fun h=>absurd (HL0.out.symm.trans h) (by simp),fun _ _ hh=>absurd (HGJ.out.symm.trans hh) (by decide),fun L' hL' _=>by(have hLL:=HL0.out.symm.trans hL';cases hLL;exact⟨P1,m1,q1,P2,m2,q2,P3,m3,q3,by rw[HBV.out],r1.keep (fun g hg=>World.putObj_heap_other (HDF.out.ne_row r1 g hg)),r2.keep (fun g hg=>World.putObj_heap_other (HDF.out.ne_row r2 g hg)),r3.keep (fun g hg=>World.putObj_heap_other (HDF.out.ne_row r3 g hg))⟩)⟩,hBF.trans (belowK_b (w:=w) (Nat.le_refl _) WF D _ _ (by omega) HDF.out rfl rfl)⟩
     simp[results,Tryz.results10,go_sem,z0,z1,z2,y0]
   case false=>
     have hbv:cQ P1 m1 q1 P2 m2 q2 P3 m3 q3 ⟨normP L,(mgd (fun x:Crest=>x.pos) bA (aK (fun x:Crest=>x.pos) (R.cs++R2.cs))),(mgd (fun x:Junc=>x.pos) aX (aK (fun x:Junc=>x.pos) (R.js++R2.js)))⟩ = .tuple #[.agg #[.slice none 0 0,.slice none 0 0,.slice none 0 0],.int .i64 4]:=by rw[cQ,hfit,if_neg (by decide)]
     have HBV:=Lib.hid hbv;rw[hbv];clear hbv hfit;have zf:=hZc.frozen;have ef:=hEc.frozen;have zl:=hZc.lt;have el:=hEc.lt;have z0:=hZc.cell 0;have z1:=hZc.cell 1;have z2:=hZc.cell 2;have y0:=hEc.cell 0;simp only[List.getElem?_toArray,List.getElem?_cons_zero,List.getElem?_cons_succ]at z0 z1 z2 y0
     obtain⟨WF,hWF⟩ : ∃WF,WF=(((wc.setCell ⟨w.heap.size+1+1,0,none⟩ (.slice none 0 0)).setCell ⟨w.heap.size+1+1,1,none⟩ (.slice none 0 0)).setCell ⟨w.heap.size+1+1,2,none⟩ (.slice none 0 0)).setCell ⟨w.heap.size+1+1+1,0,none⟩ (.int .i64 4):=⟨_,rfl⟩
     have hZF:BK WF (w.heap.size+1+1) 26 #[.slice none 0 0,.slice none 0 0,.slice none 0 0]:=by rw[hWF];exact(((hZc.set_ 0 _).set_ 1 _).set_ 2 _).far (p:=⟨w.heap.size+1+1+1,0,none⟩) (by simp) _
     have hEF:BK WF (w.heap.size+1+1+1) 36 #[.int .i64 4]:=by rw[hWF];exact(((hEc.far (p:=⟨w.heap.size+1+1,0,none⟩) (by simp) _).far (p:=⟨w.heap.size+1+1,1,none⟩) (by simp) _).far (p:=⟨w.heap.size+1+1,2,none⟩) (by simp) _).set_ 0 _
     have hDF:DK WF D:=by rw[hWF];exact(((hDc.far (p:=⟨w.heap.size+1+1,0,none⟩) (show D≠w.heap.size+1+1 by omega) _).far (p:=⟨w.heap.size+1+1,1,none⟩) (show D≠w.heap.size+1+1 by omega) _).far (p:=⟨w.heap.size+1+1,2,none⟩) (show D≠w.heap.size+1+1 by omega) _).far (p:=⟨w.heap.size+1+1+1,0,none⟩) (show D≠w.heap.size+1+1+1 by omega) _
     have hBF:Below w.heap.size w WF:=by rw[hWF];exact(((hBc.setCell (p:=⟨w.heap.size+1+1,0,none⟩) (by simp<;>omega) _).setCell (p:=⟨w.heap.size+1+1,1,none⟩) (by simp<;>omega) _).setCell (p:=⟨w.heap.size+1+1,2,none⟩) (by simp<;>omega) _).setCell (p:=⟨w.heap.size+1+1+1,0,none⟩) (by simp<;>omega) _
     have r1:OW pC 5 112 w.heap.size WF P1 m1 q1 (normP L):=by rw[hWF];exact((((O1.setCell (p:=⟨w.heap.size+1+1,0,none⟩) (fun a ha=>by have:=(O1.lt ha).1;show a.block≠w.heap.size+1+1;omega) _).setCell (p:=⟨w.heap.size+1+1,1,none⟩) (fun a ha=>by have:=(O1.lt ha).1;show a.block≠w.heap.size+1+1;omega) _).setCell (p:=⟨w.heap.size+1+1,2,none⟩) (fun a ha=>by have:=(O1.lt ha).1;show a.block≠w.heap.size+1+1;omega) _).setCell (p:=⟨w.heap.size+1+1+1,0,none⟩) (fun a ha=>by have:=(O1.lt ha).1;show a.block≠w.heap.size+1+1+1;omega) _).drop0 (by omega)
     have r2:OW cC 2 52 w.heap.size WF P2 m2 q2 (mgd (fun x:Crest=>x.pos) bA (aK (fun x:Crest=>x.pos) (R.cs++R2.cs))):=by rw[hWF];exact((((O2.setCell (p:=⟨w.heap.size+1+1,0,none⟩) (fun a ha=>by have:=(O2.lt ha).1;show a.block≠w.heap.size+1+1;omega) _).setCell (p:=⟨w.heap.size+1+1,1,none⟩) (fun a ha=>by have:=(O2.lt ha).1;show a.block≠w.heap.size+1+1;omega) _).setCell (p:=⟨w.heap.size+1+1,2,none⟩) (fun a ha=>by have:=(O2.lt ha).1;show a.block≠w.heap.size+1+1;omega) _).setCell (p:=⟨w.heap.size+1+1+1,0,none⟩) (fun a ha=>by have:=(O2.lt ha).1;show a.block≠w.heap.size+1+1+1;omega) _).drop0 (by omega)
     have r3:OW jC 3 54 w.heap.size WF P3 m3 q3 (mgd (fun x:Junc=>x.pos) aX (aK (fun x:Junc=>x.pos) (R.js++R2.js))):=by rw[hWF];exact((((O3.setCell (p:=⟨w.heap.size+1+1,0,none⟩) (fun a ha=>by have:=(O3.lt ha).1;show a.block≠w.heap.size+1+1;omega) _).setCell (p:=⟨w.heap.size+1+1,1,none⟩) (fun a ha=>by have:=(O3.lt ha).1;show a.block≠w.heap.size+1+1;omega) _).setCell (p:=⟨w.heap.size+1+1,2,none⟩) (fun a ha=>by have:=(O3.lt ha).1;show a.block≠w.heap.size+1+1;omega) _).setCell (p:=⟨w.heap.size+1+1+1,0,none⟩) (fun a ha=>by have:=(O3.lt ha).1;show a.block≠w.heap.size+1+1+1;omega) _).drop0 (by omega)
     have HWF:=Lib.hid hWF;clear hWF;have HDF:=Lib.hid hDF;clear hDF hDc hZc hEc hBc;go_wp2_with fail
     rw[←HWF.out];clear z0 z1 z2 y0;refine⟨by simp,.inl ⟨_,_,rfl,run_takeDeferred HDF.out,?_⟩⟩
     have hZP:BK (WF.putObj D (.deferred none)) (w.heap.size+1+1) 26 #[.slice none 0 0,.slice none 0 0,.slice none 0 0]:=hZF.same (World.putObj_heap_other (by omega))
     have hEP:BK (WF.putObj D (.deferred none)) (w.heap.size+1+1+1) 36 #[.int .i64 4]:=hEF.same (World.putObj_heap_other (by omega))
     have z0:=hZP.cell 0;have z1:=hZP.cell 1;have z2:=hZP.cell 2;have y0:=hEP.cell 0;simp only[List.getElem?_toArray,List.getElem?_cons_zero,List.getElem?_cons_succ]at z0 z1 z2 y0
     refine⟨.tuple #[.agg #[.slice none 0 0,.slice none 0 0,.slice none 0 0],.int .i64 4],?_,⟨fun h=>absurd (HL0.out.symm.trans h) (by simp),fun _ _ hh=>absurd (HGJ.out.symm.trans hh) (by decide),fun L' hL' _=>by(have hLL:=HL0.out.symm.trans hL';cases hLL;exact⟨P1,m1,q1,P2,m2,q2,P3,m3,q3,by rw[HBV.out],r1.keep (fun g hg=>World.putObj_heap_other (HDF.out.ne_row r1 g hg)),r2.keep (fun g hg=>World.putObj_heap_other (HDF.out.ne_row r2 g hg)),r3.keep (fun g hg=>World.putObj_heap_other (HDF.out.ne_row r3 g hg))⟩)⟩,hBF.trans (belowK_b (w:=w) (Nat.le_refl _) WF D _ _ (by omega) HDF.out rfl rfl)⟩
     simp[results,Tryz.results10,go_sem,z0,z1,z2,y0]
theorem aCE (pa:Option Addr) (pn pc:Nat) (ca:Option Addr) (cn cc:Nat) (ja:Option Addr) (jn jc:Nat) (R:Road) (pa2:Option Addr) (pn2 pc2:Nat) (ca2:Option Addr) (cn2 cc2:Nat) (ja2:Option Addr) (jn2 jc2:Nat) (R2:Road) (w:World)
  (h:RD w w.heap.size pa pn ca cn ja jn R) (h2:RD w w.heap.size pa2 pn2 ca2 cn2 ja2 jn2 R2) (hv:OK R) (hv2:OK R2) (hs:sumL R.ps=sumL R2.ps) (hsm:R.ps.length+R2.ps.length≤2000) :
  Calls Tryz.prog 10 #[.agg #[.slice pa pn pc,.slice ca cn cc,.slice ja jn jc],.agg #[.slice pa2 pn2 pc2,.slice ca2 cn2 cc2,.slice ja2 jn2 jc2]] w fun e w'=>
   ((sfM (strL R.ps R2.ps)=none→e = .returned (.tuple #[.agg #[.slice none 0 0,.slice none 0 0,.slice none 0 0],.int .i64 5]))∧(∀L,sfM (strL R.ps R2.ps)=some L→fH (fun x:Junc=>x.pos) aX okJ (aK (fun x:Junc=>x.pos) (R.js++R2.js))=false→e = .returned (.tuple #[.agg #[.slice none 0 0,.slice none 0 0,.slice none 0 0],.int .i64 5])) ∧
    (∀L,sfM (strL R.ps R2.ps)=some L→fH (fun x:Junc=>x.pos) aX okJ (aK (fun x:Junc=>x.pos) (R.js++R2.js))=true→∃A1 n1 c1 A2 n2 c2 A3 n3 c3,e = .returned (cQ A1 n1 c1 A2 n2 c2 A3 n3 c3 ⟨normP L,mgd (fun x:Crest=>x.pos) bA (aK (fun x:Crest=>x.pos) (R.cs++R2.cs)),mgd (fun x:Junc=>x.pos) aX (aK (fun x:Junc=>x.pos) (R.js++R2.js))⟩) ∧
     (OW pC 5 112 w.heap.size w' A1 n1 c1 (normP L)∧OW cC 2 52 w.heap.size w' A2 n2 c2 (mgd (fun x:Crest=>x.pos) bA (aK (fun x:Crest=>x.pos) (R.cs++R2.cs)))∧OW jC 3 54 w.heap.size w' A3 n3 c3 (mgd (fun x:Junc=>x.pos) aX (aK (fun x:Junc=>x.pos) (R.js++R2.js))))))∧Below w.heap.size w w':=
 callsIn_wide.1 (aDH pa pn pc ca cn cc ja jn jc R pa2 pn2 pc2 ca2 cn2 cc2 ja2 jn2 jc2 R2 w h h2 hv hv2 hs hsm)
end Go.Proofs.YtjlkeoppppfeiaaGreat
