/- Lemmas. -/
import Derived.Test.YtjlkeoppppfeiaaGreatQGrouped
namespace Go.Proofs.YtjlkeoppppfeiaaGreat
open Go.RowKit Go.Shelf Go.Sort Go.Proofs
attribute [local go_sem] Oper.semAt_some
def bds (l:List (Int×Piece)):List Bd:=l.filter fun e=>decide (e.2.turn≠0)
structure Corner where
 fr:Int
 til:Int
 turn:Int
 rad:Int
 inn:Int
 out:Int
 ang:Int
def kC (c:Corner):List Value:=[.int .i64 c.fr,.int .i64 c.til,.int .i64 c.turn,.int .i64 c.rad,.int .i64 c.inn,.int .i64 c.out,.int .i64 c.ang]
def cT (g:List Bd):Int:=(g.map fun e=>trn e.2 e.2.len).sum
def crn (g:List Bd):Corner:=
 match g.head?,g.getLast? with
 |some f,some l=>⟨f.1,l.1+l.2.len,l.2.turn,g.foldl (fun r e=>min r e.2.rad) l.2.rad,f.2.rad,l.2.rad,max (cT g) (-(cT g))⟩
 |_,_=>⟨0,0,0,0,0,0,0⟩
def eR (gap least:Int) (R:Road):List Corner:=((grp gap (bds (its 0 R.ps))).map crn).filter fun c=>decide (least≤c.ang)
def lE (gap least:Int):Bool:=inR gap 0 1000&&inR least 1 10000
theorem aD1 {β:Type} (B g base:Nat) (t e:TypeId) (f:β→List Bd):OwnFrom B (fun s W=>∃A n c,BK W g t #[.slice A n c]∧OW bC 6 e base W A n c (f s)):=by
 intro s W W' row hs hg hr;obtain⟨A,n,c,h1,h2⟩:=hs;refine⟨A,n,c,kP B g t (fun _:Unit=>_) () W W' row h1 hg hr,h2.keep (fun b hb=>hg.block b.block (h2.lt hb).2 (fun e=>?_))⟩
 obtain⟨_,o,ho,hc⟩:=hr _ e.symm;subst hb;rcases h2.1.2 with⟨h3,_⟩|⟨g',cap,cur,h3,_,hg',_⟩
 ·cases h3
 ·injection h3 with h3
  injection h3 with h3
  subst h3;rw[hg']at ho;cases ho
  cases hc
theorem App1.keeps {α:Type} {f:α→List Value} {sz:Nat} {e:TypeId} {base:Nat} {W w':World} {A:Option Addr} {n c g c':Nat} {xs:List α} {y:α} (hown:OW f sz e base W A n c xs) (h:App1 f sz e base W A n c xs y g c' w') (B:Nat):KeepsFrom B W w':=by
 refine⟨h.size,fun k o _ hk ho=>(h.far k (Array.getElem?_eq_some_iff.1 hk).1 (fun b hb e=>?_)).trans hk⟩
 subst hb;rcases hown.1.2 with⟨h3,_⟩|⟨g',cap,cur,h3,_,hg',_⟩
 ·cases h3
 ·injection h3 with h3
  injection h3 with h3
  subst h3;subst e;rw[hg']at hk;cases hk
  cases ho
theorem oH:∀(ps:List Piece) (b:Int) (e:Int×Piece),(∀p∈ps,0≤p.len)→e∈its b ps→b≤e.1∧e.1+e.2.len≤b+sumL ps∧e.2∈ps
 | [],_,_,_,h=>by simp[its]at h
 |p::ps,b,e,hk,h=>by
  have hp:=hk p (List.mem_cons_self ..);have hs:0≤sumL ps:=by
   have:∀l:List Piece,(∀p∈l,0≤p.len)→0≤sumL l:=by
    intro l
    induction l with
    |nil=>intro _;simp[sumL]
    |cons q l ih=>
     intro h;have h1:=ih (fun r hr=>h r (List.mem_cons_of_mem _ hr))
     have h2:=h q (List.mem_cons_self ..);have e:sumL (q::l)=q.len+sumL l:=by simp[sumL]
     omega
   exact this ps (fun q hq=>hk q (List.mem_cons_of_mem _ hq))
  have es:sumL (p::ps)=p.len+sumL ps:=by simp[sumL]
  rcases List.mem_cons.1 h with rfl|h
  ·exact⟨Int.le_refl _,by simp only[es];omega,List.mem_cons_self ..⟩
  ·have ih:=oH ps (b+p.len) e (fun q hq=>hk q (List.mem_cons_of_mem _ hq)) h
   exact⟨by omega,by omega,List.mem_cons_of_mem _ ih.2.2⟩
theorem gX {R:Road} (hv:OK R) {e:Bd} (h:e∈bds (its 0 R.ps)):(0≤e.1∧e.1+e.2.len≤sumL R.ps)∧pOk e.2=true∧e.2.turn≠0:=by
 obtain⟨h1,h2⟩:=List.mem_filter.1 h;have:=oH R.ps 0 e (fun p hp=>by have:=aP (hv.pk p hp);omega) h1
 exact⟨⟨by omega,by omega⟩,hv.pk _ this.2.2,by simpa using h2⟩
theorem lF (R:Road):(bds (its 0 R.ps)).length≤R.ps.length:=by
 have:=List.length_filter_le (fun e:Int×Piece=>decide (e.2.turn≠0)) (its 0 R.ps)
 rw[lG]at this;exact this
theorem sM:∀(g:List Bd),(∀e∈g,pOk e.2=true)→-(200000000*(g.length:Int))≤cT g∧cT g≤200000000*(g.length:Int)
 | [],_=>by simp[cT]
 |e::g,h=>by
  have ih:=sM g (fun q hq=>h q (List.mem_cons_of_mem _ hq))
  have hp:=aP (h e (List.mem_cons_self ..));have ht:=wY e.2 e.2.len (by omega) (by omega) (fQ (h e (List.mem_cons_self ..)))
  simp only[cT,List.map_cons,List.sum_cons,List.length_cons]at *;omega
theorem qX (g:List Bd) (e:Bd):cT (g++[e])=cT g+trn e.2 e.2.len:=by simp[cT]
theorem eZ {gap:Int} {l g:List Bd} (hg:g∈grp gap l) {e:Bd} (he:e∈g):e∈l:=by
 have:e∈(grp gap l).flatten:=List.mem_flatten.2 ⟨g,hg,he⟩
 rwa [gH]at this
def iR (r:Int) (g:List Bd):Int:=g.foldl (fun r e=>min r e.2.rad) r
theorem aAJ (r:Int) (g:List Bd) (e:Bd):iR r (g++[e])=min (iR r g) e.2.rad:=by simp[iR]
theorem xB:(Tryz.prog.info? 152).map (fun i=>(i.zero,i.size,i.bytes))=some (some (.agg #[.int .i64 0,.int .i64 0,.int .i64 0,.int .i64 0,.int .i64 0,.int .i64 0,.int .i64 0]),7,56):=by kernel_rfl
theorem aD2 (c:Corner):(kC c).length=7:=rfl
set_option maxRecDepth 100000 in
set_option maxHeartbeats 4000000 in
theorem aAK (gap least:Int) (pa:Option Addr) (pn pc:Nat) (ca:Option Addr) (cn cc:Nat) (ja:Option Addr) (jn jc:Nat) (R:Road) (w:World)
  (h:RD w w.heap.size pa pn ca cn ja jn R) (hv:OK R) (he:lE gap least=true) :
  CallsIn Fence.wide 6 Tryz.prog 54 #[.agg #[.slice pa pn pc,.slice ca cn cc,.slice ja jn jc],.agg #[.int .i64 gap,.int .i64 least]] w fun e w'=>∃A n c,e = .returned (.tuple #[.slice A n c,.int .i64 0])∧OW kC 7 152 w.heap.size w' A n c (eR gap least R)∧Below w.heap.size w w':=by
 have hR:=Lib.hid h;have hv':=Lib.hid hv;have hpl:=Lib.hid h.p.1;have hpn:pn≤2000:=by rw[h.p.1];exact hv.p2
 have hc:=Lib.hid (oZ hv);simp only[lE,Bool.and_eq_true]at he;obtain⟨hea,heb⟩:=he;have hE1:=Lib.hid hea;have hE2:=Lib.hid heb;simp only[inR,Bool.and_eq_true,decide_eq_true_eq]at hea heb;obtain⟨he1,he2⟩:=hea;obtain⟨he3,he4⟩:=heb;have hmo:Tryz.prog.follows .mixedOrders=true:=by kernel_rfl
 clear h hv;obtain⟨w0,hw0⟩ : ∃w0,w0=(w.alloc (.cells #[.slice pa pn pc,.slice ca cn cc,.slice ja jn jc] 26)).alloc (.cells #[.int .i64 gap,.int .i64 least] 29):=⟨_,rfl⟩
 have hW0:Below w.heap.size w w0:=by rw[hw0];exact((Below.refl w.heap.size w).alloc (Nat.le_refl _) _).alloc (by simp) _
 have b0:BK w0 w.heap.size 26 #[.slice pa pn pc,.slice ca cn cc,.slice ja jn jc]:=by rw[hw0];exact(BK.new w _ _).alloc _
 have b1:BK w0 (w.heap.size+1) 29 #[.int .i64 gap,.int .i64 least]:=by rw[hw0];have:=(BK.new (w.alloc (.cells #[.slice pa pn pc,.slice ca cn cc,.slice ja jn jc] 26)) 29 #[.int .i64 gap,.int .i64 least]);rw[World.size_alloc]at this;exact this
 have hz0:w.heap.size+1<w0.heap.size:=b1.lt;refine callsIn_of_wp_marks Tryz.func54 rfl trivial ?_ rfl
 simp only[Tryz.ntmps54,List.size_toArray,List.length_cons,List.length_nil,Nat.reduceAdd,Nat.reduceSub,Array.replicate_succ,Array.replicate_zero,List.push_toArray,List.append_toArray,List.nil_append,List.cons_append];refine wpIn_wide.2 ?_
 go_wp2_with fail
 rw[←hw0];clear hw0;have r0:=b0.cell 0;have r1:=b0.cell 1;have r2:=b0.cell 2;have r3:=b1.cell 0;have r4:=b1.cell 1;simp only[List.getElem?_toArray,List.getElem?_cons_zero,List.getElem?_cons_succ]at r0 r1 r2 r3 r4
 refine(fD _ _ _ _ _ _ _ _ _ R _ (hR.out.grow hW0 hW0.size)).mono ?_
 rintro e w1 ⟨rfl,hb1⟩;rw[hc.out];have hB1:=onto hW0 hb1 hW0.size;have B1:=b1.below hb1 b1.lt;have r0':=(bc hb1 b0.lt).trans r0;have r1':=(bc hb1 b0.lt).trans r1;have r2':=(bc hb1 b0.lt).trans r2;have r3':=(bc hb1 b1.lt).trans r3;have r4':=(bc hb1 b1.lt).trans r4;clear r0 r1 r2 r3 r4;go_wp2_with fail
 refine(aW _ _ _ _).mono ?_
 rintro e w3 ⟨rfl,rfl⟩;rw[hE1.out];go_wp2_with fail
 refine(aW _ _ _ _).mono ?_
 rintro e w3 ⟨rfl,rfl⟩;rw[hE2.out];go_wp2_with fail
 refine(fR _ _ _ _ _ _ _ _ _ R _ (hR.out.grow hB1 hB1.size) hv'.out.pk (by omega)).mono ?_
 rintro e w2 ⟨g,ba,bq,rfl,hM,hg,hb2⟩;have hM':=Lib.hid hM;have hB2:=onto hB1 hb2 hB1.size;have B2:=B1.below hb2 B1.lt;have hz1:=Nat.lt_of_lt_of_le hz0 hb1.size;have hz2:=Nat.lt_of_lt_of_le hz1 hb2.size;clear hM r0' r1' r2' r3' r4';go_wp2_with fail
 refine(aC2 g _).mono ?_
 rintro e w8 ⟨rfl,rfl⟩;go_wp2_with fail
 obtain⟨W0,hW0'⟩ : ∃W0,W0=(w2.alloc (.cells #[.slice none 0 0] 241)).alloc (.cells #[.pointer (some ⟨g,0,none⟩)] 119):=⟨_,rfl⟩
 have e0:BK W0 w2.heap.size 241 #[.slice none 0 0]:=by rw[hW0'];exact(BK.new w2 _ _).alloc _
 have e1:BK W0 (w2.heap.size+1) 119 #[.pointer (some ⟨g,0,none⟩)]:=by rw[hW0'];have:=(BK.new (w2.alloc (.cells #[.slice none 0 0] 241)) 119 #[.pointer (some ⟨g,0,none⟩)]);rw[World.size_alloc]at this;exact this
 have hsz:W0.heap.size=w2.heap.size+2:=by rw[hW0'];simp
 have hB0:Below w2.heap.size w2 W0:=by rw[hW0'];exact((Below.refl _ w2).alloc (Nat.le_refl _) _).alloc (by simp) _
 rw[←hW0'];have HS:=Lib.hid hsz;clear hW0' hsz;refine(wpIn_wide (n:=5)).1 ?_
 refine wpIn_rangeFunc_ownH (α:=BP) rfl (by omega) (gf:=191) (lb:=#[.pointer (some ⟨w2.heap.size+1,0,none⟩)]) rfl trivial (enters_of Tryz.func191 (by kernel_rfl) rfl)
  (aAO 4 (by omega) (w2.heap.size+1) w2.heap.size g pa pn pc ca cn cc ja jn jc ba bq R (by omega) hv'.out.pk W0 (e1.cell 0) (by have:=HS.out;omega) hB0.size (hM'.out.grow hB0 (Nat.le_refl _))) KB.t (KB.b hB0.size (by have:=HS.out;omega)) (Below.refl _ _) (fun _=>rfl)
  (fun pre W=>(∃A n c,BK W w2.heap.size 241 #[.slice A n c]∧OW bC 6 246 (w2.heap.size+2) W A n c (bds (pre.map (·.1))))∧Since w2 W0.heap.size W)
  (fun _ _ _=>False)
  (OwnFrom.and (aD1 _ _ _ _ _ (fun pre:List BP=>bds (pre.map (·.1)))) (eP hB0.size))
  (fun c s A B row hs hg hr=>hs.elim)
  ⟨⟨none,0,0,e0,OW.nil_⟩,hB0,Nat.le_refl _⟩
  (fun e a' W=>∃Bx,w2.heap.size+1<Bx∧BK W Bx 112 (pC e.1.2).toArray∧a'={ tmps:=#[.agg #[.slice pa pn pc,.slice ca cn cc,.slice ja jn jc],.agg #[.int .i64 gap,.int .i64 least],.pointer (some ⟨w.heap.size,0,none⟩),.pointer (some ⟨w.heap.size+1,0,none⟩),.slice none 0 0,.int .i64 0,.pointer (some ⟨g,0,none⟩),.pointer (some ⟨w2.heap.size,0,none⟩),.int .i64 e.1.1,.pointer (some ⟨Bx,0,none⟩),undef,undef,undef,undef,undef,undef,undef,undef,.agg #[.slice pa pn pc,.slice ca cn cc,.slice ja jn jc],.int .i64 0,.bool false,.bool false,.pointer (some ⟨w.heap.size+1,0,none⟩),.int .i64 gap,.bool true,.bool false,.bool false,.bool false,.pointer (some ⟨w.heap.size+1,1,none⟩),.int .i64 least,.bool true,.bool false,.bool false,.agg #[.slice pa pn pc,.slice ca cn cc,.slice ja jn jc],.pointer (some ⟨g,0,none⟩),.pointer (some ⟨g,0,none⟩),.func (.func 191) #[] #[.pointer (some ⟨w2.heap.size+1,0,none⟩)],.int .i64 e.1.1,.agg #[.int .i64 e.1.2.len,.int .i64 e.1.2.turn,.int .i64 e.1.2.rad,.int .i64 e.1.2.wid,.int .i64 e.1.2.sur],undef,undef,undef,undef,undef,undef,undef,undef,undef,undef,undef,undef,undef,undef,undef,undef,undef,undef,undef,undef,undef,undef,undef,undef,undef,undef,undef,undef,undef,undef,undef,undef,undef,undef,undef,undef,undef,undef,undef,undef,undef,undef,undef,undef,undef,undef,undef,undef,undef,undef,undef,undef,undef,undef,undef,undef,undef,undef,undef,undef,undef,undef,undef,undef,undef,undef,undef,undef,undef,undef,undef,undef,undef,undef,undef,undef,undef,undef,undef,undef,undef,undef,undef,undef,undef,undef],defers:=[] })
  (fun e a' s A B row hs hg hr=>by
   obtain⟨Bx,h1,h2,h3⟩:=hs;exact⟨Bx,h1,kP W0.heap.size _ _ (fun _:Unit=>_) () A B row h2 hg hr,h3⟩) ?assign ?body ?done ?stop
 case assign=>
  intro l pre e W K hI hK;simp only[bpV]
  gi_wp2
  obtain⟨⟨A,n,c,i1,i2⟩,hB⟩:=hI;have hz:=HS.out;have hz2:=hB.2;have hbA:=(Below.refl W.heap.size W).alloc (Nat.le_refl _) (.cells #[.int .i64 e.1.2.len,.int .i64 e.1.2.turn,.int .i64 e.1.2.rad,.int .i64 e.1.2.wid,.int .i64 e.1.2.sur] 112);exact hK _ _ ((KeepsOthers.alloc _ _).from _) (KB.of_below hbA (by omega) (by omega)) ⟨⟨A,n,c,i1.alloc _,i2.alloc _⟩,hB.onto hbA⟩ ⟨W.heap.size,by omega,BK.new W _ _,rfl⟩
 case body=>
  rintro l pre e a' W hlW ⟨r',hr⟩ ⟨⟨A,n,c,i1,i2⟩,hB⟩ ⟨Bx,hBx,bX,rfl⟩ hlt;have hz:w2.heap.size+2≤W0.heap.size:=by have:=HS.out;omega
  have hz2:=hB.2;have c0:=i1.cell 0;have f0:=i1.frozen 0;have x0:=bX.cell 0;have x1:=bX.cell 1;have x2:=bX.cell 2;have x3:=bX.cell 3;have x4:=bX.cell 4;simp only[pC,List.getElem?_toArray,List.getElem?_cons_zero,List.getElem?_cons_succ]at c0 x0 x1 x2 x3 x4
  by_cases ht:e.1.2.turn=0
  ·have hsame:Hid (bds ((pre++[e]).map (·.1))=bds (pre.map (·.1))):=by simp[Hid,bds,ht]
   gi_wp2
   refine⟨KeepsFrom.refl _ _,KB.refl _ _ _,⟨A,n,c,i1,by rw[hsame.out];exact i2⟩,hB⟩
  ·have hnew:Hid (bds ((pre++[e]).map (·.1))=bds (pre.map (·.1))++[e.1]):=by simp[Hid,bds,ht]
   have hnb:n≤pre.length:=by
    have h1:=i2.len;have h2:(bds (pre.map (·.1))).length≤(pre.map (·.1)).length:=List.length_filter_le ..;rw[List.length_map]at h2;omega
   have hN1:BK (W.alloc (.cells #[.int .i64 e.1.2.len,.int .i64 e.1.2.turn,.int .i64 e.1.2.rad,.int .i64 e.1.2.wid,.int .i64 e.1.2.sur,.int .i64 e.1.1] 246)) W.heap.size 246 #[.int .i64 e.1.2.len,.int .i64 e.1.2.turn,.int .i64 e.1.2.rad,.int .i64 e.1.2.wid,.int .i64 e.1.2.sur,.int .i64 e.1.1]:=BK.new W _ _;have hbA:=(Below.refl W.heap.size W).alloc (Nat.le_refl _) (.cells #[.int .i64 e.1.2.len,.int .i64 e.1.2.turn,.int .i64 e.1.2.rad,.int .i64 e.1.2.wid,.int .i64 e.1.2.sur,.int .i64 e.1.1] 246);have i1':=i1.alloc (.cells #[.int .i64 e.1.2.len,.int .i64 e.1.2.turn,.int .i64 e.1.2.rad,.int .i64 e.1.2.wid,.int .i64 e.1.2.sur,.int .i64 e.1.1] 246);have HFZ:Hid (∀w3 g c'',App1 bC 6 246 (w2.heap.size+2) (W.alloc (.cells #[.int .i64 e.1.2.len,.int .i64 e.1.2.turn,.int .i64 e.1.2.rad,.int .i64 e.1.2.wid,.int .i64 e.1.2.sur,.int .i64 e.1.1] 246)) A n c (bds (pre.map (·.1))) e.1 g c'' w3→w3.heap[w2.heap.size]?=(W.alloc (.cells #[.int .i64 e.1.2.len,.int .i64 e.1.2.turn,.int .i64 e.1.2.rad,.int .i64 e.1.2.wid,.int .i64 e.1.2.sur,.int .i64 e.1.1] 246)).heap[w2.heap.size]?):=by
    intro w3 g c'' hap;exact hap.far _ (by simp;omega) (fun b hb=>by have:=(i2.lt hb).1;omega)
   gi_wp2_with (gi_at_builtin;refine fA rfl _ _ 241 rfl (w2.heap.size+2) 246 _ 6 48 Tryz.underlying241 uQ rfl (by decide) bC A n c (bds (pre.map (·.1))) rfl (i2.alloc _) e.1 #[.int .i64 e.1.2.len,.int .i64 e.1.2.turn,.int .i64 e.1.2.rad,.int .i64 e.1.2.wid,.int .i64 e.1.2.sur,.int .i64 e.1.1] rfl rfl 246 W.heap.size rfl hN1 (by simp[bC,pC,Value.oneCell']) (by omega) (by omega) (by simp;omega) ?_;intro g' c' w1 hap;have hw1:=HFZ.out _ _ _ hap;have hm1:=i1'.same hw1;have m0:=hm1.cell 0;have mf:=hm1.frozen 0;have HAP:=Lib.hid hap;clear hap)
   have hap:=HAP.out;have hm2:=hm1.set_ 0 (.slice (some ⟨g',0,none⟩) (n+1) c');have hgl:=(hap.own.lt rfl).1;have hgl2:w2.heap.size+2≤g':=hgl;have hb1':Below (w2.heap.size+2) W w1:=(hbA.mono (by omega)).trans hap.bel
   refine⟨(((KeepsOthers.alloc _ _).from _).trans (hap.keeps (i2.alloc _) _)).trans ((KeepsOthers.setCell _ _ _).from _),(KB.of_below hb1' (by omega) (by omega)).setCell (by simp<;>omega) (by simp<;>omega) _,⟨_,_,_,hm2,?_⟩,⟨(hB.1.trans (hb1'.mono (by omega))).setCell (by simp<;>omega) _,by have h1:=hap.size;simp at h1 ⊢;omega⟩⟩
   rw[hnew.out];exact hap.own.setCell (fun b hb=>by cases hb;show g'≠w2.heap.size;omega) _
 case stop=>exact fun D c pre W hD hk hs hK=>hs.elim
 case done=>
  rintro D ys W hD hys ⟨⟨A,n,c,i1,i2⟩,hB⟩ hK;rw[hys]at i2;clear hys;have c0:=i1.cell 0;simp only[List.getElem?_toArray,List.getElem?_cons_zero]at c0
  go_wp2_with fail
  have B3:=B2.below hB.1 hz2;refine(uR gap (w.heap.size+1) A n c (bds (its 0 R.ps)) W (i2.sl xE) (B3.cell 0) (fun e he=>?_) ?_).mono ?_
  ·have:=gX hv'.out he
   have h2:=aP this.2.1;have h3:=hv'.out.n1;omega
  ·have:=lF R
   have h1:=i2.len;have h2:=hpl.out;omega
  rintro e W3 ⟨A',n',c',gs,rfl,hG,hgs,hb3⟩;have hGS:=Lib.hid hgs;have B4:=B3.below hb3 B3.lt;have r4:=B4.cell 1;simp only[List.getElem?_toArray,List.getElem?_cons_zero,List.getElem?_cons_succ]at r4
  have hz4:=B4.lt;have hKD:=Lib.hid hK;clear hgs hK c0 B3 i1;have hn':n'≤2000:=by
   have h1:=hG.out.len;have h2:=congrArg List.length hGS.out;have h3:=sQ gap (bds (its 0 R.ps));have h4:=lF R;have h5:=hpl.out;simp only[List.length_map]at h1 h2;omega
  have HZ:=Lib.hid hz4;go_wp2_with fail
  go_loopw [10,52] (fun o i wr=>∃(k:Nat) (A1:Option Addr) (n1 c1:Nat),k≤n'∧i = .int .i64 k∧o = .slice A1 n1 c1∧OW kC 7 152 W3.heap.size wr A1 n1 c1 ((((gs.map (·.2)).take k).map crn).filter fun c=>decide (least≤c.ang))∧Below W3.heap.size W3 wr)
   (fun _ i _=>n'-(intOf i).toNat)
  case atStart=>exact⟨0,none,0,0,Nat.zero_le _,rfl,rfl,OW.nil_,Below.refl _ _⟩
  case round=>
   obtain⟨k,A1,n1,c1,hk,rfl,rfl,hO,hb⟩:=hrel;have hsz:=hb.size;by_cases hlt:k<n'
   ·have hkl:k<gs.length:=by have:=hG.out.len;rw[List.length_map]at this;omega
    have hG':=hG.call hb;obtain⟨qq,hqq⟩ : ∃qq,qq=gs[k]:=⟨_,rfl⟩
    obtain⟨⟨gA,gn,gc⟩,gl⟩:=qq;have hqm:gs[k]∈gs:=List.getElem_mem hkl;have hgrp:=hG'.grp _ hqm;have hqk:gs[k]?=some (⟨gA,gn,gc⟩,gl):=by rw[List.getElem?_eq_getElem hkl,hqq]
    rw[←hqq]at hgrp;simp only at hgrp;obtain⟨hOg,hne⟩:=hgrp;obtain⟨a0,hA0⟩ : ∃a0,A'=some a0:=by
     cases A' with
     |none=>have:=hG.out.none_.1;omega
     |some a0=>exact⟨a0,rfl⟩
    obtain⟨b0',rfl,hb0,hbb0,hfz,hrow⟩:=hG'.out.at_ mM a0 hA0;have hh0:=hrow k ⟨gA,gn,gc⟩ (by rw[List.getElem?_map,hqk];rfl) 0 _ rfl
    have hh:wr.cell? ⟨b0',k,none⟩=some (.slice gA gn gc):=by rw[←hh0];congr 1;simp
    clear hh0 hrow hfz;have hgn:=hOg.len;have hgpos:0<gn:=by rw[hgn];exact List.length_pos_iff.2 hne
    obtain⟨a1,hA1⟩ : ∃a1,gA=some a1:=by
     cases gA with
     |none=>have:=hOg.none_.1;omega
     |some a1=>exact⟨a1,rfl⟩
    obtain⟨gb,rfl,hgb0,hgbb,hfz,hrow⟩:=hOg.at_ xE a1 hA1;have hglm:gl∈grp gap (bds (its 0 R.ps)):=by
     rw[←hGS.out];exact List.mem_map.2 ⟨_,List.mem_iff_getElem?.2 ⟨k,hqk⟩,rfl⟩
    have hgok:Hid (∀e∈gl,(0≤e.1∧e.1≤100000)∧pOk e.2=true):=fun e he=>by
     have h1:=gX hv'.out (eZ hglm he);have h2:=aP h1.2.1;have h3:=hv'.out.n1;exact⟨by omega,h1.2.1⟩
    have hgln:gn≤2000:=by
     have h1:=o0 gap _ hglm;have h2:=lF R;have h3:=hpl.out;omega
    obtain⟨x0,gt,hx0⟩ : ∃x0 gt,gl=x0::gt:=by
     cases gl with
     |nil=>exact absurd rfl hne
     |cons x gt=>exact⟨x,gt,rfl⟩
    obtain⟨gi,xl,hxl⟩ : ∃gi xl,gl=gi++[xl]:=⟨gl.dropLast,gl.getLast hne,(List.dropLast_concat_getLast hne).symm⟩
    have HX0:=Lib.hid hx0;have HXL:=Lib.hid hxl;have hgi:gi.length=gn-1:=by rw[hgn,hxl];simp
    have hat0:gl[0]?=some x0:=by rw[hx0];rfl
    have hatl:gl[gn-1]?=some xl:=by rw[hxl,←hgi];simp
    have hcrn:Hid (crn gl=⟨x0.1,xl.1+xl.2.len,xl.2.turn,iR xl.2.rad gl,x0.2.rad,xl.2.rad,max (cT gl) (-(cT gl))⟩):=by
     have h1:gl.head?=some x0:=by rw[hx0];rfl
     have h2:gl.getLast?=some xl:=by rw[hxl];simp
     show crn gl=_
     unfold crn;rw[h1,h2]
     rfl
    have f5:wr.cell? ⟨gb,5,none⟩=some (.int .i64 x0.1):=by have:=hrow 0 x0 hat0 5 _ rfl;simpa using this
    have f2:wr.cell? ⟨gb,2,none⟩=some (.int .i64 x0.2.rad):=by have:=hrow 0 x0 hat0 2 _ rfl;simpa using this
    have hadr:∀j,(0+(gn-1)*6+j)=(gn-1)*6+j:=fun j=>by omega
    have l0:wr.cell? ⟨gb,(gn-1)*6,none⟩=some (.int .i64 xl.2.len):=by have:=hrow _ xl hatl 0 _ rfl;rw[hadr]at this;exact this
    have l1:wr.cell? ⟨gb,(gn-1)*6+1,none⟩=some (.int .i64 xl.2.turn):=by have:=hrow _ xl hatl 1 _ rfl;rw[hadr]at this;exact this
    have l2:wr.cell? ⟨gb,(gn-1)*6+2,none⟩=some (.int .i64 xl.2.rad):=by have:=hrow _ xl hatl 2 _ rfl;rw[hadr]at this;exact this
    have l3:wr.cell? ⟨gb,(gn-1)*6+3,none⟩=some (.int .i64 xl.2.wid):=by have:=hrow _ xl hatl 3 _ rfl;rw[hadr]at this;exact this
    have l4:wr.cell? ⟨gb,(gn-1)*6+4,none⟩=some (.int .i64 xl.2.sur):=by have:=hrow _ xl hatl 4 _ rfl;rw[hadr]at this;exact this
    have l5:wr.cell? ⟨gb,(gn-1)*6+5,none⟩=some (.int .i64 xl.1):=by have:=hrow _ xl hatl 5 _ rfl;rw[hadr]at this;exact this
    have hxlb:=hgok.out xl (by rw[hxl];simp)
    have hxll:=aP hxlb.2;obtain⟨⟨hx1,hx2⟩,-⟩:=hxlb;obtain⟨hx3,hx4⟩:=hxll;have hi1:(1:Int)≤(gn:Int):=by omega
    have hi2:(gn:Int)-1<gn:=by omega
    have hi3:((gn:Int)-1).toNat=gn-1:=by omega
    have hwn:IntKind.i64.wrap ((gn:Int)-1)=(gn:Int)-1:=IntWalk.i64_in _ (by omega)
    have HGN:=Lib.hid hgn;subst hA0;subst hA1;have hqk:=Lib.hid hqk;clear hx0 hxl hgi hat0 hatl hgn hadr hqq hne hqm;go_wp2_with fail
    obtain⟨w4,hw4⟩ : ∃w4,w4=wr.alloc (.cells #[.int .i64 xl.2.len,.int .i64 xl.2.turn,.int .i64 xl.2.rad,.int .i64 xl.2.wid,.int .i64 xl.2.sur,.int .i64 xl.1] 246):=⟨_,rfl⟩
    have hb4:Below wr.heap.size wr w4:=by rw[hw4];exact(Below.refl _ _).alloc (Nat.le_refl _) _
    have b4:BK w4 wr.heap.size 246 #[.int .i64 xl.2.len,.int .i64 xl.2.turn,.int .i64 xl.2.rad,.int .i64 xl.2.wid,.int .i64 xl.2.sur,.int .i64 xl.1]:=by rw[hw4];exact BK.new wr _ _
    rw[←hw4];clear hw4 l0 l1 l2 l3 l4 l5 hi1 hi2 hi3 hwn
    replace f5:=(bc hb4 hgb0).trans f5
    replace f2:=(bc hb4 hgb0).trans f2
    have l0:=b4.cell 0;have l1:=b4.cell 1;have l2:=b4.cell 2;have l5:=b4.cell 5;simp only[List.getElem?_toArray,List.getElem?_cons_zero,List.getElem?_cons_succ]at l0 l1 l2 l5
    have q0:=fun d os=>cell_regrown f5 d os
    have q1:=fun d os=>cell_regrown f2 d os
    have q2:=fun d os=>cell_regrown l0 d os
    have q3:=fun d os=>cell_regrown l1 d os
    have q4:=fun d os=>cell_regrown l2 d os
    have q5:=fun d os=>cell_regrown l5 d os
    have hws:IntKind.i64.wrap (xl.1+xl.2.len)=xl.1+xl.2.len:=IntWalk.i64_in _ (by omega)
    have hgni:(0:Int)<(gn:Int):=by omega
    refine qN 25 152 #[.int .i64 0,.int .i64 0,.int .i64 0,.int .i64 0,.int .i64 0,.int .i64 0,.int .i64 0] 14 _ hmo rfl rfl rfl (fun a w=>rfl) (by kernel_rfl) ?_
    simp only[List.take_succ_cons,List.take_zero,List.drop_succ_cons,List.drop_zero]
    repeat (refine vV (fun K hK=>?_);go_simp;first|(refine hK _ ?_;clear hK K)|(apply Exists.intro;refine⟨fun _=>?_,hK _ ?_⟩;(fail);clear hK K))
    refine yF ?_
    intro tb w5 hb5 htb hk5;clear q0 q1 q2 q3 q4 q5 hws;have s0:=hk5.cell 0;have s1:=hk5.cell 1;have s2:=hk5.cell 2;have s3:=hk5.cell 3;have s4:=hk5.cell 4;have s5:=hk5.cell 5;have s6:=hk5.cell 6;have hf:=hk5.frozen;simp only[List.getElem?_toArray,List.getElem?_cons_zero,List.getElem?_cons_succ]at s0 s1 s2 s3 s4 s5 s6
    go_wp2_with fail
    obtain⟨w6,hw6⟩ : ∃w6,w6=((((((w5.setCell ⟨tb,0,none⟩ (.int .i64 x0.1)).setCell ⟨tb,1,none⟩ (.int .i64 (xl.1+xl.2.len))).setCell ⟨tb,2,none⟩ (.int .i64 xl.2.turn)).setCell ⟨tb,3,none⟩ (.int .i64 xl.2.rad)).setCell ⟨tb,4,none⟩ (.int .i64 x0.2.rad)).setCell ⟨tb,5,none⟩ (.int .i64 xl.2.rad)).setCell ⟨tb,6,none⟩ (.int .i64 0):=⟨_,rfl⟩
    have hk6:BK w6 tb 152 #[.int .i64 x0.1,.int .i64 (xl.1+xl.2.len),.int .i64 xl.2.turn,.int .i64 xl.2.rad,.int .i64 x0.2.rad,.int .i64 xl.2.rad,.int .i64 0]:=by
     rw[hw6];exact(((((((hk5.set_ 0 _).set_ 1 _).set_ 2 _).set_ 3 _).set_ 4 _).set_ 5 _).set_ 6 _)
    have htb':wr.heap.size≤tb:=Nat.le_trans hb4.size htb;have hb6:Below wr.heap.size wr w6:=by
     rw[hw6];exact((((((((onto hb4 hb5 hb4.size).setCell htb' _).setCell htb' _).setCell htb' _).setCell htb' _).setCell htb' _).setCell htb' _).setCell htb' _)
    rw[←hw6];clear hw6 hb5 hk5 s0 s1 s2 s3 s4 s5 s6 hf b4 htb l0 l1 l2 l5 f5 f2 hb4 hh;have hO6:=hOg.call hb6;have hz6:=hb6.size;have HA0:Hid (cT (gl.take 0)=0):=by simp[Hid,cT]
    obtain⟨wo,rfl⟩ : ∃wo:World,wo=wr:=⟨_,rfl⟩
    go_loopw [15,89] (fun an i w7=>∃(j:Nat),j≤gn∧i = .int .i64 j∧an = .int .i64 (cT (gl.take j))∧BK w7 tb 152 #[.int .i64 x0.1,.int .i64 (xl.1+xl.2.len),.int .i64 xl.2.turn,.int .i64 (iR xl.2.rad (gl.take j)),.int .i64 x0.2.rad,.int .i64 xl.2.rad,.int .i64 0]∧Below wo.heap.size wo w7∧w6.heap.size≤w7.heap.size)
     (fun _ i _=>gn-(intOf i).toNat)
    case atStart=>exact⟨0,Nat.zero_le _,rfl,by rw[HA0.out],hk6,hb6,Nat.le_refl _⟩
    case round=>
     obtain⟨j,hj,rfl,rfl,hk7,hb7,hz7⟩:=hrel;have hangb:=sM (gl.take j) (fun e he=>(hgok.out e (List.mem_of_mem_take he)).2)
     have htl:(gl.take j).length≤j:=List.length_take_le ..;by_cases hjl:j<gn
     ·have hjl':j<gl.length:=by have:=HGN.out;omega
      have hO7:=hOg.call hb7;obtain⟨b1',hb1',hg0',_,hfz',hrow'⟩:=hO7.at_ xE _ rfl;cases hb1'
      have hgj:gl[j]?=some gl[j]:=List.getElem?_eq_getElem hjl'
      have hadj:∀i,(0+j*6+i)=j*6+i:=fun i=>by omega
      have x0':=hrow' j _ hgj 0 _ rfl;have x1':=hrow' j _ hgj 1 _ rfl;have x2':=hrow' j _ hgj 2 _ rfl;have x3':=hrow' j _ hgj 3 _ rfl;have x4':=hrow' j _ hgj 4 _ rfl;have x5':=hrow' j _ hgj 5 _ rfl;rw[hadj]at x0' x1' x2' x3' x4' x5';rw[Nat.add_zero]at x0';have hyok:=hgok.out _ (List.mem_iff_getElem?.2 ⟨j,hgj⟩);have htk:gl.take (j+1)=gl.take j++[gl[j]]:=by rw[List.take_add_one,hgj];rfl
      have hAn:Hid (cT (gl.take (j+1))=cT (gl.take j)+trn gl[j].2 gl[j].2.len):=by rw[htk];exact qX _ _
      have hMn:Hid (iR xl.2.rad (gl.take (j+1))=min (iR xl.2.rad (gl.take j)) gl[j].2.rad):=by rw[htk];exact aAJ _ _ _
      generalize gl[j]'hjl'=y at x0' x1' x2' x3' x4' x5' hyok hAn hMn
      obtain⟨-,hyok⟩:=hyok;have hyl:=aP hyok;obtain⟨S,hS⟩ : ∃S,S=cT (gl.take j):=⟨_,rfl⟩
      obtain⟨M,hM⟩ : ∃M,M=iR xl.2.rad (gl.take j):=⟨_,rfl⟩
      rw[←hS]at hangb hAn ⊢;rw[←hM]at hMn hk7;obtain⟨T,hT1⟩ : ∃T,T=trn y.2 y.2.len:=⟨_,rfl⟩
      have hTb:=wY y.2 y.2.len (by omega) (by omega) (fQ hyok)
      rw[←hT1]at hTb hAn;have HT:=Lib.hid (fun W':World=>hT1▸xG y.2 y.2.len W' (by omega) (by omega) (fQ hyok))
      obtain⟨hs1,hs2⟩:=hangb;obtain⟨ht1,ht2⟩:=hTb;have hs1' : -400000000000≤S:=by omega
      have hs2':S≤400000000000:=by omega
      have m3:=hk7.cell 3;have mf:=hk7.frozen 3;have htb7:=hk7.lt;simp only[List.getElem?_toArray,List.getElem?_cons_zero,List.getElem?_cons_succ]at m3
      clear hS hM hT1 hgj htk hadj hrow' hfz';by_cases hmn:y.2.rad<M
      ·have hMv:Hid (iR xl.2.rad (gl.take (j+1))=y.2.rad):=by rw[hMn.out];show _=_;omega
       clear hMn;go_wp2_with fail
       refine(HT.out _).mono ?_
       rintro e w8 ⟨rfl,hb8⟩;have hk8:=BK.below ((hk7.set_ 3 _).alloc _) hb8 (by simp;omega)
       have hb8':Below wo.heap.size wo w8:=((hb7.setCell htb' _).alloc (by simp;omega) _).trans (hb8.mono (by simp;omega))
       have hz8:=hb8.size;simp at hz8;clear hb8;go_wp2_with fail
       go_roundw
       case rel=>exact⟨j+1,by omega,by go_num,by rw[hAn.out],by rw[hMv.out];exact hk8,hb8',by omega⟩
       case measure=>simp[intOf];omega
      ·have hMv:Hid (iR xl.2.rad (gl.take (j+1))=M):=by rw[hMn.out];show _=_;omega
       clear hMn;go_wp2_with fail
       refine(HT.out _).mono ?_
       rintro e w8 ⟨rfl,hb8⟩;have hk8:=BK.below ((hk7.set_ 3 _).alloc _) hb8 (by simp;omega)
       have hb8':Below wo.heap.size wo w8:=((hb7.setCell htb' _).alloc (by simp;omega) _).trans (hb8.mono (by simp;omega))
       have hz8:=hb8.size;simp at hz8;clear hb8;go_wp2_with fail
       go_roundw
       case rel=>exact⟨j+1,by omega,by go_num,by rw[hAn.out],by rw[hMv.out];exact hk8,hb8',by omega⟩
       case measure=>simp[intOf];omega
     ·obtain rfl:j=gn:=by omega
      have htk:gl.take j=gl:=by rw[HGN.out,List.take_length]
      obtain⟨S,hS⟩ : ∃S,S=cT (gl.take j):=⟨_,rfl⟩
      obtain⟨M,hM⟩ : ∃M,M=iR xl.2.rad (gl.take j):=⟨_,rfl⟩
      obtain⟨G,hG1⟩ : ∃G,G=max S (-S):=⟨_,rfl⟩
      have hcr:Hid (crn gl=⟨x0.1,xl.1+xl.2.len,xl.2.turn,M,x0.2.rad,xl.2.rad,G⟩):=by
       rw[hcrn.out,hG1,hM,hS,htk];exact rfl
      rw[←hS]at hangb ⊢;rw[←hM]at hk7;obtain⟨hs1,hs2⟩:=hangb;have hs1' : -400000000000≤S:=by omega
      have hs2':S≤400000000000:=by omega
      have hnk:Hid (((gs.map (·.2)).take (k+1)).map crn=((gs.map (·.2)).take k).map crn++[crn gl]):=by
       have h1:(gs.map (·.2))[k]?=some gl:=by rw[List.getElem?_map,hqk.out];rfl
       rw[List.take_add_one,h1];simp[Hid]
      have hf6:=hk7.frozen 6;have m0:=hk7.cell 0;have m1:=hk7.cell 1;have m2:=hk7.cell 2;have m3:=hk7.cell 3;have m4:=hk7.cell 4;have m5:=hk7.cell 5;have m6:=hk7.cell 6;simp only[List.getElem?_toArray,List.getElem?_cons_zero,List.getElem?_cons_succ]at m0 m1 m2 m3 m4 m5 m6
      have htb7:=hk7.lt;have r4':=(bc (onto hb hb7 hb.size) HZ.out).trans r4;have hsb:w.heap.size+1<tb:=by have:=HZ.out;omega
      clear hS hM htk hfz hrow;have hite:(if S < -S then -S else S)=G:=by rw[hG1];split<;>omega
      have hwS:IntKind.i64.wrap (-S) = -S:=IntWalk.i64_in _ (by omega)
      have hG2:0≤G∧G≤400000000000:=by omega
      clear hG1;have HC:Hid (∀cs,cs=((gs.map (·.2)).take k).map crn→((((gs.map (·.2)).take (k+1)).map crn).filter fun c=>decide (least≤c.ang))=(cs.filter fun c=>decide (least≤c.ang))++(if least≤G then [crn gl] else [])):=by
       intro cs hcs;rw[hnk.out,List.filter_append,hcs]
       congr 1
       rw[hcr.out];by_cases hle:least≤G<;>simp[hle]
      have hbs:Below W3.heap.size W3 (wr.setCell ⟨tb,6,none⟩ (.int .i64 G)):=(onto hb hb7 hb.size).setCell (show W3.heap.size≤tb by omega) _
      have hOs:OW kC 7 152 W3.heap.size (wr.setCell ⟨tb,6,none⟩ (.int .i64 G)) A1 n1 c1 ((((gs.map (·.2)).take k).map crn).filter fun c=>decide (least≤c.ang)):=
       (hO.call hb7).setCell (fun b hb=>by have:=(hO.lt hb).2;show b.block≠tb;omega) _
      have hn1:n1≤k:=by
       have h1:=hO.len;have h2:=List.length_filter_le (fun c:Corner=>decide (least≤c.ang)) (((gs.map (·.2)).take k).map crn)
       have h3:(((gs.map (·.2)).take k).map crn).length≤k:=by rw[List.length_map];exact List.length_take_le ..
       omega
      by_cases hle:least≤G
      ·have hnew:Hid (((((gs.map (·.2)).take (k+1)).map crn).filter fun c=>decide (least≤c.ang))=((((gs.map (·.2)).take k).map crn).filter fun c=>decide (least≤c.ang))++[⟨x0.1,xl.1+xl.2.len,xl.2.turn,M,x0.2.rad,xl.2.rad,G⟩]):=by
        rw[HC.out _ rfl,if_pos hle,hcr.out];exact rfl
       have hN1:=BK.new (wr.setCell ⟨tb,6,none⟩ (.int .i64 G)) 152 #[.int .i64 x0.1,.int .i64 (xl.1+xl.2.len),.int .i64 xl.2.turn,.int .i64 M,.int .i64 x0.2.rad,.int .i64 xl.2.rad,.int .i64 G];rw[World.size_setCell]at hN1;clear HC hcr hcrn hnk;go_wp2_with(at_builtin;refine aT rfl _ _ 148 rfl W3.heap.size 152 _ 7 56 Tryz.underlying148 xB rfl (by decide) kC A1 n1 c1 _ rfl (hOs.alloc _) ⟨x0.1,xl.1+xl.2.len,xl.2.turn,M,x0.2.rad,xl.2.rad,G⟩ #[.int .i64 x0.1,.int .i64 (xl.1+xl.2.len),.int .i64 xl.2.turn,.int .i64 M,.int .i64 x0.2.rad,.int .i64 xl.2.rad,.int .i64 G] rfl rfl 152 wr.heap.size rfl hN1 (by simp[kC,Value.oneCell']) (by omega) (by omega) (by simp;omega) ?_;intro g'' c'' w9 hap;have HAP:=Lib.hid hap;clear hap)
       go_roundw
       case rel=>
        have hap:=HAP.out;exact⟨k+1,_,_,_,by omega,by go_num,rfl,by rw[hnew.out];exact hap.own,(hbs.alloc (by simp;omega) _).trans hap.bel⟩
       case measure=>simp[intOf];omega
      ·have hnew:Hid (((((gs.map (·.2)).take (k+1)).map crn).filter fun c=>decide (least≤c.ang))=((((gs.map (·.2)).take k).map crn).filter fun c=>decide (least≤c.ang))):=by
        rw[HC.out _ rfl,if_neg hle];simp[Hid]
       clear HC hcr hcrn hnk;go_wp2_with fail
       go_roundw
       case rel=>
        exact⟨k+1,_,_,_,by omega,by go_num,rfl,by rw[hnew.out];exact hOs,hbs⟩
       case measure=>simp[intOf];omega
   ·obtain rfl:k=n':=by omega
    have hall:Hid (((((gs.map (·.2)).take k).map crn).filter fun c=>decide (least≤c.ang))=eR gap least R):=by
     have h1:=hG.out.len;rw[List.length_map]at h1;rw[List.take_of_length_le (by rw[List.length_map];omega),hGS.out]
     exact rfl
    have hBW:Below w.heap.size w W3:=onto (onto hB2 hB.1 hB2.size) hb3 (Nat.le_trans hB2.size hB.1.size);have hKr:wr.heap[D]?=some (Obj.deferred (some [])):=by
     have hDl:D<W.heap.size:=(Array.getElem?_eq_some_iff.1 hKD.out).1
     exact(hb.block D (Nat.lt_of_lt_of_le hDl hb3.size)).trans ((hb3.block D hDl).trans hKD.out)
    have HKR:=Lib.hid hKr;clear hKr;have hOf:=hO;rw[hall.out]at hOf;go_wp2_with fail
    refine⟨by simp,.inl ⟨_,_,rfl,run_takeDeferred HKR.out,?_⟩⟩
    have hne:∀g,A1=some g→g.block≠D:=fun g hg e=>by
     subst hg;rcases hOf.1.2 with⟨h3,_⟩|⟨g',cap,cur,h3,_,hg',_⟩
     ·cases h3
     ·injection h3 with h3
      injection h3 with h3
      subst h3;rw[show D=g' from e.symm,hg']at HKR
      have:=HKR.out;cases this
    exact⟨_,results_tmp2 (t:=4) (u:=5) rfl _ _ _,_,_,_,rfl,(hOf.keep (fun g hg=>World.putObj_heap_other (hne g hg))).drop0 hBW.size,(onto hBW hb hBW.size).trans (belowK_b (w:=w) (Nat.le_refl _) wr D _ _ (by have:=hBW.size;have:=HS.out;have:=hB2.size;omega) HKR.out rfl rfl)⟩
theorem xC (gap least:Int) (pa:Option Addr) (pn pc:Nat) (ca:Option Addr) (cn cc:Nat) (ja:Option Addr) (jn jc:Nat) (R:Road) (w:World)
  (h:RD w w.heap.size pa pn ca cn ja jn R) (hv:OK R) (he:lE gap least=true) :
  Calls Tryz.prog 54 #[.agg #[.slice pa pn pc,.slice ca cn cc,.slice ja jn jc],.agg #[.int .i64 gap,.int .i64 least]] w fun e w'=>∃A n c,e = .returned (.tuple #[.slice A n c,.int .i64 0])∧OW kC 7 152 w.heap.size w' A n c (eR gap least R)∧Below w.heap.size w w':=
 callsIn_wide.1 (aAK gap least pa pn pc ca cn cc ja jn jc R w h hv he)
end Go.Proofs.YtjlkeoppppfeiaaGreat
namespace Go.Proofs.YtjlkeoppppfeiaaGreat
open Go.RowKit Go.Proofs
theorem sN {α:Type} {p:α→Bool} {l A B:List α} {x:α} (h:l.filter p=A++x::B):∃l1 l2,l=l1++x::l2∧l1.filter p=A∧l2.filter p=B:=by
 obtain⟨l1,l2,rfl,h1,h2⟩:=List.filter_eq_append_iff.1 h;obtain⟨m1,m2,rfl,h3,h4,h5⟩:=List.filter_eq_cons_iff.1 h2;refine⟨l1++m1,m2,by simp,?_,h5⟩
 rw[List.filter_append,h1,List.filter_eq_nil_iff.2 h3,List.append_nil]
theorem aAL {ps:List Piece} {l1 l2:List (Int×Piece)} {e:Int×Piece} (h:its 0 ps=l1++e::l2) :
  ∃hk:l1.length<ps.length,e.1=sumL (ps.take l1.length)∧e.2=ps[l1.length]∧l1=its 0 (ps.take l1.length):=by
 have hl:=congrArg List.length h;rw[lG]at hl;have hk:l1.length<ps.length:=by rw[hl];simp
 have h1:=sS 0 ps l1.length hk;rw[h,List.getElem?_append_right (Nat.le_refl _),Nat.sub_self]at h1
 simp at h1;have h2:l1=its 0 (ps.take l1.length):=by rw[←lH,h,List.take_left]
 exact⟨hk,by rw[h1],by rw[h1],h2⟩
theorem aCX (l:List (Int×Piece)):bfr l=cT (bds l):=by
 induction l with
 |nil=>rfl
 |cons e l ih=>
  have e1:bfr (e::l)=trn e.2 e.2.len+bfr l:=by simp[bfr]
  rw[e1,ih];by_cases h:e.2.turn=0
  ·have e2:bds (e::l)=bds l:=by simp[bds,h]
   rw[e2,trn,if_pos h];omega
  ·have e2:bds (e::l)=e::bds l:=by simp[bds,h]
   rw[e2];simp[cT]
theorem uM (a b:List Bd):cT (a++b)=cT a+cT b:=by simp[cT]
theorem qY {R:Road} (hv:OK R) {A B:List Bd} {x:Bd} (h:bds (its 0 R.ps)=A++x::B):upt R.ps x.1=cT A∧upt R.ps (x.1+x.2.len)=cT A+trn x.2 x.2.len:=by
 obtain⟨l1,l2,h1,h2,h3⟩:=sN h;obtain⟨hk,e1,e2,e3⟩:=aAL h1;have hp:=aP (hv.pk _ (List.getElem_mem hk));have hb:bfP (R.ps.take l1.length)=cT A:=by rw[←yV _ 0,←e3,aCX];exact congrArg cT h2
 have u1:=aBK R.ps l1.length hk hv.pk x.1 (by omega) (by omega)
 have u2:=aBK R.ps l1.length hk hv.pk (x.1+x.2.len) (by rw[e2];omega) (by rw[e2];omega)
 rw[hb,←e2,e1,Int.sub_self,uS _ (by rw[e2];exact fQ (hv.pk _ (List.getElem_mem hk))),Int.add_zero,←e1]at u1
 rw[hb,←e2,show x.1+x.2.len-sumL (R.ps.take l1.length)=x.2.len by omega]at u2
 exact⟨u1,u2⟩
theorem qZ {gap:Int} {l g:List Bd} (h:g∈grp gap l):∃A B,l=A++(g++B):=by
 obtain⟨G1,G2,e⟩:=List.append_of_mem h;refine⟨G1.flatten,G2.flatten,?_⟩
 have:=gH gap l;rw[e]at this;rw[←this];simp
theorem addB_nonempty (gap:Int) (gs:List (List Bd)) (x:Bd) (h:∀g∈gs,g≠[]):∀g∈addB gap gs x,g≠[]:=by
 intro g hg;unfold addB at hg
 split at hg
 ·split at hg
  ·rcases List.mem_append.1 hg with h1|h1
   ·exact h g (List.dropLast_subset _ h1)
   ·simp at h1;subst h1;simp
  ·rcases List.mem_append.1 hg with h1|h1
   ·exact h g h1
   ·simp at h1;subst h1;simp
 ·rcases List.mem_append.1 hg with h1|h1
  ·exact h g h1
  ·simp at h1;subst h1;simp
theorem sO (gap:Int) (l:List Bd):∀g∈grp gap l,g≠[]:=by
 have key:∀(l:List Bd) (gs:List (List Bd)),(∀g∈gs,g≠[])→∀g∈l.foldl (addB gap) gs,g≠[]:=by
  intro l
  induction l with
  |nil=>intro gs h;exact h
  |cons x l ih=>intro gs h;exact ih _ (addB_nonempty gap gs x h)
 exact key l [] (by simp)
theorem xD {g gt gi:List Bd} {x y:Bd} (h0:g=x::gt) (h1:g=gi++[y]):crn g=⟨x.1,y.1+y.2.len,y.2.turn,iR y.2.rad g,x.2.rad,y.2.rad,max (cT g) (-(cT g))⟩:=by
 have e1:g.head?=some x:=by rw[h0];rfl
 have e2:g.getLast?=some y:=by rw[h1];simp
 unfold crn;rw[e1,e2]
 rfl
theorem aD3 {g:List Bd} (h:g≠[]):∃x gt gi y,g=x::gt∧g=gi++[y]:=by
 cases g with
 |nil=>exact absurd rfl h
 |cons x gt=>exact⟨x,gt,(x::gt).dropLast,(x::gt).getLast h,rfl,(List.dropLast_concat_getLast h).symm⟩
theorem aBC {gap:Int} {R:Road} (hv:OK R) {g:List Bd} (h:g∈grp gap (bds (its 0 R.ps))):upt R.ps (crn g).til-upt R.ps (crn g).fr=cT g:=by
 obtain⟨A,B,e⟩:=qZ h;obtain⟨x,gt,gi,y,h0,h1⟩:=aD3 (sO _ _ g h);rw[xD h0 h1];have u:=(qY hv (A:=A) (x:=x) (B:=gt++B) (by rw[e,h0];simp)).1
 have v:=(qY hv (A:=A++gi) (x:=y) (B:=B) (by rw[e,h1];simp)).2
 show upt R.ps (y.1+y.2.len)-upt R.ps x.1=_
 rw[u,v,uM,h1,qX];omega
theorem uN (a b:Int) (g:List Bd):iR (min a b) g=min a (iR b g):=by
 induction g generalizing b with
 |nil=>rfl
 |cons e g ih=>simp only[iR,List.foldl_cons]at ih ⊢;rw[Int.min_assoc,ih]
theorem aCY (b:Int) (g:List Bd) {e:Bd} (h:e∈g):iR b g≤e.2.rad:=by
 induction g generalizing b with
 |nil=>cases h
 |cons d g ih=>
  rcases List.mem_cons.1 h with rfl|h
  ·show iR (min b e.2.rad) g≤_
   rw[Int.min_comm,uN];omega
  ·exact ih (min b d.2.rad) h
end Go.Proofs.YtjlkeoppppfeiaaGreat
namespace Go.Proofs.YtjlkeoppppfeiaaGreat
open Go.RowKit Go.Shelf Go.Sort Go.Proofs
end Go.Proofs.YtjlkeoppppfeiaaGreat
namespace Go.Proofs.YtjlkeoppppfeiaaGreat
open Go.RowKit Go.Shelf Go.Sort Go.Proofs
theorem KS.at_ {w:World} {B n:Nat} {A:Option Addr} {xs:List Corner} (h:SL kC 7 w B A n xs) {k:Nat} (hk:k<xs.length):∃b off,A=some ⟨b,off,none⟩∧b<B ∧
  w.cell? ⟨b,off+k*7,none⟩=some (.int .i64 xs[k].fr)∧w.cell? ⟨b,off+k*7+1,none⟩=some (.int .i64 xs[k].til)∧w.cell? ⟨b,off+k*7+2,none⟩=some (.int .i64 xs[k].turn) ∧
  w.cell? ⟨b,off+k*7+3,none⟩=some (.int .i64 xs[k].rad)∧w.cell? ⟨b,off+k*7+4,none⟩=some (.int .i64 xs[k].inn)∧w.cell? ⟨b,off+k*7+5,none⟩=some (.int .i64 xs[k].out)∧w.cell? ⟨b,off+k*7+6,none⟩=some (.int .i64 xs[k].ang):=by
 obtain⟨b,off,e,hb,hc⟩:=h.at_ hk;exact⟨b,off,e,hb,hc 0 _ rfl,hc 1 _ rfl,hc 2 _ rfl,hc 3 _ rfl,hc 4 _ rfl,hc 5 _ rfl,hc 6 _ rfl⟩
end Go.Proofs.YtjlkeoppppfeiaaGreat
