/- Lemmas. -/
import Derived.Test.YtjlkeoppppfeiaaGreatQBackM
import Derived.Test.YtjlkeoppppfeiaaGreatQAlike
import Derived.Test.YtjlkeoppppfeiaaGreatQPGrouped
import Derived.Test.YtjlkeoppppfeiaaGreatQConc
import Derived.Test.YtjlkeoppppfeiaaGreatQReg
import Derived.Test.YtjlkeoppppfeiaaGreatQCmp
namespace Go.Proofs.YtjlkeoppppfeiaaGreat
open Go.RowKit Go.Shelf Go.Sort Go.Proofs
def eW (R:Road):Bool:=decide (R.ps.length≤2000)&&(decide (R.cs.length≤1000)&&(decide (R.js.length≤200)&&decide (sumL R.ps≤100000)))
def cQ (pa:Option Addr) (pn pc:Nat) (ca:Option Addr) (cn cc:Nat) (ja:Option Addr) (jn jc:Nat) (R:Road):Value:=
 if eW R=true then .tuple #[.agg #[.slice pa pn pc,.slice ca cn cc,.slice ja jn jc],.int .i64 0] else .tuple #[.agg #[.slice none 0 0,.slice none 0 0,.slice none 0 0],.int .i64 4]
set_option maxRecDepth 100000 in
theorem nS (pa:Option Addr) (pn pc:Nat) (ca:Option Addr) (cn cc:Nat) (ja:Option Addr) (jn jc:Nat) (R:Road) (w:World)
  (h:RD w w.heap.size pa pn ca cn ja jn R) (hk:∀p∈R.ps,pOk p=true) (hl:pn≤20000) :
  Calls Tryz.prog 50 #[.agg #[.slice pa pn pc,.slice ca cn cc,.slice ja jn jc]] w fun e w'=>e = .returned (cQ pa pn pc ca cn cc ja jn jc R)∧Below w.heap.size w w':=by
 have hR:=Lib.hid h;have hk':=Lib.hid hk;have hS:=eO R.ps hk;have hfit:eW R=(decide (pn≤2000)&&(decide (cn≤1000)&&(decide (jn≤200)&&decide (sumL R.ps≤100000)))):=by rw[eW,h.p.1,h.c.1,h.j.1]
 have hpe:=h.p.1;obtain⟨S,hSe⟩ : ∃S,S=sumL R.ps:=⟨_,rfl⟩
 have HS:=Lib.hid hSe;rw[←hSe]at hS hfit;obtain⟨s1,s2⟩ : 0≤S∧S≤100000000:=by omega
 clear h hk hSe hS hpe;obtain⟨w0,hw0⟩ : ∃w0,w0=(w.alloc (.cells #[.slice pa pn pc,.slice ca cn cc,.slice ja jn jc] 26)).alloc (.cells #[.slice none 0 0,.slice none 0 0,.slice none 0 0] 26):=⟨_,rfl⟩
 have hB0:Below w.heap.size w w0:=by rw[hw0];exact((Below.refl w.heap.size w).alloc (Nat.le_refl _) _).alloc (by simp) _
 have hX0:BK w0 w.heap.size 26 #[.slice pa pn pc,.slice ca cn cc,.slice ja jn jc]:=by rw[hw0];exact(BK.new w _ _).alloc _
 have hY0:BK w0 (w.heap.size+1) 26 #[.slice none 0 0,.slice none 0 0,.slice none 0 0]:=by rw[hw0];have:=BK.new (w.alloc (.cells #[.slice pa pn pc,.slice ca cn cc,.slice ja jn jc] 26)) 26 #[.slice none 0 0,.slice none 0 0,.slice none 0 0];rw[World.size_alloc]at this;exact this
 have hB0':Hid (Below w.heap.size w ((w.alloc (.cells #[.slice pa pn pc,.slice ca cn cc,.slice ja jn jc] 26)).alloc (.cells #[.slice none 0 0,.slice none 0 0,.slice none 0 0] 26))):=hw0▸hB0;by_cases g1:pn≤2000
 ·by_cases g2:cn≤1000
  ·by_cases g3:jn≤200
   ·have hfit':Hid (eW R=decide (S≤100000)):=by show _=_;simpa[g1,g2,g3]using hfit
    clear hfit;go_enter Tryz.func50,Tryz.ntmps50
    go_wp2_with fail
    rw[←hw0];clear hw0 hB0';refine(fR _ _ _ _ _ _ _ _ _ R _ (hR.out.grow hB0 hB0.size) hk'.out (by omega)).mono ?_
    rintro e w2 ⟨g,ba,bq,rfl,hM,hg,hk1⟩;have hB2:=hB0.trans (hk1.mono hB0.size);have hX2:=hX0.below hk1 hX0.lt;have hY2:=hY0.below hk1 hY0.lt;clear hB0 hX0 hY0;go_wp2_with fail
    refine(iW _ _ _ _ _ _ _ _ _ _ _ _ R _ _ hM (by omega)).mono ?_
    rintro e w3' ⟨rfl,nd,hw3⟩;obtain⟨w3,hw3e⟩ : ∃w3,w3=w3':=⟨_,rfl⟩
    rw[←hw3e]at hw3 ⊢;have hk2:Below w2.heap.size w2 w3:=by rw[hw3];exact aD (Below.refl _ _) _
    clear hw3 hw3e hM;rw[←HS.out];have hB3:=hB2.trans (hk2.mono hB2.size);have hX3:=hX2.below hk2 hX2.lt;have hY3:=hY2.below hk2 hY2.lt;have hz3:w.heap.size+1<w3.heap.size:=hY3.lt;have x0:=hX3.cell 0;have x1:=hX3.cell 1;have x2:=hX3.cell 2;have yf:=hY3.frozen;have y0:=hY3.cell 0;have y1:=hY3.cell 1;have y2:=hY3.cell 2;simp only[List.getElem?_toArray,List.getElem?_cons_zero,List.getElem?_cons_succ]at x0 x1 x2 y0 y1 y2
    clear hk1 hk2 hB2 hX2 hY2;by_cases hle:S≤100000
    ·have hV:Hid (cQ pa pn pc ca cn cc ja jn jc R = .tuple #[.agg #[.slice pa pn pc,.slice ca cn cc,.slice ja jn jc],.int .i64 0]):=by
      unfold cQ;rw[hfit'.out,if_pos (by simpa using hle)];exact rfl
     go_wp2_with fail
     have hYF:=((hY3.set_ 0 (.slice pa pn pc)).set_ 1 (.slice ca cn cc)).set_ 2 (.slice ja jn jc);have hBF:=((hB3.setCell (p:=⟨w.heap.size+1,0,none⟩) (by simp) (.slice pa pn pc)).setCell (p:=⟨w.heap.size+1,1,none⟩) (by simp) (.slice ca cn cc)).setCell (p:=⟨w.heap.size+1,2,none⟩) (by simp) (.slice ja jn jc)
     obtain⟨wF,hwF⟩ : ∃wF,wF=((w3.setCell ⟨w.heap.size+1,0,none⟩ (.slice pa pn pc)).setCell ⟨w.heap.size+1,1,none⟩ (.slice ca cn cc)).setCell ⟨w.heap.size+1,2,none⟩ (.slice ja jn jc):=⟨_,rfl⟩
     rw[←hwF]at hYF hBF ⊢;clear hwF;have z0:=hYF.cell 0;have z1:=hYF.cell 1;have z2:=hYF.cell 2;simp at z0 z1 z2;refine bodyPost_ret (v:=.tuple #[.agg #[.slice pa pn pc,.slice ca cn cc,.slice ja jn jc],.int .i64 0]) (by simp[results,Tryz.results50,go_sem,z0,z1,z2]) rfl ⟨by rw[hV.out],hBF⟩
    ·have hV:Hid (cQ pa pn pc ca cn cc ja jn jc R = .tuple #[.agg #[.slice none 0 0,.slice none 0 0,.slice none 0 0],.int .i64 4]):=by
      unfold cQ;rw[hfit'.out,if_neg (by simpa using hle)];exact rfl
     go_wp2_with fail
     have hYF:=((hY3.set_ 0 (.slice none 0 0)).set_ 1 (.slice none 0 0)).set_ 2 (.slice none 0 0);have hBF:=((hB3.setCell (p:=⟨w.heap.size+1,0,none⟩) (by simp) (.slice none 0 0)).setCell (p:=⟨w.heap.size+1,1,none⟩) (by simp) (.slice none 0 0)).setCell (p:=⟨w.heap.size+1,2,none⟩) (by simp) (.slice none 0 0)
     obtain⟨wF,hwF⟩ : ∃wF,wF=((w3.setCell ⟨w.heap.size+1,0,none⟩ (.slice none 0 0)).setCell ⟨w.heap.size+1,1,none⟩ (.slice none 0 0)).setCell ⟨w.heap.size+1,2,none⟩ (.slice none 0 0):=⟨_,rfl⟩
     rw[←hwF]at hYF hBF ⊢;clear hwF;have z0:=hYF.cell 0;have z1:=hYF.cell 1;have z2:=hYF.cell 2;simp at z0 z1 z2;refine bodyPost_ret (v:=.tuple #[.agg #[.slice none 0 0,.slice none 0 0,.slice none 0 0],.int .i64 4]) (by simp[results,Tryz.results50,go_sem,z0,z1,z2]) rfl ⟨by rw[hV.out],hBF⟩
   ·have hV:Hid (cQ pa pn pc ca cn cc ja jn jc R = .tuple #[.agg #[.slice none 0 0,.slice none 0 0,.slice none 0 0],.int .i64 4]):=by
     unfold cQ;rw[hfit,if_neg (by simp[g3])];exact rfl
    clear hfit hw0 hB0 hX0 hY0;go_enter Tryz.func50,Tryz.ntmps50
    have q0:¬(2000:Int)<pn:=by omega
    have q1:¬(1000:Int)<cn:=by omega
    have q2:(200:Int)<jn:=by omega
    clear g1 g2 g3;go_wp2_with fail
    refine bodyPost_ret (v:=.tuple #[.agg #[.slice none 0 0,.slice none 0 0,.slice none 0 0],.int .i64 4]) (by simp[results,Tryz.results50,go_sem]) rfl ⟨by rw[hV.out],hB0'.out⟩
  ·have hV:Hid (cQ pa pn pc ca cn cc ja jn jc R = .tuple #[.agg #[.slice none 0 0,.slice none 0 0,.slice none 0 0],.int .i64 4]):=by
    unfold cQ;rw[hfit,if_neg (by simp[g2])];exact rfl
   clear hfit hw0 hB0 hX0 hY0;go_enter Tryz.func50,Tryz.ntmps50
   have q0:¬(2000:Int)<pn:=by omega
   have q1:(1000:Int)<cn:=by omega
   clear g1 g2;go_wp2_with fail
   refine bodyPost_ret (v:=.tuple #[.agg #[.slice none 0 0,.slice none 0 0,.slice none 0 0],.int .i64 4]) (by simp[results,Tryz.results50,go_sem]) rfl ⟨by rw[hV.out],hB0'.out⟩
 ·have hV:Hid (cQ pa pn pc ca cn cc ja jn jc R = .tuple #[.agg #[.slice none 0 0,.slice none 0 0,.slice none 0 0],.int .i64 4]):=by
   unfold cQ;rw[hfit,if_neg (by simp[g1])];exact rfl
  clear hfit hw0 hB0 hX0 hY0;go_enter Tryz.func50,Tryz.ntmps50
  have q0:(2000:Int)<pn:=by omega
  clear g1;go_wp2_with fail
  refine bodyPost_ret (v:=.tuple #[.agg #[.slice none 0 0,.slice none 0 0,.slice none 0 0],.int .i64 4]) (by simp[results,Tryz.results50,go_sem]) rfl ⟨by rw[hV.out],hB0'.out⟩
end Go.Proofs.YtjlkeoppppfeiaaGreat
namespace Go.Proofs.YtjlkeoppppfeiaaGreat
open Go.RowKit Go.Shelf Go.Sort Go.Proofs
theorem mF:∀ {g:List Piece},(∀q∈g,1≤q.len∧q.len≤5000)→(g.length:Int)≤sumL g∧sumL g≤5000*g.length
 | [],_=>by simp[sumL]
 |p::g,h=>by
  have h1:=mF (fun q hq=>h q (List.mem_cons_of_mem _ hq))
  have h2:=h p (List.mem_cons_self ..);rw[mH,List.length_cons];omega
theorem wI:∀ {gs:List (List Piece)},(∀g∈gs,g≠[]∧∀q∈g,1≤q.len∧q.len≤5000)→((gs.map hs).flatMap cut).length≤gs.flatten.length
 | [],_=>by simp
 |g::gs,h=>by
  have h1:=wI (fun q hq=>h q (List.mem_cons_of_mem _ hq))
  obtain⟨h2,h3⟩:=h g (List.mem_cons_self ..);have h4:=mF h3;have h5:=List.length_pos_iff.2 h2;have h6:=jN (n:=sumL g) (by omega)
  rw[List.map_cons,List.flatMap_cons,List.flatten_cons,List.length_append,List.length_append,lA,aAu];omega
theorem aAi (gs:List (List Piece)) (k:Nat):(gs.take k).flatten.length≤gs.flatten.length:=by
 conv=>rhs;rw[←List.take_append_drop k gs,List.flatten_append,List.length_append]
 omega
theorem wJ {ps g:List Piece} (h:g∈eX ps) {q:Piece} (hq:q∈g):q∈ps:=by
 rw[←gK ps];exact List.mem_flatten.2 ⟨g,h,hq⟩
set_option maxRecDepth 100000 in
set_option maxHeartbeats 4000000 in
theorem zW (A:Option Addr) (n c:Nat) (ps:List Piece) (w:World) (hb:SL pC 5 w w.heap.size A n ps) (hp:∀q∈ps,1≤q.len∧q.len≤5000) (hn:n≤2000) :
  Calls Tryz.prog 42 #[.slice A n c] w fun e w'=>∃A' n' c',e = .returned (.slice A' n' c')∧OW pC 5 112 w.heap.size w' A' n' c' (normP ps)∧Below w.heap.size w w':=by
 have hl:=Lib.hid hb.1;have hp':=Lib.hid hp;clear hp;go_enter Tryz.func42,Tryz.ntmps42
 go_wp2_with fail
 refine(tG A n c ps w hb (by omega)).mono ?_
 rintro e W3 ⟨A',n',c',gs,rfl,hG,hgs,hb3⟩;have hGS:=Lib.hid hgs;have hn':n'≤2000:=by
  have h1:=hG.out.len;have h2:=congrArg List.length hgs;have h3:=vK ps;have h4:=hl.out;simp only[List.length_map]at h1 h2;omega
 have hcb:Hid (∀k,((((gs.map (·.2)).take k).map hs).flatMap cut).length≤2000):=fun k=>by
  have h1:=wI (gs:=(gs.map (·.2)).take k) (fun g hg=>by
   rw[hgs]at hg;have hg:=List.mem_of_mem_take hg;exact⟨aCS hg,fun q hq=>hp'.out q (wJ hg hq)⟩)
  have h2:=aAi (gs.map (·.2)) k;rw[hgs,gK]at h2;rw[hgs]at h1 ⊢;have:=hl.out;omega
 clear hgs;go_wp2_with fail
 go_loopw [3,13] (fun o i wr=>∃(k:Nat) (A1:Option Addr) (n1 c1:Nat),k≤n'∧i = .int .i64 k∧o = .slice A1 n1 c1∧OW pC 5 112 W3.heap.size wr A1 n1 c1 ((((gs.map (·.2)).take k).map hs).flatMap cut)∧Below W3.heap.size W3 wr)
  (fun _ i _=>n'-(intOf i).toNat)
 case atStart=>exact⟨0,none,0,0,Nat.zero_le _,rfl,rfl,OW.nil_,Below.refl _ _⟩
 case round=>
  obtain⟨k,A1,n1,c1,hk,rfl,rfl,hO,hb⟩:=hrel;have hsz:=hb.size;have hn1:n1≤2000:=by have:=hO.len;have:=hcb.out k;omega
  by_cases hlt:k<n'
  ·have hkl:k<gs.length:=by have:=hG.out.len;rw[List.length_map]at this;omega
   have hG':=hG.call hb;obtain⟨qq,hqq⟩ : ∃qq,qq=gs[k]:=⟨_,rfl⟩
   obtain⟨⟨gA,gn,gc⟩,gl⟩:=qq;have hqm:gs[k]∈gs:=List.getElem_mem hkl;have hgrp:=hG'.grp _ hqm;have hqk:gs[k]?=some (⟨gA,gn,gc⟩,gl):=by rw[List.getElem?_eq_getElem hkl,hqq]
   rw[←hqq]at hgrp;simp only at hgrp;obtain⟨hOg,hne⟩:=hgrp;obtain⟨a0,hA0⟩ : ∃a0,A'=some a0:=by
    cases A' with
    |none=>have:=hG.out.none_.1;omega
    |some a0=>exact⟨a0,rfl⟩
   obtain⟨b0',rfl,hb0,hbb0,hfz,hrow⟩:=hG'.out.at_ mM a0 hA0;have hh0:=hrow k ⟨gA,gn,gc⟩ (by rw[List.getElem?_map,hqk];rfl) 0 _ rfl
   have hh:wr.cell? ⟨b0',k,none⟩=some (.slice gA gn gc):=by rw[←hh0];congr 1;simp
   clear hh0 hrow hfz;have hgn:=hOg.len;have hgpos:0<gn:=by rw[hgn];exact List.length_pos_iff.2 hne
   obtain⟨a1,hA1⟩ : ∃a1,gA=some a1:=by
    cases gA with
    |none=>have:=hOg.none_.1;omega
    |some a1=>exact⟨a1,rfl⟩
   obtain⟨gb,rfl,hgb0,hgbb,hfz,hrow⟩:=hOg.at_ iV a1 hA1;have hglm:gl∈eX ps:=by
    rw[←hGS.out];exact List.mem_map.2 ⟨_,List.mem_iff_getElem?.2 ⟨k,hqk⟩,rfl⟩
   have hgok:Hid (∀e∈gl,1≤e.len∧e.len≤5000):=fun e he=>hp'.out e (wJ hglm he)
   have hgln:gn≤2000:=by
    have h1:=rS _ hglm;have h3:=hl.out;omega
   obtain⟨x0,gt,hx0⟩ : ∃x0 gt,gl=x0::gt:=by
    cases gl with
    |nil=>exact absurd rfl hne
    |cons x gt=>exact⟨x,gt,rfl⟩
   have hhs:Hid (hs gl={ x0 with len:=sumL gl }):=by rw[hx0];exact rfl
   have hSb:=mF hgok.out;have hat0:gl[0]?=some x0:=by rw[hx0];rfl
   have hnk:Hid ((((gs.map (·.2)).take (k+1)).map hs).flatMap cut=((((gs.map (·.2)).take k).map hs).flatMap cut)++cut (hs gl)):=by
    have h1:(gs.map (·.2))[k]?=some gl:=by rw[List.getElem?_map,hqk];rfl
    rw[List.take_add_one,h1];simp[Hid]
   have HGN:=Lib.hid hgn;have HA1:=Lib.hid hA1;clear hx0 hqq hqm hqk hgn hfz hrow hne;subst hA0;subst hA1;go_wp2_with fail
   obtain⟨wo,rfl⟩ : ∃wo:World,wo=wr:=⟨_,rfl⟩
   go_loopw [6,19] (fun an i w7=>∃(j:Nat),j≤gn∧i = .int .i64 j∧an = .int .i64 (sumL (gl.take j))∧Below wo.heap.size wo w7)
    (fun _ i _=>gn-(intOf i).toNat)
   case atStart=>exact⟨0,Nat.zero_le _,rfl,rfl,Below.refl _ _⟩
   case round=>
    obtain⟨j,hj,rfl,rfl,hb7⟩:=hrel;have hz7:=hb7.size;have hO7:=hOg.call hb7;obtain⟨b1',hb1',hg0',_,hfz',hrow'⟩:=hO7.at_ iV _ rfl;cases hb1'
    by_cases hjl:j<gn
    ·have hjl':j<gl.length:=by have:=HGN.out;omega
     have hgj:gl[j]?=some gl[j]:=List.getElem?_eq_getElem hjl'
     have hadj:∀i,(0+j*5+i)=j*5+i:=fun i=>by omega
     have x0':=hrow' j _ hgj 0 _ rfl;have x1':=hrow' j _ hgj 1 _ rfl;have x2':=hrow' j _ hgj 2 _ rfl;have x3':=hrow' j _ hgj 3 _ rfl;have x4':=hrow' j _ hgj 4 _ rfl;rw[hadj]at x0' x1' x2' x3' x4';rw[Nat.add_zero]at x0';have hyok:=hgok.out _ (List.mem_iff_getElem?.2 ⟨j,hgj⟩);have hst:=Lib.hid (dH gl j hjl');have hbt:=mF (g:=gl.take j) (fun q hq=>hgok.out q (List.mem_of_mem_take hq))
     have htl:(gl.take j).length≤j:=List.length_take_le ..
     generalize gl[j]'hjl'=y at x0' x1' x2' x3' x4' hyok hst
     obtain⟨S,hS⟩ : ∃S,S=sumL (gl.take j):=⟨_,rfl⟩
     rw[←hS]at hst hbt ⊢;obtain⟨hs1,hs2⟩ : 0≤S∧S≤10000000:=by omega
     clear hS hbt hgj hadj hrow' hfz';go_wp2_with fail
     go_roundw
     case rel=>exact⟨j+1,by omega,by go_num,by rw[hst.out],hb7.alloc hz7 _⟩
     case measure=>simp[intOf];omega
    ·obtain rfl:j=gn:=by omega
     have htk:gl.take j=gl:=by rw[HGN.out,List.take_length]
     rw[htk];clear htk;obtain⟨S,hS⟩ : ∃S,S=sumL gl:=⟨_,rfl⟩
     rw[←hS]at hhs hSb ⊢;have hS1:1≤S:=by have:=HGN.out;omega
     have hS2:S≤10000000:=by have:=HGN.out;omega
     have x0':=hrow' 0 x0 hat0 0 _ rfl;have x1':=hrow' 0 x0 hat0 1 _ rfl;have x2':=hrow' 0 x0 hat0 2 _ rfl;have x3':=hrow' 0 x0 hat0 3 _ rfl;have x4':=hrow' 0 x0 hat0 4 _ rfl;simp only[Nat.zero_mul,Nat.zero_add]at x0' x1' x2' x3' x4';have hgpi:(0:Int)<(j:Int):=by omega
     clear hSb hS hrow' hfz';go_wp2_with fail
     obtain⟨bx,hbx⟩ : ∃bx,bx=wr.heap.size:=⟨_,rfl⟩
     obtain⟨w8,hw8⟩ : ∃w8,w8=wr.alloc (.cells #[.int .i64 5000,.int .i64 x0.turn,.int .i64 x0.rad,.int .i64 x0.wid,.int .i64 x0.sur] 112):=⟨_,rfl⟩
     have hK8:BK w8 bx 112 #[.int .i64 5000,.int .i64 x0.turn,.int .i64 x0.rad,.int .i64 x0.wid,.int .i64 x0.sur]:=by rw[hw8,hbx];exact BK.new wr _ _
     have hb8:Below wo.heap.size wo w8:=by rw[hw8];exact hb7.alloc hz7 _
     have hb38:Below W3.heap.size W3 w8:=onto hb hb8 hb.size;have hO8:=hO.call hb8;have hne8:∀a,A1=some a→a.block≠bx:=fun a ha=>by have:=(hO.lt ha).2;omega
     have hbx3:W3.heap.size≤bx:=by omega
     rw[←hw8,←hbx];clear hw8 hb8 hO hbx x0' x1' x2' x3' x4';go_loopw [3,6] (fun o nn w9=>∃(i:Nat) (A2:Option Addr) (n2 c2:Nat),nn = .int .i64 (S-5000*i)∧5000*(i:Int)<S∧o = .slice A2 n2 c2∧n2≤n1+i∧OW pC 5 112 W3.heap.size w9 A2 n2 c2 (((((gs.map (·.2)).take k).map hs).flatMap cut)++List.replicate i { x0 with len:=5000 }) ∧
       (∀a,A2=some a→a.block≠bx)∧BK w9 bx 112 #[.int .i64 5000,.int .i64 x0.turn,.int .i64 x0.rad,.int .i64 x0.wid,.int .i64 x0.sur]∧Below W3.heap.size W3 w9)
      (fun _ nn _=>(intOf nn).toNat)
     case atStart=>exact⟨0,A1,n1,c1,by simp,by omega,rfl,Nat.le_refl _,by simpa using hO8,hne8,hK8,hb38⟩
     case round=>
      obtain⟨i,A2,n2,c2,rfl,hi,rfl,hn2,hO9,hne9,hK9,hb9⟩:=hrel;have y0:=hK9.cell 0;have y1:=hK9.cell 1;have y2:=hK9.cell 2;have y3:=hK9.cell 3;have y4:=hK9.cell 4;have yf:=hK9.frozen 0;simp only[List.getElem?_toArray,List.getElem?_cons_zero,List.getElem?_cons_succ]at y0 y1 y2 y3 y4
      have hyl:=hK9.lt;have hb9z:=hb9.size;obtain⟨D,hD⟩ : ∃D,D=S-5000*(i:Int):=⟨_,rfl⟩
      rw[←hD];have hD1:0<D:=by omega
      have hD2:D≤10000000:=by omega
      have hi2:i≤2000:=by omega
      have HD:=Lib.hid hD;clear hD;by_cases hgt:5000<D
      ·have hwD:IntKind.i64.wrap (D-5000)=D-5000:=IntWalk.i64_in _ (by omega)
       have hN1:=BK.new wr 112 #[.int .i64 5000,.int .i64 x0.turn,.int .i64 x0.rad,.int .i64 x0.wid,.int .i64 x0.sur];go_wp2_with(at_builtin;refine aT rfl _ _ 22 rfl W3.heap.size 112 _ 5 40 Tryz.underlying22 yP rfl (by decide) pC A2 n2 c2 _ rfl (hO9.alloc _) { x0 with len:=5000 } #[.int .i64 5000,.int .i64 x0.turn,.int .i64 x0.rad,.int .i64 x0.wid,.int .i64 x0.sur] rfl rfl 112 wr.heap.size rfl hN1 (by simp[pC,Value.oneCell']) (by omega) (by omega) (by simp;omega) ?_;intro g'' c'' w10 hap;have HAP:=Lib.hid hap;clear hap)
       go_roundw
       case rel=>
        have hap:=HAP.out;have hfar:=hap.far bx (by simp;omega) (fun b hb=>hne9 b hb)
        have hD:=HD.out;refine⟨i+1,_,_,_,?_,by omega,rfl,by omega,?_,fun a ha=>?_,(hK9.alloc _).same hfar,(hb9.alloc hb9z _).trans hap.bel⟩
        ·rw[hD];congr 1;omega
        ·rw[List.replicate_succ',←List.append_assoc];exact hap.own
        ·cases ha
         rcases hap.at_ with⟨b,hb,rfl⟩|hg
         ·exact hne9 b hb
         ·show g''≠bx;simp at hg;omega
       case measure=>simp[intOf];omega
      ·have hck:cutk S=i:=by have:=HD.out;unfold cutk;omega
       have hlast:Hid (cut (hs gl)=List.replicate i { x0 with len:=5000 }++[{ x0 with len:=D }]):=by
        rw[hhs.out];unfold cut;show List.replicate (cutk S) _++[{ x0 with len:=S-5000*(cutk S:Int) }]=_
        rw[hck,HD.out]
       have hK10:=hK9.set_ 0 (.int .i64 D);have hN1:=BK.new (wr.setCell ⟨bx,0,none⟩ (.int .i64 D)) 112 #[.int .i64 D,.int .i64 x0.turn,.int .i64 x0.rad,.int .i64 x0.wid,.int .i64 x0.sur];rw[World.size_setCell]at hN1;have hO10:=hO9.setCell (p:=⟨bx,0,none⟩) hne9 (.int .i64 D);go_wp2_with(at_builtin;refine aT rfl _ _ 22 rfl W3.heap.size 112 _ 5 40 Tryz.underlying22 yP rfl (by decide) pC A2 n2 c2 _ rfl (hO10.alloc _) { x0 with len:=D } #[.int .i64 D,.int .i64 x0.turn,.int .i64 x0.rad,.int .i64 x0.wid,.int .i64 x0.sur] rfl rfl 112 wr.heap.size rfl hN1 (by simp[pC,Value.oneCell']) (by omega) (by omega) (by simp;omega) ?_;intro g'' c'' w10 hap;have HAP:=Lib.hid hap;clear hap)
       go_roundw
       case rel=>
        have hap:=HAP.out;exact⟨k+1,_,_,_,by omega,by go_num,rfl,by rw[hnk.out,hlast.out,←List.append_assoc];exact hap.own,((hb9.setCell hbx3 _).alloc (by simp;omega) _).trans hap.bel⟩
       case measure=>simp[intOf];omega
  ·obtain rfl:k=n':=by omega
   have hall:Hid ((((gs.map (·.2)).take k).map hs).flatMap cut=normP ps):=by
    have h1:=hG.out.len;rw[List.length_map]at h1;rw[List.take_of_length_le (by rw[List.length_map];omega),hGS.out,aCR]
    exact rfl
   rw[hall.out]at hO;go_wp2_with fail
   go_ret
   exact⟨_,_,_,rfl,hO.drop0 hb3.size,onto hb3 hb hb3.size⟩
end Go.Proofs.YtjlkeoppppfeiaaGreat
namespace Go.Proofs.YtjlkeoppppfeiaaGreat
open Go.RowKit Go.Shelf Go.Sort Go.Proofs
set_option maxRecDepth 100000 in
set_option maxHeartbeats 4000000 in
theorem aAj (pa:Option Addr) (pn pc:Nat) (ca:Option Addr) (cn cc:Nat) (ja:Option Addr) (jn jc:Nat) (R:Road) (w:World)
  (h:RD w w.heap.size pa pn ca cn ja jn R) (hv:OK R) :
  Calls Tryz.prog 16 #[.agg #[.slice pa pn pc,.slice ca cn cc,.slice ja jn jc]] w fun e w'=>∃pa' pn' pc' ca' cc' ja' jc',e = .returned (.tuple #[.agg #[.slice pa' pn' pc',.slice ca' cn cc',.slice ja' jn jc'],.int .i64 0]) ∧
   (OW pC 5 112 w.heap.size w' pa' pn' pc' (normP R.ps)∧OW cC 2 52 w.heap.size w' ca' cn cc' R.cs∧OW jC 3 54 w.heap.size w' ja' jn jc' R.js)∧Below w.heap.size w w':=by
 have hR:=Lib.hid h;have hv':=Lib.hid hv;have hnv:=Lib.hid (oU hv);have hc:=Lib.hid (oZ hv);have hmo:Tryz.prog.follows .mixedOrders=true:=by kernel_rfl
 have hpn:pn≤2000:=by rw[h.p.1];exact hv.p2
 have hcn:cn≤1000:=by rw[h.c.1];exact hv.c1
 have hjn:jn≤200:=by rw[h.j.1];exact hv.j1
 have hlen:Hid (∀q∈R.ps,1≤q.len∧q.len≤5000):=fun q hq=>aP (hv.pk q hq)
 clear h hv;obtain⟨w0,hw0⟩ : ∃w0,w0=(w.alloc (.cells #[.slice pa pn pc,.slice ca cn cc,.slice ja jn jc] 26)).alloc (.cells #[.slice none 0 0,.slice none 0 0,.slice none 0 0] 26):=⟨_,rfl⟩
 have hB0:Below w.heap.size w w0:=by rw[hw0];exact((Below.refl w.heap.size w).alloc (Nat.le_refl _) _).alloc (by simp) _
 have hX0:BK w0 w.heap.size 26 #[.slice pa pn pc,.slice ca cn cc,.slice ja jn jc]:=by rw[hw0];exact(BK.new w _ _).alloc _
 have hY0:BK w0 (w.heap.size+1) 26 #[.slice none 0 0,.slice none 0 0,.slice none 0 0]:=by rw[hw0];have:=BK.new (w.alloc (.cells #[.slice pa pn pc,.slice ca cn cc,.slice ja jn jc] 26)) 26 #[.slice none 0 0,.slice none 0 0,.slice none 0 0];rw[World.size_alloc]at this;exact this
 go_enter Tryz.func16,Tryz.ntmps16
 go_wp2_with fail
 rw[←hw0];clear hw0;refine(fD _ _ _ _ _ _ _ _ _ R _ (hR.out.grow hB0 hB0.size)).mono ?_
 rintro e w3 ⟨rfl,hk0⟩;rw[hc.out];have hB3:=hB0.trans (hk0.mono hB0.size);have hX3:=hX0.below hk0 hX0.lt;have hY3:=hY0.below hk0 hY0.lt;clear hk0 hB0 hX0 hY0;go_wp2_with fail
 refine aM 13 [2,5,8,10] hmo (by kernel_rfl) ?_
 simp only[List.take_succ_cons,List.take_zero,List.drop_succ_cons,List.drop_zero];have x0:=fun d os=>cell_regrown (hX3.cell 0) d os
 have x1:=fun d os=>cell_regrown (hX3.cell 1) d os
 have x2:=fun d os=>cell_regrown (hX3.cell 2) d os
 have HR3:=Lib.hid (hR.out.grow hB3 hB3.size)
 repeat (refine aH (by decide) (by decide) (fun K hK=>?_);go_simp;refine hK _ ?_;clear hK K)
 refine fZ (ι:=Option Addr×Nat×Nat) 42 #[.slice pa pn pc] (fun i=>.slice i.1 i.2.1 i.2.2) (fun i x=>OW pC 5 112 w3.heap.size x i.1 i.2.1 i.2.2 (normP R.ps)) (by decide) (by decide) rfl (fun w=>by go_simp) aB (fun i=>mY _ _ _ _ _ _ _ _) (fun W hW _=>?_) (fun i1 hs1=>?_)
 ·obtain⟨p,rfl⟩:=hW
  have hb:=below_regrown w3 p.d p.os;refine(zW _ _ _ R.ps _ (HR3.out.p.grow hb hb.size) hlen.out hpn).mono ?_
  rintro e w' ⟨A',n',c',rfl,ho,hbl⟩;exact⟨(A',n',c'),rfl,ho.drop0 hb.size,hbl⟩
 repeat (refine aH (by decide) (by decide) (fun K hK=>?_);go_simp;refine hK _ ?_;clear hK K)
 refine fZ (ι:=Option Addr×Nat) 65 #[.slice ca cn cc] (fun i=>.slice i.1 cn i.2) (fun i x=>OW cC 2 52 w3.heap.size x i.1 cn i.2 R.cs) (by decide) (by decide) rfl (fun w=>by go_simp) hs1 (fun i=>mY _ _ _ _ _ _ _ _) (fun W hW _=>?_) (fun i2 hs2=>?_)
 ·obtain⟨p,rfl⟩:=hW
  have hb:=below_regrown w3 p.d p.os;refine(wU _ _ _ R.cs _ (HR3.out.c.grow hb hb.size) (by omega)).mono ?_
  rintro e w' ⟨A',c',rfl,ho,hbl⟩;exact⟨(A',c'),rfl,ho.drop0 hb.size,hbl⟩
 repeat (refine aH (by decide) (by decide) (fun K hK=>?_);go_simp;refine hK _ ?_;clear hK K)
 refine fZ (ι:=Option Addr×Nat) 66 #[.slice ja jn jc] (fun i=>.slice i.1 jn i.2) (fun i x=>OW jC 3 54 w3.heap.size x i.1 jn i.2 R.js) (by decide) (by decide) rfl (fun w=>by go_simp) hs2 (fun i=>mY _ _ _ _ _ _ _ _) (fun W hW _=>?_) (fun i3 hs3=>?_)
 ·obtain⟨p,rfl⟩:=hW
  have hb:=below_regrown w3 p.d p.os;refine(wV _ _ _ R.js _ (HR3.out.j.grow hb hb.size) (by omega)).mono ?_
  rintro e w' ⟨A',c',rfl,ho,hbl⟩;exact⟨(A',c'),rfl,ho.drop0 hb.size,hbl⟩
 obtain⟨A1,n1,c1⟩:=i1;obtain⟨A2,c2⟩:=i2;obtain⟨A3,c3⟩:=i3
 repeat (refine aH (by decide) (by decide) (fun K hK=>?_);go_simp;refine hK _ ?_;clear hK K)
 have hbv:cQ A1 n1 c1 A2 cn c2 A3 jn c3 (normR R) = .tuple #[.agg #[.slice A1 n1 c1,.slice A2 cn c2,.slice A3 jn c3],.int .i64 0]:=by
  have hn:=hnv.out;have hf:eW (normR R)=true:=by
   simp only[eW,Bool.and_eq_true,decide_eq_true_eq];exact⟨hn.p2,hn.c1,hn.j1,hn.n1⟩
  rw[cQ,if_pos hf]
 refine fZ (ι:=Unit) 50 #[.agg #[.slice A1 n1 c1,.slice A2 cn c2,.slice A3 jn c3]] (fun _=>.tuple #[.agg #[.slice A1 n1 c1,.slice A2 cn c2,.slice A3 jn c3],.int .i64 0]) (fun _ _=>True) (by decide) (by decide) rfl (fun w=>by go_simp) hs3 (fun _=>aB) (fun W hW hΦ=>?_) (fun i4 hs4=>?_)
 ·obtain⟨⟨⟨-,o1⟩,o2⟩,o3⟩:=hΦ
  have hn:=hnv.out;refine(nS A1 n1 c1 A2 cn c2 A3 jn c3 (normR R) W ⟨o1.sl iV,o2.sl aZ,o3.sl aV⟩ hn.pk ?_).mono ?_
  ·have h1:n1=(normR R).ps.length:=o1.len
   have:=hn.p2;omega
  ·rintro e w' ⟨rfl,hbl⟩
   exact⟨(),by rw[hbv],trivial,hbl⟩
 repeat (refine aH (by decide) (by decide) (fun K hK=>?_);go_simp;refine hK _ ?_;clear hK K)
 refine bI ?_
 intro w4 hk3 hΦ;obtain⟨⟨⟨⟨-,o1⟩,o2⟩,o3⟩,-⟩:=hΦ;simp only at o1 o2 o3 ⊢;clear x0 x1 x2 hs1 hs2 hs3 hs4 HR3;have hB4:=hB3.trans (hk3.mono hB3.size);have hY4:=hY3.below hk3 hY3.lt;have hz3:w.heap.size+1<w3.heap.size:=hY3.lt;have y0:=hY4.cell 0;have y1:=hY4.cell 1;have y2:=hY4.cell 2;have yf:=hY4.frozen;have hyl:=hY4.lt;simp only[List.getElem?_toArray,List.getElem?_cons_zero,List.getElem?_cons_succ]at y0 y1 y2
 have f1:∀a,A1=some a→a.block≠w.heap.size+1:=fun a ha=>by have:=(o1.lt ha).1;omega
 have f2:∀a,A2=some a→a.block≠w.heap.size+1:=fun a ha=>by have:=(o2.lt ha).1;omega
 have f3:∀a,A3=some a→a.block≠w.heap.size+1:=fun a ha=>by have:=(o3.lt ha).1;omega
 have r1:=(((o1.setCell (p:=⟨w.heap.size+1,0,none⟩) f1 (.slice A1 n1 c1)).setCell (p:=⟨w.heap.size+1,1,none⟩) f1 (.slice A2 cn c2)).setCell (p:=⟨w.heap.size+1,2,none⟩) f1 (.slice A3 jn c3)).drop0 hB3.size;have r2:=(((o2.setCell (p:=⟨w.heap.size+1,0,none⟩) f2 (.slice A1 n1 c1)).setCell (p:=⟨w.heap.size+1,1,none⟩) f2 (.slice A2 cn c2)).setCell (p:=⟨w.heap.size+1,2,none⟩) f2 (.slice A3 jn c3)).drop0 hB3.size;have r3:=(((o3.setCell (p:=⟨w.heap.size+1,0,none⟩) f3 (.slice A1 n1 c1)).setCell (p:=⟨w.heap.size+1,1,none⟩) f3 (.slice A2 cn c2)).setCell (p:=⟨w.heap.size+1,2,none⟩) f3 (.slice A3 jn c3)).drop0 hB3.size;have rB:=((hB4.setCell (p:=⟨w.heap.size+1,0,none⟩) (by simp) (.slice A1 n1 c1)).setCell (p:=⟨w.heap.size+1,1,none⟩) (by simp) (.slice A2 cn c2)).setCell (p:=⟨w.heap.size+1,2,none⟩) (by simp) (.slice A3 jn c3)
 have RR:=Lib.hid (And.intro (And.intro r1 (And.intro r2 r3)) rB);clear r1 r2 r3 rB f1 f2 f3 o1 o2 o3 hk3 hB4;go_wp2_with fail
 have hYF:=((hY4.set_ 0 (.slice A1 n1 c1)).set_ 1 (.slice A2 cn c2)).set_ 2 (.slice A3 jn c3);obtain⟨wF,hwF⟩ : ∃wF,wF=((w4.setCell ⟨w.heap.size+1,0,none⟩ (.slice A1 n1 c1)).setCell ⟨w.heap.size+1,1,none⟩ (.slice A2 cn c2)).setCell ⟨w.heap.size+1,2,none⟩ (.slice A3 jn c3):=⟨_,rfl⟩
 rw[←hwF]at hYF RR ⊢;clear hwF y0 y1 y2 yf hyl hY4;have z0:=hYF.cell 0;have z1:=hYF.cell 1;have z2:=hYF.cell 2;simp at z0 z1 z2;refine bodyPost_ret (v:=.tuple #[.agg #[.slice A1 n1 c1,.slice A2 cn c2,.slice A3 jn c3],.int .i64 0]) (by simp[results,Tryz.results16,go_sem,z0,z1,z2]) rfl ⟨_,_,_,_,_,_,_,rfl,RR.out.1,RR.out.2⟩
end Go.Proofs.YtjlkeoppppfeiaaGreat
namespace Go.Proofs.YtjlkeoppppfeiaaGreat
open Go.RowKit Go.Shelf Go.Sort Go.Proofs
structure JB (tR tP tC tJ:TypeId) (base:Nat) (w:World) (tb:Nat) (A1:Option Addr) (n1 c1:Nat) (ps:List Piece) (A2:Option Addr) (n2 c2:Nat) (cs:List Crest) (A3:Option Addr) (n3 c3:Nat) (js:List Junc):Prop where
 b:BK w tb tR #[.slice A1 n1 c1,.slice A2 n2 c2,.slice A3 n3 c3]
 p:OW pC 5 tP base w A1 n1 c1 ps
 c:OW cC 2 tC base w A2 n2 c2 cs
 j:OW jC 3 tJ base w A3 n3 c3 js
section
variable {tR tP tC tJ:TypeId} {base:Nat} {w w':World} {tb:Nat} {A1:Option Addr} {n1 c1:Nat} {ps:List Piece} {A2:Option Addr} {n2 c2:Nat} {cs:List Crest} {A3:Option Addr} {n3 c3:Nat} {js:List Junc}
theorem JB.call (h:JB tR tP tC tJ base w tb A1 n1 c1 ps A2 n2 c2 cs A3 n3 c3 js) (hb:Below w.heap.size w w'):JB tR tP tC tJ base w' tb A1 n1 c1 ps A2 n2 c2 cs A3 n3 c3 js:=
 ⟨h.b.below hb h.b.lt,h.p.call hb,h.c.call hb,h.j.call hb⟩
theorem JB.alloc (h:JB tR tP tC tJ base w tb A1 n1 c1 ps A2 n2 c2 cs A3 n3 c3 js) (o:Obj):JB tR tP tC tJ base (w.alloc o) tb A1 n1 c1 ps A2 n2 c2 cs A3 n3 c3 js:=
 ⟨h.b.alloc o,h.p.alloc o,h.c.alloc o,h.j.alloc o⟩
variable (h:JB tR tP tC tJ base w tb A1 n1 c1 ps A2 n2 c2 cs A3 n3 c3 js)
include h
end
end Go.Proofs.YtjlkeoppppfeiaaGreat
namespace Go.Proofs.YtjlkeoppppfeiaaGreat
open Go.RowKit Go.Shelf Go.Sort Go.Proofs
theorem JB.off {tR tP tC tJ:TypeId} {base:Nat} {w:World} {tb:Nat} {A1:Option Addr} {n1 c1:Nat} {ps:List Piece} {A2:Option Addr} {n2 c2:Nat} {cs:List Crest} {A3:Option Addr} {n3 c3:Nat} {js:List Junc}
  (h:JB tR tP tC tJ base w tb A1 n1 c1 ps A2 n2 c2 cs A3 n3 c3 js) {p:Addr} (hb:tb≠p.block) (h1:∀a,A1=some a→a.block≠p.block) (h2:∀a,A2=some a→a.block≠p.block) (h3:∀a,A3=some a→a.block≠p.block) (v:Value) :
  JB tR tP tC tJ base (w.setCell p v) tb A1 n1 c1 ps A2 n2 c2 cs A3 n3 c3 js:=
 ⟨h.b.far hb v,h.p.setCell h1 v,h.c.setCell h2 v,h.j.setCell h3 v⟩
end Go.Proofs.YtjlkeoppppfeiaaGreat
namespace Go.Proofs.YtjlkeoppppfeiaaGreat
open Go.RowKit Go.Shelf Go.Sort Go.Proofs
attribute [local go_sem] Oper.semAt_some
def DK (w:World) (D:Nat):Prop:=w.heap[D]?=some (.deferred (some []))
theorem DK.lt {w:World} {D:Nat} (h:DK w D):D<w.heap.size:=(Array.getElem?_eq_some_iff.1 h).1
theorem DK.alloc {w:World} {D:Nat} (h:DK w D) (o:Obj):DK (w.alloc o) D:=(Below.heap_alloc w o D h.lt).trans h
theorem DK.far {w:World} {D:Nat} (h:DK w D) {p:Addr} (hp:D≠p.block) (u:Value):DK (w.setCell p u) D:=(Below.heap_setCell w p u D hp).trans h
theorem DK.below {w w':World} {D B:Nat} (h:DK w D) (hb:Below B w w') (hg:D<B):DK w' D:=(hb.block D hg).trans h
theorem DK.ne_row {α:Type} {f:α→List Value} {sz:Nat} {e:TypeId} {base:Nat} {w:World} {D:Nat} {A:Option Addr} {n c:Nat} {l:List α} (h:DK w D) (ho:OW f sz e base w A n c l):∀g,A=some g→g.block≠D:=fun g hg he=>by
 subst hg;rcases ho.1.2 with⟨h3,_⟩|⟨g',cap,cur,h3,_,hg',_⟩
 ·cases h3
 ·injection h3 with h3
  injection h3 with h3
  subst h3;unfold DK at h;rw[show D=g' from he.symm,hg']at h
  cases h
end Go.Proofs.YtjlkeoppppfeiaaGreat
