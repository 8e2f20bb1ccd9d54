/- Lemmas. -/
import Derived.Test.YtjlkeoppppfeiaaGreatQSrvS
import Derived.Test.YtjlkeoppppfeiaaGreatQMendP
import Derived.Test.YtjlkeoppppfeiaaGreatQMake
import Derived.Test.YtjlkeoppppfeiaaGreatQRMan
import Derived.Test.YtjlkeoppppfeiaaGreatQMend
import Derived.Test.YtjlkeoppppfeiaaGreatQMr2
import Derived.Test.YtjlkeoppppfeiaaGreatQOrdM
namespace Go.Proofs.YtjlkeoppppfeiaaGreat
open Go.RowKit Go.Shelf Go.Sort Go.Proofs
theorem aAP {xs ys:List Crest} {k:Nat} (h:xs.take k=ys.take k) (h1:k<xs.length) (h2:k<ys.length) (he:((xs[k].pos == ys[k].pos)&&(xs[k].siz == ys[k].siz))=true):xs.take (k+1)=ys.take (k+1):=by
 refine iA h h1 h2 ?_
 rw[Bool.and_eq_true,beq_iff_eq,beq_iff_eq]at he
 generalize xs[k]=x at *
 generalize ys[k]=y at *
 obtain⟨a,b⟩:=x;obtain⟨a',b'⟩:=y;obtain⟨rfl,rfl⟩:=he
 rfl
theorem aBL {xs ys:List Junc} {k:Nat} (h:xs.take k=ys.take k) (h1:k<xs.length) (h2:k<ys.length) (he:((xs[k].pos == ys[k].pos)&&(xs[k].arms == ys[k].arms)&&(xs[k].way == ys[k].way))=true):xs.take (k+1)=ys.take (k+1):=by
 refine iA h h1 h2 ?_
 rw[Bool.and_eq_true,Bool.and_eq_true,beq_iff_eq,beq_iff_eq,beq_iff_eq]at he
 generalize xs[k]=x at *
 generalize ys[k]=y at *
 obtain⟨a,b,c⟩:=x;obtain⟨a',b',c'⟩:=y;obtain⟨⟨rfl,rfl⟩,rfl⟩:=he
 rfl
theorem aD4 {w w':World} {a b:List NoteR} {e:Ending} (h0:fS a b=0) (h:RMd w a b e w'):Below w.heap.size w w'∧∃A c,e = .returned (.tuple #[.slice A (mnd 0 a b).length c,.int .i64 0])∧OW eC 12 164 w.heap.size w' A (mnd 0 a b).length c (mnd 0 a b):=by
 obtain⟨hb,⟨hk,-⟩|⟨-,h⟩⟩:=h
 ·exact absurd h0 hk
 ·exact⟨hb,h⟩
theorem yW (b:BkR) (A:Option Addr) (c:Nat) (w:World) (h:SL iC 1 w w.heap.size A b.gs.length b.gs) (m:Bool) (hm:m=true↔BkOK b) :
  Calls Tryz.prog 8 #[bkA A c b] w fun e w'=>e = .returned (.bool m)∧Below w.heap.size w w':=
 (vN b A c w h).mono fun e w' ⟨m',he,hi,hb⟩=>⟨by rw[he,show m'=m from Bool.eq_iff_iff.2 (hi.trans hm.symm)],hb⟩
set_option maxRecDepth 100000 in
set_option maxHeartbeats 8000000 in
theorem xF (pa:Option Addr) (pn pc:Nat) (ca:Option Addr) (cn cc:Nat) (ja:Option Addr) (jn jc:Nat) (R:Road) (pa2:Option Addr) (pn2 pc2:Nat) (ca2:Option Addr) (cn2 cc2:Nat) (ja2:Option Addr) (jn2 jc2:Nat) (R2:Road) (A:Option Addr) (c:Nat) (b:BkR) (w:World)
  (hr:RD w w.heap.size pa pn ca cn ja jn R) (hr2:RD w w.heap.size pa2 pn2 ca2 cn2 ja2 jn2 R2) (h:SL iC 1 w w.heap.size A b.gs.length b.gs) (_:b.gs.length≤9223372036854775807) :
  Calls Tryz.prog 3 #[.agg #[.slice pa pn pc,.slice ca cn cc,.slice ja jn jc],.agg #[.slice pa2 pn2 pc2,.slice ca2 cn2 cc2,.slice ja2 jn2 jc2],bkA A c b] w fun e w'=>e = .returned (.bool true)∧Below w.heap.size w w':=by
 have hmo:Tryz.prog.follows .mixedOrders=true:=by kernel_rfl
 obtain⟨w0,hw0⟩ : ∃w0,w0=((w.alloc (.cells #[.slice pa pn pc,.slice ca cn cc,.slice ja jn jc] 26)).alloc (.cells #[.slice pa2 pn2 pc2,.slice ca2 cn2 cc2,.slice ja2 jn2 jc2] 26)).alloc (.cells #[.slice A b.gs.length c,.int .i64 b.sh,.int .i64 b.lo,.int .i64 b.ra,.int .i64 b.an,.int .i64 b.io,.int .i64 b.st,.int .i64 b.ga,.int .i64 b.le] 31):=⟨_,rfl⟩
 have HX0:Hid (BK w0 w.heap.size 26 #[.slice pa pn pc,.slice ca cn cc,.slice ja jn jc]):=by show BK _ _ _ _;rw[hw0];exact((BK.new w _ _).alloc _).alloc _
 have HZ0:Hid (BK w0 (w.heap.size+1) 26 #[.slice pa2 pn2 pc2,.slice ca2 cn2 cc2,.slice ja2 jn2 jc2]):=by
  show BK _ _ _ _
  have:=BK.new (w.alloc (.cells #[.slice pa pn pc,.slice ca cn cc,.slice ja jn jc] 26)) 26 #[.slice pa2 pn2 pc2,.slice ca2 cn2 cc2,.slice ja2 jn2 jc2];rw[World.size_alloc]at this;rw[hw0];exact this.alloc _
 have HM0:Hid (BK w0 (w.heap.size+2) 31 #[.slice A b.gs.length c,.int .i64 b.sh,.int .i64 b.lo,.int .i64 b.ra,.int .i64 b.an,.int .i64 b.io,.int .i64 b.st,.int .i64 b.ga,.int .i64 b.le]):=by
  show BK _ _ _ _
  have:=BK.new ((w.alloc (.cells #[.slice pa pn pc,.slice ca cn cc,.slice ja jn jc] 26)).alloc (.cells #[.slice pa2 pn2 pc2,.slice ca2 cn2 cc2,.slice ja2 jn2 jc2] 26)) 31 #[.slice A b.gs.length c,.int .i64 b.sh,.int .i64 b.lo,.int .i64 b.ra,.int .i64 b.an,.int .i64 b.io,.int .i64 b.st,.int .i64 b.ga,.int .i64 b.le];rw[World.size_alloc,World.size_alloc]at this;rw[hw0];exact this
 have HB0:Hid (Below w.heap.size w w0):=by show Below _ _ _;rw[hw0];exact(((Below.refl _ w).alloc (Nat.le_refl _) _).alloc (by simp) _).alloc (by simp;omega) _
 have HR:=Lib.hid hr;have HR2:=Lib.hid hr2;have HS:=Lib.hid h;have HF1:=Lib.hid (fun(W:World) (hW:RD W W.heap.size pa pn ca cn ja jn R)=>sF pa pn pc ca cn cc ja jn jc R 2000 W hW)
 have HF2:=Lib.hid (fun(W:World) (hW:RD W W.heap.size pa2 pn2 ca2 cn2 ja2 jn2 R2)=>sF pa2 pn2 pc2 ca2 cn2 cc2 ja2 jn2 jc2 R2 2000 W hW)
 have HG1:=Lib.hid (fun d os=>HR.out.grow (HB0.out.trans ((below_regrown w0 d os).mono HB0.out.size)) (HB0.out.trans ((below_regrown w0 d os).mono HB0.out.size)).size)
 have HG2:=Lib.hid (fun d os=>HR2.out.grow (HB0.out.trans ((below_regrown w0 d os).mono HB0.out.size)) (HB0.out.trans ((below_regrown w0 d os).mono HB0.out.size)).size)
 have HG3:=Lib.hid (fun d os=>(HS.out.below (HB0.out.trans ((below_regrown w0 d os).mono HB0.out.size))).more (HB0.out.trans ((below_regrown w0 d os).mono HB0.out.size)).size)
 obtain⟨m0',m1',m2',m3',m4',m5',m6',m7',m8'⟩:=bk9 HM0.out;obtain⟨x0',x1',x2'⟩:=aO HX0.out;obtain⟨z0',z1',z2'⟩:=aO HZ0.out;have m0:=fun d os=>cell_regrown m0' d os
 have m1:=fun d os=>cell_regrown m1' d os
 have m2:=fun d os=>cell_regrown m2' d os
 have m3:=fun d os=>cell_regrown m3' d os
 have m4:=fun d os=>cell_regrown m4' d os
 have m5:=fun d os=>cell_regrown m5' d os
 have m6:=fun d os=>cell_regrown m6' d os
 have m7:=fun d os=>cell_regrown m7' d os
 have m8:=fun d os=>cell_regrown m8' d os
 have x0:=fun d os=>cell_regrown x0' d os
 have x1:=fun d os=>cell_regrown x1' d os
 have x2:=fun d os=>cell_regrown x2' d os
 have z0:=fun d os=>cell_regrown z0' d os
 have z1:=fun d os=>cell_regrown z1' d os
 have z2:=fun d os=>cell_regrown z2' d os
 unfold bkA;clear hr hr2 h m0' m1' m2' m3' m4' m5' m6' m7' m8' x0' x1' x2' z0' z1' z2';go_enter Tryz.func3,Tryz.ntmps3
 go_upto_region 1 with fail
 rw[←hw0];clear hw0;cases hf0:eN R 2000 with
 |false=>
  have F0:=Lib.hid hf0;clear hf0
  as_aux_lemma=>
   refine aM 25 [1,3,5,8,10,12,15,21,23] hmo (by kernel_rfl) ?_
   simp only[List.take_succ_cons,List.take_zero,List.drop_succ_cons,List.drop_zero]
   repeat (with_reducible refine aH (by decide) (by decide) (fun K hK=>?_);go_simp;(try rw[if_neg (by simp[undef])]);refine hK _ ?_;clear hK K)
   with_reducible refine bF (ι:=Unit) 6 #[.agg #[.slice pa pn pc,.slice ca cn cc,.slice ja jn jc],.int .i64 2000] (fun _=>.bool false) (fun _ _=>True) (by decide) (by decide) (by go_simp) (fun w=>by go_simp) aB (fun _=>aB) (fun W hW _=>?_) (fun i0 hs0=>?_)
   ·obtain⟨pp,rfl⟩:=hW
    refine(HF1.out _ (HG1.out _ _)).mono ?_
    rintro e w' ⟨rfl,hbl⟩;exact⟨(),by rw[F0.out],trivial,hbl⟩
   repeat (with_reducible refine aH (by decide) (by decide) (fun K hK=>?_);go_simp;(try rw[if_neg (by simp[undef])]);refine hK _ ?_;clear hK K)
   with_reducible refine cH (ι:=Unit) (fun _=>.bool true) (fun _ _=>True) (by decide) (by decide) (by go_simp) hs0 (fun _=>aB) (fun W _ _=>⟨(),W,by go_simp,trivial,Below.refl _ _⟩) (fun i1 hs1=>?_)
   repeat (with_reducible refine aH (by decide) (by decide) (fun K hK=>?_);go_simp;(try rw[if_neg (by simp[undef])]);refine hK _ ?_;clear hK K)
   with_reducible refine fC (by decide) (by go_simp) ?_
   repeat (with_reducible refine aH (by decide) (by decide) (fun K hK=>?_);go_simp;(try rw[if_neg (by simp[undef])]);refine hK _ ?_;clear hK K)
   with_reducible refine cH (ι:=Unit) (fun _=>.bool true) (fun _ _=>True) (by decide) (by decide) (by go_simp) hs1 (fun _=>aB) (fun W _ _=>⟨(),W,by go_simp,trivial,Below.refl _ _⟩) (fun i2 hs2=>?_)
   repeat (with_reducible refine aH (by decide) (by decide) (fun K hK=>?_);go_simp;(try rw[if_neg (by simp[undef])]);refine hK _ ?_;clear hK K)
   with_reducible refine fC (by decide) (by go_simp) ?_
   repeat (with_reducible refine aH (by decide) (by decide) (fun K hK=>?_);go_simp;(try rw[if_neg (by simp[undef])]);refine hK _ ?_;clear hK K)
   with_reducible refine fC (by decide) (by go_simp) ?_
   repeat (with_reducible refine aH (by decide) (by decide) (fun K hK=>?_);go_simp;(try rw[if_neg (by simp[undef])]);refine hK _ ?_;clear hK K)
   with_reducible refine cH (ι:=Unit) (fun _=>.bool true) (fun _ _=>True) (by decide) (by decide) (by go_simp) hs2 (fun _=>aB) (fun W _ _=>⟨(),W,by go_simp,trivial,Below.refl _ _⟩) (fun i3 hs3=>?_)
   repeat (with_reducible refine aH (by decide) (by decide) (fun K hK=>?_);go_simp;(try rw[if_neg (by simp[undef])]);refine hK _ ?_;clear hK K)
   with_reducible refine cH (ι:=Unit) (fun _=>.bool true) (fun _ _=>True) (by decide) (by decide) (by go_simp) hs3 (fun _=>aB) (fun W _ _=>⟨(),W,by go_simp,trivial,Below.refl _ _⟩) (fun i4 hs4=>?_)
   repeat (with_reducible refine aH (by decide) (by decide) (fun K hK=>?_);go_simp;(try rw[if_neg (by simp[undef])]);refine hK _ ?_;clear hK K)
   with_reducible refine fC (by decide) (by go_simp) ?_
   repeat (with_reducible refine aH (by decide) (by decide) (fun K hK=>?_);go_simp;(try rw[if_neg (by simp[undef])]);refine hK _ ?_;clear hK K)
   refine bI ?_
   intro w1 hb1 _;clear x0 x1 x2 z0 z1 z2 m0 m1 m2 m3 m4 m5 m6 m7 m8 HG1 HG2 HG3 hs0 hs1 hs2 hs3 hs4;have HBX:=Lib.hid (HB0.out.trans (hb1.mono HB0.out.size));clear hb1;go_wp2_with fail
   refine(bO _).mono ?_
   rintro e w9 ⟨rfl,hb9⟩;go_wp2_with fail
   go_ret
   exact⟨rfl,HBX.out.trans (hb9.mono HBX.out.size)⟩
 |true=>
 have F0:=Lib.hid hf0;have HV1:=Lib.hid (qD hf0);clear hf0;cases hf1:eN R2 2000 with
 |false=>
  have F1:=Lib.hid hf1;clear hf1
  as_aux_lemma=>
   refine aM 25 [1,3,5,8,10,12,15,21,23] hmo (by kernel_rfl) ?_
   simp only[List.take_succ_cons,List.take_zero,List.drop_succ_cons,List.drop_zero]
   repeat (with_reducible refine aH (by decide) (by decide) (fun K hK=>?_);go_simp;(try rw[if_neg (by simp[undef])]);refine hK _ ?_;clear hK K)
   with_reducible refine bF (ι:=Unit) 6 #[.agg #[.slice pa pn pc,.slice ca cn cc,.slice ja jn jc],.int .i64 2000] (fun _=>.bool true) (fun _ _=>True) (by decide) (by decide) (by go_simp) (fun w=>by go_simp) aB (fun _=>aB) (fun W hW _=>?_) (fun i0 hs0=>?_)
   ·obtain⟨pp,rfl⟩:=hW
    refine(HF1.out _ (HG1.out _ _)).mono ?_
    rintro e w' ⟨rfl,hbl⟩;exact⟨(),by rw[F0.out],trivial,hbl⟩
   repeat (with_reducible refine aH (by decide) (by decide) (fun K hK=>?_);go_simp;(try rw[if_neg (by simp[undef])]);refine hK _ ?_;clear hK K)
   with_reducible refine cH (ι:=Unit) (fun _=>.bool false) (fun _ _=>True) (by decide) (by decide) (by go_simp) hs0 (fun _=>aB) (fun W _ _=>⟨(),W,by go_simp,trivial,Below.refl _ _⟩) (fun i1 hs1=>?_)
   repeat (with_reducible refine aH (by decide) (by decide) (fun K hK=>?_);go_simp;(try rw[if_neg (by simp[undef])]);refine hK _ ?_;clear hK K)
   with_reducible refine bF (ι:=Unit) 6 #[.agg #[.slice pa2 pn2 pc2,.slice ca2 cn2 cc2,.slice ja2 jn2 jc2],.int .i64 2000] (fun _=>.bool false) (fun _ _=>True) (by decide) (by decide) (by go_simp) (fun w=>by go_simp) hs1 (fun _=>aB) (fun W hW _=>?_) (fun i2 hs2=>?_)
   ·obtain⟨pp,rfl⟩:=hW
    refine(HF2.out _ (HG2.out _ _)).mono ?_
    rintro e w' ⟨rfl,hbl⟩;exact⟨(),by rw[F1.out],trivial,hbl⟩
   repeat (with_reducible refine aH (by decide) (by decide) (fun K hK=>?_);go_simp;(try rw[if_neg (by simp[undef])]);refine hK _ ?_;clear hK K)
   with_reducible refine cH (ι:=Unit) (fun _=>.bool true) (fun _ _=>True) (by decide) (by decide) (by go_simp) hs2 (fun _=>aB) (fun W _ _=>⟨(),W,by go_simp,trivial,Below.refl _ _⟩) (fun i3 hs3=>?_)
   repeat (with_reducible refine aH (by decide) (by decide) (fun K hK=>?_);go_simp;(try rw[if_neg (by simp[undef])]);refine hK _ ?_;clear hK K)
   with_reducible refine fC (by decide) (by go_simp) ?_
   repeat (with_reducible refine aH (by decide) (by decide) (fun K hK=>?_);go_simp;(try rw[if_neg (by simp[undef])]);refine hK _ ?_;clear hK K)
   with_reducible refine fC (by decide) (by go_simp) ?_
   repeat (with_reducible refine aH (by decide) (by decide) (fun K hK=>?_);go_simp;(try rw[if_neg (by simp[undef])]);refine hK _ ?_;clear hK K)
   with_reducible refine cH (ι:=Unit) (fun _=>.bool true) (fun _ _=>True) (by decide) (by decide) (by go_simp) hs3 (fun _=>aB) (fun W _ _=>⟨(),W,by go_simp,trivial,Below.refl _ _⟩) (fun i4 hs4=>?_)
   repeat (with_reducible refine aH (by decide) (by decide) (fun K hK=>?_);go_simp;(try rw[if_neg (by simp[undef])]);refine hK _ ?_;clear hK K)
   with_reducible refine cH (ι:=Unit) (fun _=>.bool true) (fun _ _=>True) (by decide) (by decide) (by go_simp) hs4 (fun _=>aB) (fun W _ _=>⟨(),W,by go_simp,trivial,Below.refl _ _⟩) (fun i5 hs5=>?_)
   repeat (with_reducible refine aH (by decide) (by decide) (fun K hK=>?_);go_simp;(try rw[if_neg (by simp[undef])]);refine hK _ ?_;clear hK K)
   with_reducible refine fC (by decide) (by go_simp) ?_
   repeat (with_reducible refine aH (by decide) (by decide) (fun K hK=>?_);go_simp;(try rw[if_neg (by simp[undef])]);refine hK _ ?_;clear hK K)
   refine bI ?_
   intro w1 hb1 _;clear x0 x1 x2 z0 z1 z2 m0 m1 m2 m3 m4 m5 m6 m7 m8 HG1 HG2 HG3 hs0 hs1 hs2 hs3 hs4 hs5;have HBX:=Lib.hid (HB0.out.trans (hb1.mono HB0.out.size));clear hb1;go_wp2_with fail
   refine(bO _).mono ?_
   rintro e w9 ⟨rfl,hb9⟩;go_wp2_with fail
   go_ret
   exact⟨rfl,HBX.out.trans (hb9.mono HBX.out.size)⟩
 |true=>
 have F1:=Lib.hid hf1;have HV2:=Lib.hid (qD hf1);clear hf1;have HPL1:Hid (pn≤100000):=by show _≤_;rw[HR.out.p.1];exact Nat.le_trans HV1.out.2.1 (by decide)
 have HPL2:Hid (pn2≤100000):=by show _≤_;rw[HR2.out.p.1];exact Nat.le_trans HV2.out.2.1 (by decide)
 have HL1:=Lib.hid (fun(W:World) (hW:RD W W.heap.size pa pn ca cn ja jn R)=>gB pa pn pc ca cn cc ja jn jc R W hW HV1.out.1.pk HPL1.out)
 have HL2:=Lib.hid (fun(W:World) (hW:RD W W.heap.size pa2 pn2 ca2 cn2 ja2 jn2 R2)=>gB pa2 pn2 pc2 ca2 cn2 cc2 ja2 jn2 jc2 R2 W hW HV2.out.1.pk HPL2.out)
 by_cases hsum:sumL R.ps=sumL R2.ps
 case neg=>
  have gs:(sumL R.ps != sumL R2.ps)=true:=by simpa using hsum
  clear hsum
  as_aux_lemma=>
   refine aM 25 [1,3,5,8,10,12,15,21,23] hmo (by kernel_rfl) ?_
   simp only[List.take_succ_cons,List.take_zero,List.drop_succ_cons,List.drop_zero]
   repeat (with_reducible refine aH (by decide) (by decide) (fun K hK=>?_);go_simp;(try rw[if_neg (by simp[undef])]);refine hK _ ?_;clear hK K)
   with_reducible refine bF (ι:=Unit) 6 #[.agg #[.slice pa pn pc,.slice ca cn cc,.slice ja jn jc],.int .i64 2000] (fun _=>.bool true) (fun _ _=>True) (by decide) (by decide) (by go_simp) (fun w=>by go_simp) aB (fun _=>aB) (fun W hW _=>?_) (fun i0 hs0=>?_)
   ·obtain⟨pp,rfl⟩:=hW
    refine(HF1.out _ (HG1.out _ _)).mono ?_
    rintro e w' ⟨rfl,hbl⟩;exact⟨(),by rw[F0.out],trivial,hbl⟩
   repeat (with_reducible refine aH (by decide) (by decide) (fun K hK=>?_);go_simp;(try rw[if_neg (by simp[undef])]);refine hK _ ?_;clear hK K)
   with_reducible refine cH (ι:=Unit) (fun _=>.bool false) (fun _ _=>True) (by decide) (by decide) (by go_simp) hs0 (fun _=>aB) (fun W _ _=>⟨(),W,by go_simp,trivial,Below.refl _ _⟩) (fun i1 hs1=>?_)
   repeat (with_reducible refine aH (by decide) (by decide) (fun K hK=>?_);go_simp;(try rw[if_neg (by simp[undef])]);refine hK _ ?_;clear hK K)
   with_reducible refine bF (ι:=Unit) 6 #[.agg #[.slice pa2 pn2 pc2,.slice ca2 cn2 cc2,.slice ja2 jn2 jc2],.int .i64 2000] (fun _=>.bool true) (fun _ _=>True) (by decide) (by decide) (by go_simp) (fun w=>by go_simp) hs1 (fun _=>aB) (fun W hW _=>?_) (fun i2 hs2=>?_)
   ·obtain⟨pp,rfl⟩:=hW
    refine(HF2.out _ (HG2.out _ _)).mono ?_
    rintro e w' ⟨rfl,hbl⟩;exact⟨(),by rw[F1.out],trivial,hbl⟩
   repeat (with_reducible refine aH (by decide) (by decide) (fun K hK=>?_);go_simp;(try rw[if_neg (by simp[undef])]);refine hK _ ?_;clear hK K)
   with_reducible refine cH (ι:=Unit) (fun _=>.bool false) (fun _ _=>True) (by decide) (by decide) (by go_simp) hs2 (fun _=>aB) (fun W _ _=>⟨(),W,by go_simp,trivial,Below.refl _ _⟩) (fun i3 hs3=>?_)
   repeat (with_reducible refine aH (by decide) (by decide) (fun K hK=>?_);go_simp;(try rw[if_neg (by simp[undef])]);refine hK _ ?_;clear hK K)
   with_reducible refine bF (ι:=Unit) 7 #[.agg #[.slice pa pn pc,.slice ca cn cc,.slice ja jn jc]] (fun _=>.int .i64 (sumL R.ps)) (fun _ _=>True) (by decide) (by decide) (by go_simp) (fun w=>by go_simp) hs3 (fun _=>aB) (fun W hW _=>?_) (fun i4 hs4=>?_)
   ·obtain⟨pp,rfl⟩:=hW
    refine(HL1.out _ (HG1.out _ _)).mono ?_
    rintro e w' ⟨rfl,hbl⟩;exact⟨(),rfl,trivial,hbl⟩
   repeat (with_reducible refine aH (by decide) (by decide) (fun K hK=>?_);go_simp;(try rw[if_neg (by simp[undef])]);refine hK _ ?_;clear hK K)
   with_reducible refine bF (ι:=Unit) 7 #[.agg #[.slice pa2 pn2 pc2,.slice ca2 cn2 cc2,.slice ja2 jn2 jc2]] (fun _=>.int .i64 (sumL R2.ps)) (fun _ _=>True) (by decide) (by decide) (by go_simp) (fun w=>by go_simp) hs4 (fun _=>aB) (fun W hW _=>?_) (fun i5 hs5=>?_)
   ·obtain⟨pp,rfl⟩:=hW
    refine(HL2.out _ (HG2.out _ _)).mono ?_
    rintro e w' ⟨rfl,hbl⟩;exact⟨(),rfl,trivial,hbl⟩
   repeat (with_reducible refine aH (by decide) (by decide) (fun K hK=>?_);go_simp;(try rw[if_neg (by simp[undef])]);refine hK _ ?_;clear hK K)
   with_reducible refine cH (ι:=Unit) (fun _=>.bool true) (fun _ _=>True) (by decide) (by decide) (by go_simp) hs5 (fun _=>aB) (fun W _ _=>⟨(),W,by go_simp,trivial,Below.refl _ _⟩) (fun i6 hs6=>?_)
   repeat (with_reducible refine aH (by decide) (by decide) (fun K hK=>?_);go_simp;(try rw[if_neg (by simp[undef])]);refine hK _ ?_;clear hK K)
   with_reducible refine cH (ι:=Unit) (fun _=>.bool true) (fun _ _=>True) (by decide) (by decide) (by go_simp) hs6 (fun _=>aB) (fun W _ _=>⟨(),W,by go_simp,trivial,Below.refl _ _⟩) (fun i7 hs7=>?_)
   repeat (with_reducible refine aH (by decide) (by decide) (fun K hK=>?_);go_simp;(try rw[if_neg (by simp[undef])]);refine hK _ ?_;clear hK K)
   with_reducible refine fC (by decide) (by go_simp) ?_
   repeat (with_reducible refine aH (by decide) (by decide) (fun K hK=>?_);go_simp;(try rw[if_neg (by simp[undef])]);refine hK _ ?_;clear hK K)
   refine bI ?_
   intro w1 hb1 _;clear x0 x1 x2 z0 z1 z2 m0 m1 m2 m3 m4 m5 m6 m7 m8 HG1 HG2 HG3 hs0 hs1 hs2 hs3 hs4 hs5 hs6 hs7;have HBX:=Lib.hid (HB0.out.trans (hb1.mono HB0.out.size));clear hb1;go_wp2_with fail
   refine(bO _).mono ?_
   rintro e w9 ⟨rfl,hb9⟩;go_wp2_with fail
   go_ret
   exact⟨rfl,HBX.out.trans (hb9.mono HBX.out.size)⟩
 have gs:(sumL R.ps != sumL R2.ps)=false:=by simpa using hsum
 have HSUM:=Lib.hid hsum;by_cases h8:8<b.gs.length
 case pos=>
  have g8:decide ((8:Int)<(b.gs.length:Int))=true:=by simp;omega
  clear h8 hsum
  as_aux_lemma=>
   refine aM 25 [1,3,5,8,10,12,15,21,23] hmo (by kernel_rfl) ?_
   simp only[List.take_succ_cons,List.take_zero,List.drop_succ_cons,List.drop_zero]
   repeat (with_reducible refine aH (by decide) (by decide) (fun K hK=>?_);go_simp;(try rw[if_neg (by simp[undef])]);refine hK _ ?_;clear hK K)
   with_reducible refine bF (ι:=Unit) 6 #[.agg #[.slice pa pn pc,.slice ca cn cc,.slice ja jn jc],.int .i64 2000] (fun _=>.bool true) (fun _ _=>True) (by decide) (by decide) (by go_simp) (fun w=>by go_simp) aB (fun _=>aB) (fun W hW _=>?_) (fun i0 hs0=>?_)
   ·obtain⟨pp,rfl⟩:=hW
    refine(HF1.out _ (HG1.out _ _)).mono ?_
    rintro e w' ⟨rfl,hbl⟩;exact⟨(),by rw[F0.out],trivial,hbl⟩
   repeat (with_reducible refine aH (by decide) (by decide) (fun K hK=>?_);go_simp;(try rw[if_neg (by simp[undef])]);refine hK _ ?_;clear hK K)
   with_reducible refine cH (ι:=Unit) (fun _=>.bool false) (fun _ _=>True) (by decide) (by decide) (by go_simp) hs0 (fun _=>aB) (fun W _ _=>⟨(),W,by go_simp,trivial,Below.refl _ _⟩) (fun i1 hs1=>?_)
   repeat (with_reducible refine aH (by decide) (by decide) (fun K hK=>?_);go_simp;(try rw[if_neg (by simp[undef])]);refine hK _ ?_;clear hK K)
   with_reducible refine bF (ι:=Unit) 6 #[.agg #[.slice pa2 pn2 pc2,.slice ca2 cn2 cc2,.slice ja2 jn2 jc2],.int .i64 2000] (fun _=>.bool true) (fun _ _=>True) (by decide) (by decide) (by go_simp) (fun w=>by go_simp) hs1 (fun _=>aB) (fun W hW _=>?_) (fun i2 hs2=>?_)
   ·obtain⟨pp,rfl⟩:=hW
    refine(HF2.out _ (HG2.out _ _)).mono ?_
    rintro e w' ⟨rfl,hbl⟩;exact⟨(),by rw[F1.out],trivial,hbl⟩
   repeat (with_reducible refine aH (by decide) (by decide) (fun K hK=>?_);go_simp;(try rw[if_neg (by simp[undef])]);refine hK _ ?_;clear hK K)
   with_reducible refine cH (ι:=Unit) (fun _=>.bool false) (fun _ _=>True) (by decide) (by decide) (by go_simp) hs2 (fun _=>aB) (fun W _ _=>⟨(),W,by go_simp,trivial,Below.refl _ _⟩) (fun i3 hs3=>?_)
   repeat (with_reducible refine aH (by decide) (by decide) (fun K hK=>?_);go_simp;(try rw[if_neg (by simp[undef])]);refine hK _ ?_;clear hK K)
   with_reducible refine bF (ι:=Unit) 7 #[.agg #[.slice pa pn pc,.slice ca cn cc,.slice ja jn jc]] (fun _=>.int .i64 (sumL R.ps)) (fun _ _=>True) (by decide) (by decide) (by go_simp) (fun w=>by go_simp) hs3 (fun _=>aB) (fun W hW _=>?_) (fun i4 hs4=>?_)
   ·obtain⟨pp,rfl⟩:=hW
    refine(HL1.out _ (HG1.out _ _)).mono ?_
    rintro e w' ⟨rfl,hbl⟩;exact⟨(),rfl,trivial,hbl⟩
   repeat (with_reducible refine aH (by decide) (by decide) (fun K hK=>?_);go_simp;(try rw[if_neg (by simp[undef])]);refine hK _ ?_;clear hK K)
   with_reducible refine bF (ι:=Unit) 7 #[.agg #[.slice pa2 pn2 pc2,.slice ca2 cn2 cc2,.slice ja2 jn2 jc2]] (fun _=>.int .i64 (sumL R2.ps)) (fun _ _=>True) (by decide) (by decide) (by go_simp) (fun w=>by go_simp) hs4 (fun _=>aB) (fun W hW _=>?_) (fun i5 hs5=>?_)
   ·obtain⟨pp,rfl⟩:=hW
    refine(HL2.out _ (HG2.out _ _)).mono ?_
    rintro e w' ⟨rfl,hbl⟩;exact⟨(),rfl,trivial,hbl⟩
   repeat (with_reducible refine aH (by decide) (by decide) (fun K hK=>?_);go_simp;(try rw[if_neg (by simp[undef])]);refine hK _ ?_;clear hK K)
   with_reducible refine cH (ι:=Unit) (fun _=>.bool false) (fun _ _=>True) (by decide) (by decide) (by go_simp) hs5 (fun _=>aB) (fun W _ _=>⟨(),W,by go_simp,trivial,Below.refl _ _⟩) (fun i6 hs6=>?_)
   repeat (with_reducible refine aH (by decide) (by decide) (fun K hK=>?_);go_simp;(try rw[if_neg (by simp[undef])]);refine hK _ ?_;clear hK K)
   with_reducible refine cH (ι:=Unit) (fun _=>.bool true) (fun _ _=>True) (by decide) (by decide) (by go_simp) hs6 (fun _=>aB) (fun W _ _=>⟨(),W,by go_simp,trivial,Below.refl _ _⟩) (fun i7 hs7=>?_)
   repeat (with_reducible refine aH (by decide) (by decide) (fun K hK=>?_);go_simp;(try rw[if_neg (by simp[undef])]);refine hK _ ?_;clear hK K)
   with_reducible refine fC (by decide) (by go_simp) ?_
   repeat (with_reducible refine aH (by decide) (by decide) (fun K hK=>?_);go_simp;(try rw[if_neg (by simp[undef])]);refine hK _ ?_;clear hK K)
   refine bI ?_
   intro w1 hb1 _;clear x0 x1 x2 z0 z1 z2 m0 m1 m2 m3 m4 m5 m6 m7 m8 HG1 HG2 HG3 hs0 hs1 hs2 hs3 hs4 hs5 hs6 hs7;have HBX:=Lib.hid (HB0.out.trans (hb1.mono HB0.out.size));clear hb1;go_wp2_with fail
   refine(bO _).mono ?_
   rintro e w9 ⟨rfl,hb9⟩;go_wp2_with fail
   go_ret
   exact⟨rfl,HBX.out.trans (hb9.mono HBX.out.size)⟩
 have g8:decide ((8:Int)<(b.gs.length:Int))=false:=by simp;omega
 clear h8 hsum;by_cases hbk:BkOK b
 case neg=>
  have HMA:=Lib.hid (fun(W:World) (hW:SL iC 1 W W.heap.size A b.gs.length b.gs)=>yW b A c W hW false (by constructor;intro q;cases q;intro q;exact absurd q hbk))
  unfold bkA at HMA;clear hbk
  as_aux_lemma=>
   refine aM 25 [1,3,5,8,10,12,15,21,23] hmo (by kernel_rfl) ?_
   simp only[List.take_succ_cons,List.take_zero,List.drop_succ_cons,List.drop_zero]
   repeat (with_reducible refine aH (by decide) (by decide) (fun K hK=>?_);go_simp;(try rw[if_neg (by simp[undef])]);refine hK _ ?_;clear hK K)
   with_reducible refine bF (ι:=Unit) 6 #[.agg #[.slice pa pn pc,.slice ca cn cc,.slice ja jn jc],.int .i64 2000] (fun _=>.bool true) (fun _ _=>True) (by decide) (by decide) (by go_simp) (fun w=>by go_simp) aB (fun _=>aB) (fun W hW _=>?_) (fun i0 hs0=>?_)
   ·obtain⟨pp,rfl⟩:=hW
    refine(HF1.out _ (HG1.out _ _)).mono ?_
    rintro e w' ⟨rfl,hbl⟩;exact⟨(),by rw[F0.out],trivial,hbl⟩
   repeat (with_reducible refine aH (by decide) (by decide) (fun K hK=>?_);go_simp;(try rw[if_neg (by simp[undef])]);refine hK _ ?_;clear hK K)
   with_reducible refine cH (ι:=Unit) (fun _=>.bool false) (fun _ _=>True) (by decide) (by decide) (by go_simp) hs0 (fun _=>aB) (fun W _ _=>⟨(),W,by go_simp,trivial,Below.refl _ _⟩) (fun i1 hs1=>?_)
   repeat (with_reducible refine aH (by decide) (by decide) (fun K hK=>?_);go_simp;(try rw[if_neg (by simp[undef])]);refine hK _ ?_;clear hK K)
   with_reducible refine bF (ι:=Unit) 6 #[.agg #[.slice pa2 pn2 pc2,.slice ca2 cn2 cc2,.slice ja2 jn2 jc2],.int .i64 2000] (fun _=>.bool true) (fun _ _=>True) (by decide) (by decide) (by go_simp) (fun w=>by go_simp) hs1 (fun _=>aB) (fun W hW _=>?_) (fun i2 hs2=>?_)
   ·obtain⟨pp,rfl⟩:=hW
    refine(HF2.out _ (HG2.out _ _)).mono ?_
    rintro e w' ⟨rfl,hbl⟩;exact⟨(),by rw[F1.out],trivial,hbl⟩
   repeat (with_reducible refine aH (by decide) (by decide) (fun K hK=>?_);go_simp;(try rw[if_neg (by simp[undef])]);refine hK _ ?_;clear hK K)
   with_reducible refine cH (ι:=Unit) (fun _=>.bool false) (fun _ _=>True) (by decide) (by decide) (by go_simp) hs2 (fun _=>aB) (fun W _ _=>⟨(),W,by go_simp,trivial,Below.refl _ _⟩) (fun i3 hs3=>?_)
   repeat (with_reducible refine aH (by decide) (by decide) (fun K hK=>?_);go_simp;(try rw[if_neg (by simp[undef])]);refine hK _ ?_;clear hK K)
   with_reducible refine bF (ι:=Unit) 7 #[.agg #[.slice pa pn pc,.slice ca cn cc,.slice ja jn jc]] (fun _=>.int .i64 (sumL R.ps)) (fun _ _=>True) (by decide) (by decide) (by go_simp) (fun w=>by go_simp) hs3 (fun _=>aB) (fun W hW _=>?_) (fun i4 hs4=>?_)
   ·obtain⟨pp,rfl⟩:=hW
    refine(HL1.out _ (HG1.out _ _)).mono ?_
    rintro e w' ⟨rfl,hbl⟩;exact⟨(),rfl,trivial,hbl⟩
   repeat (with_reducible refine aH (by decide) (by decide) (fun K hK=>?_);go_simp;(try rw[if_neg (by simp[undef])]);refine hK _ ?_;clear hK K)
   with_reducible refine bF (ι:=Unit) 7 #[.agg #[.slice pa2 pn2 pc2,.slice ca2 cn2 cc2,.slice ja2 jn2 jc2]] (fun _=>.int .i64 (sumL R2.ps)) (fun _ _=>True) (by decide) (by decide) (by go_simp) (fun w=>by go_simp) hs4 (fun _=>aB) (fun W hW _=>?_) (fun i5 hs5=>?_)
   ·obtain⟨pp,rfl⟩:=hW
    refine(HL2.out _ (HG2.out _ _)).mono ?_
    rintro e w' ⟨rfl,hbl⟩;exact⟨(),rfl,trivial,hbl⟩
   repeat (with_reducible refine aH (by decide) (by decide) (fun K hK=>?_);go_simp;(try rw[if_neg (by simp[undef])]);refine hK _ ?_;clear hK K)
   with_reducible refine cH (ι:=Unit) (fun _=>.bool false) (fun _ _=>True) (by decide) (by decide) (by go_simp) hs5 (fun _=>aB) (fun W _ _=>⟨(),W,by go_simp,trivial,Below.refl _ _⟩) (fun i6 hs6=>?_)
   repeat (with_reducible refine aH (by decide) (by decide) (fun K hK=>?_);go_simp;(try rw[if_neg (by simp[undef])]);refine hK _ ?_;clear hK K)
   with_reducible refine cH (ι:=Unit) (fun _=>.bool false) (fun _ _=>True) (by decide) (by decide) (by go_simp) hs6 (fun _=>aB) (fun W _ _=>⟨(),W,by go_simp,trivial,Below.refl _ _⟩) (fun i7 hs7=>?_)
   repeat (with_reducible refine aH (by decide) (by decide) (fun K hK=>?_);go_simp;(try rw[if_neg (by simp[undef])]);refine hK _ ?_;clear hK K)
   with_reducible refine bF (ι:=Unit) 8 #[.agg #[.slice A b.gs.length c,.int .i64 b.sh,.int .i64 b.lo,.int .i64 b.ra,.int .i64 b.an,.int .i64 b.io,.int .i64 b.st,.int .i64 b.ga,.int .i64 b.le]] (fun _=>.bool false) (fun _ _=>True) (by decide) (by decide) (by go_simp) (fun w=>by go_simp) hs7 (fun _=>aB) (fun W hW _=>?_) (fun i8 hs8=>?_)
   ·obtain⟨pp,rfl⟩:=hW
    refine(HMA.out _ (HG3.out _ _)).mono ?_
    rintro e w' ⟨rfl,hbl⟩;exact⟨(),rfl,trivial,hbl⟩
   repeat (with_reducible refine aH (by decide) (by decide) (fun K hK=>?_);go_simp;(try rw[if_neg (by simp[undef])]);refine hK _ ?_;clear hK K)
   refine bI ?_
   intro w1 hb1 _;clear x0 x1 x2 z0 z1 z2 m0 m1 m2 m3 m4 m5 m6 m7 m8 HG1 HG2 HG3 hs0 hs1 hs2 hs3 hs4 hs5 hs6 hs7 hs8;have HBX:=Lib.hid (HB0.out.trans (hb1.mono HB0.out.size));clear hb1;go_wp2_with fail
   refine(bO _).mono ?_
   rintro e w9 ⟨rfl,hb9⟩;go_wp2_with fail
   go_ret
   exact⟨rfl,HBX.out.trans (hb9.mono HBX.out.size)⟩
 have HMA:=Lib.hid (fun(W:World) (hW:SL iC 1 W W.heap.size A b.gs.length b.gs)=>yW b A c W hW true ⟨fun _=>hbk,fun _=>rfl⟩)
 unfold bkA at HMA;have HV:=Lib.hid hbk;clear hbk;refine aM 25 [1,3,5,8,10,12,15,21,23] hmo (by kernel_rfl) ?_
 simp only[List.take_succ_cons,List.take_zero,List.drop_succ_cons,List.drop_zero]
 repeat (with_reducible refine aH (by decide) (by decide) (fun K hK=>?_);go_simp;(try rw[if_neg (by simp[undef])]);refine hK _ ?_;clear hK K)
 with_reducible refine bF (ι:=Unit) 6 #[.agg #[.slice pa pn pc,.slice ca cn cc,.slice ja jn jc],.int .i64 2000] (fun _=>.bool true) (fun _ _=>True) (by decide) (by decide) (by go_simp) (fun w=>by go_simp) aB (fun _=>aB) (fun W hW _=>?_) (fun i0 hs0=>?_)
 ·obtain⟨pp,rfl⟩:=hW
  refine(HF1.out _ (HG1.out _ _)).mono ?_
  rintro e w' ⟨rfl,hbl⟩;exact⟨(),by rw[F0.out],trivial,hbl⟩
 repeat (with_reducible refine aH (by decide) (by decide) (fun K hK=>?_);go_simp;(try rw[if_neg (by simp[undef])]);refine hK _ ?_;clear hK K)
 with_reducible refine cH (ι:=Unit) (fun _=>.bool false) (fun _ _=>True) (by decide) (by decide) (by go_simp) hs0 (fun _=>aB) (fun W _ _=>⟨(),W,by go_simp,trivial,Below.refl _ _⟩) (fun i1 hs1=>?_)
 repeat (with_reducible refine aH (by decide) (by decide) (fun K hK=>?_);go_simp;(try rw[if_neg (by simp[undef])]);refine hK _ ?_;clear hK K)
 with_reducible refine bF (ι:=Unit) 6 #[.agg #[.slice pa2 pn2 pc2,.slice ca2 cn2 cc2,.slice ja2 jn2 jc2],.int .i64 2000] (fun _=>.bool true) (fun _ _=>True) (by decide) (by decide) (by go_simp) (fun w=>by go_simp) hs1 (fun _=>aB) (fun W hW _=>?_) (fun i2 hs2=>?_)
 ·obtain⟨pp,rfl⟩:=hW
  refine(HF2.out _ (HG2.out _ _)).mono ?_
  rintro e w' ⟨rfl,hbl⟩;exact⟨(),by rw[F1.out],trivial,hbl⟩
 repeat (with_reducible refine aH (by decide) (by decide) (fun K hK=>?_);go_simp;(try rw[if_neg (by simp[undef])]);refine hK _ ?_;clear hK K)
 with_reducible refine cH (ι:=Unit) (fun _=>.bool false) (fun _ _=>True) (by decide) (by decide) (by go_simp) hs2 (fun _=>aB) (fun W _ _=>⟨(),W,by go_simp,trivial,Below.refl _ _⟩) (fun i3 hs3=>?_)
 repeat (with_reducible refine aH (by decide) (by decide) (fun K hK=>?_);go_simp;(try rw[if_neg (by simp[undef])]);refine hK _ ?_;clear hK K)
 with_reducible refine bF (ι:=Unit) 7 #[.agg #[.slice pa pn pc,.slice ca cn cc,.slice ja jn jc]] (fun _=>.int .i64 (sumL R.ps)) (fun _ _=>True) (by decide) (by decide) (by go_simp) (fun w=>by go_simp) hs3 (fun _=>aB) (fun W hW _=>?_) (fun i4 hs4=>?_)
 ·obtain⟨pp,rfl⟩:=hW
  refine(HL1.out _ (HG1.out _ _)).mono ?_
  rintro e w' ⟨rfl,hbl⟩;exact⟨(),rfl,trivial,hbl⟩
 repeat (with_reducible refine aH (by decide) (by decide) (fun K hK=>?_);go_simp;(try rw[if_neg (by simp[undef])]);refine hK _ ?_;clear hK K)
 with_reducible refine bF (ι:=Unit) 7 #[.agg #[.slice pa2 pn2 pc2,.slice ca2 cn2 cc2,.slice ja2 jn2 jc2]] (fun _=>.int .i64 (sumL R2.ps)) (fun _ _=>True) (by decide) (by decide) (by go_simp) (fun w=>by go_simp) hs4 (fun _=>aB) (fun W hW _=>?_) (fun i5 hs5=>?_)
 ·obtain⟨pp,rfl⟩:=hW
  refine(HL2.out _ (HG2.out _ _)).mono ?_
  rintro e w' ⟨rfl,hbl⟩;exact⟨(),rfl,trivial,hbl⟩
 repeat (with_reducible refine aH (by decide) (by decide) (fun K hK=>?_);go_simp;(try rw[if_neg (by simp[undef])]);refine hK _ ?_;clear hK K)
 with_reducible refine cH (ι:=Unit) (fun _=>.bool false) (fun _ _=>True) (by decide) (by decide) (by go_simp) hs5 (fun _=>aB) (fun W _ _=>⟨(),W,by go_simp,trivial,Below.refl _ _⟩) (fun i6 hs6=>?_)
 repeat (with_reducible refine aH (by decide) (by decide) (fun K hK=>?_);go_simp;(try rw[if_neg (by simp[undef])]);refine hK _ ?_;clear hK K)
 with_reducible refine cH (ι:=Unit) (fun _=>.bool false) (fun _ _=>True) (by decide) (by decide) (by go_simp) hs6 (fun _=>aB) (fun W _ _=>⟨(),W,by go_simp,trivial,Below.refl _ _⟩) (fun i7 hs7=>?_)
 repeat (with_reducible refine aH (by decide) (by decide) (fun K hK=>?_);go_simp;(try rw[if_neg (by simp[undef])]);refine hK _ ?_;clear hK K)
 with_reducible refine bF (ι:=Unit) 8 #[.agg #[.slice A b.gs.length c,.int .i64 b.sh,.int .i64 b.lo,.int .i64 b.ra,.int .i64 b.an,.int .i64 b.io,.int .i64 b.st,.int .i64 b.ga,.int .i64 b.le]] (fun _=>.bool true) (fun _ _=>True) (by decide) (by decide) (by go_simp) (fun w=>by go_simp) hs7 (fun _=>aB) (fun W hW _=>?_) (fun i8 hs8=>?_)
 ·obtain⟨pp,rfl⟩:=hW
  refine(HMA.out _ (HG3.out _ _)).mono ?_
  rintro e w' ⟨rfl,hbl⟩;exact⟨(),rfl,trivial,hbl⟩
 repeat (with_reducible refine aH (by decide) (by decide) (fun K hK=>?_);go_simp;(try rw[if_neg (by simp[undef])]);refine hK _ ?_;clear hK K)
 refine bI ?_
 intro w1 hb1 _;clear x0 x1 x2 z0 z1 z2 m0 m1 m2 m3 m4 m5 m6 m7 m8 HG1 HG2 HG3 hs0 hs1 hs2 hs3 hs4 hs5 hs6 hs7 hs8;have hb:=hb1;clear hb1;have HB1:=Lib.hid (HB0.out.trans (hb.mono HB0.out.size));have HX1:=Lib.hid (HX0.out.below hb HX0.out.lt);have HZ1:=Lib.hid (HZ0.out.below hb HZ0.out.lt);have HM1:=Lib.hid (HM0.out.below hb HM0.out.lt);clear hb HX0 HZ0 HM0;obtain⟨m0,m1,m2,m3,m4,m5,m6,m7,m8⟩:=bk9 HM1.out;obtain⟨x0,x1,x2⟩:=aO HX1.out;obtain⟨z0,z1,z2⟩:=aO HZ1.out;clear gs g8 HMA HF1 HF2 HL1 HL2 F0 F1;go_wp2_with fail
 refine(aAZ pa pn pc ca cn cc ja jn jc R pa2 pn2 pc2 ca2 cn2 cc2 ja2 jn2 jc2 R2 _ (HR.out.grow HB1.out HB1.out.size) (HR2.out.grow HB1.out HB1.out.size) HV1.out.1 HV2.out.1 HSUM.out (by have:=HV1.out;have:=HV2.out;omega)).mono ?_
 rintro e w2 ⟨⟨sA1,sn1,sc1,sA2,sn2,sc2,sA3,sn3,sc3,rfl,hsr⟩,hb⟩;have HSR:=Lib.hid hsr;clear hsr;have HB2:=Lib.hid (HB1.out.trans (hb.mono HB1.out.size));have HX2:=Lib.hid (HX1.out.below hb HX1.out.lt);have HZ2:=Lib.hid (HZ1.out.below hb HZ1.out.lt);have HM2:=Lib.hid (HM1.out.below hb HM1.out.lt);clear hb x0 x1 x2 z0 z1 z2 m0 m1 m2 m3 m4 m5 m6 m7 m8 HX1 HZ1 HM1;obtain⟨m0,m1,m2,m3,m4,m5,m6,m7,m8⟩:=bk9 HM2.out;obtain⟨x0,x1,x2⟩:=aO HX2.out;obtain⟨z0,z1,z2⟩:=aO HZ2.out;obtain⟨w3,hw3⟩ : ∃w3,w3=w2.alloc (.cells #[.slice sA1 sn1 sc1,.slice sA2 sn2 sc2,.slice sA3 sn3 sc3] 26):=⟨_,rfl⟩
 have hb:Below w2.heap.size w2 w3:=by rw[hw3];exact(Below.refl _ _).alloc (Nat.le_refl _) _
 have HS3:Hid (BK w3 w2.heap.size 26 #[.slice sA1 sn1 sc1,.slice sA2 sn2 sc2,.slice sA3 sn3 sc3]):=by show BK _ _ _ _;rw[hw3];exact BK.new _ _ _
 have HB3:=Lib.hid (HB2.out.trans (hb.mono HB2.out.size));have HX3:=Lib.hid (HX2.out.below hb HX2.out.lt);have HZ3:=Lib.hid (HZ2.out.below hb HZ2.out.lt);have HM3:=Lib.hid (HM2.out.below hb HM2.out.lt);rcases xK HV1.out.1 HV2.out.1 HSUM.out (by have:=HV1.out;omega) (by have:=HV1.out;have:=HV2.out;omega) (by have:=HV1.out;have:=HV2.out;omega) with h0|h5
 case inr=>
  have he:(eI R R2).2=5:=by rw[h5]
  rw[he];clear he h5;go_wp2_with fail
  rw[←hw3];clear hw3 hb;go_wp2_with fail
  refine(bO _).mono ?_
  rintro e w9 ⟨rfl,hb9⟩;go_wp2_with fail
  go_ret
  exact⟨rfl,HB3.out.trans (hb9.mono HB3.out.size)⟩
 have HSF:=Lib.hid (aB1 HV1.out.1 HV2.out.1 HSUM.out h0);have HSO:=Lib.hid (aCm HV1.out.1 HV2.out.1 HSUM.out h0).1;have HSAME:Hid (fJ 0 (units R.ps) (units R2.ps) (sumL R.ps).toNat=[]→R.cs=R2.cs→R.js=R2.js→(eI R R2).1=normR R):=fun h1 h2 h3=>by rw[aAY HV1.out.1 (xL HV1.out.1 HV2.out.1 HSUM.out h1) h2 h3]
 have HSR3:Hid (RD w3 w3.heap.size sA1 sn1 sA2 sn2 sA3 sn3 (eI R R2).1):=HSR.out.grow hb hb.size;have HCMP:=Lib.hid (xA 0 pa pn pc ca cn cc ja jn jc R pa2 pn2 pc2 ca2 cn2 cc2 ja2 jn2 jc2 R2 w3 (HR.out.grow HB3.out HB3.out.size) (HR2.out.grow HB3.out HB3.out.size) HV1.out.1 HV2.out.1 HSUM.out (by simp[inR]))
 rw[h0]
 generalize (eI R R2).1=R3 at *
 obtain⟨m0',m1',m2',m3',m4',m5',m6',m7',m8'⟩:=bk9 HM3.out;obtain⟨x0',x1',x2'⟩:=aO HX3.out;obtain⟨z0',z1',z2'⟩:=aO HZ3.out;rw[hw3]at m0' m1' m2' m3' m4' m5' m6' m7' m8' x0' x1' x2' z0' z1' z2';go_wp2_with fail
 rw[←hw3];clear hb hw3 h0 m0' m1' m2' m3' m4' m5' m6' m7' m8' x0' x1' x2' z0' z1' z2' m0 m1 m2 m3 m4 m5 m6 m7 m8 x0 x1 x2 z0 z1 z2 HSR HX2 HZ2 HM2;refine HCMP.out.mono ?_
 rintro e w4 ⟨DA,dn,dc,rfl,hD,hb⟩;have HDN:Hid (dn=(fJ 0 (units R.ps) (units R2.ps) (sumL R.ps).toNat).length):=hD.2;have HSR4:=Lib.hid (HSR3.out.grow hb hb.size);clear hD HCMP HSR3;obtain⟨x0,x1,x2⟩:=aO HX3.out;obtain⟨z0,z1,z2⟩:=aO HZ3.out;obtain⟨m0,m1,m2,m3,m4,m5,m6,m7,m8⟩:=bk9 HM3.out;obtain⟨s0,s1,s2⟩:=aO HS3.out;have HB4:=Lib.hid (HB3.out.trans (hb.mono HB3.out.size));have HX4:=Lib.hid (HX3.out.below hb HX3.out.lt);have HZ4:=Lib.hid (HZ3.out.below hb HZ3.out.lt);have HM4:=Lib.hid (HM3.out.below hb HM3.out.lt);have HS4:=Lib.hid (HS3.out.below hb HS3.out.lt);clear hb x0 x1 x2 z0 z1 z2 m0 m1 m2 m3 m4 m5 m6 m7 m8 s0 s1 s2 HX3 HZ3 HM3 HS3;obtain⟨m0,m1,m2,m3,m4,m5,m6,m7,m8⟩:=bk9 HM4.out;obtain⟨x0,x1,x2⟩:=aO HX4.out;obtain⟨z0,z1,z2⟩:=aO HZ4.out;obtain⟨s0,s1,s2⟩:=aO HS4.out;have hla:(makeL b R).length≤300:=by have h1:=jU (b:=b) (R:=R);have:=HV1.out;omega
 have hlb:(makeL b R3).length≤300:=by have h1:=jU (b:=b) (R:=R3);have:=HSF.out;have:=HV1.out;have:=HV2.out;omega
 have hva:=mO HV.out HV1.out.1;have hvb:=mO HV.out HSO.out;have hmk:=fun(w1:World) (h1:Below w.heap.size w w1)=>lI b HV.out A c pa pn pc ca cn cc ja jn jc R HV1.out.1 w1 (HR.out.grow h1 h1.size) ((HS.out.below h1).more h1.size)
 have hmk3:=fun(w1:World) (h1:Below w.heap.size w w1) (h2:RD w1 w1.heap.size sA1 sn1 sA2 sn2 sA3 sn3 R3)=>lI b HV.out A c sA1 sn1 sc1 sA2 sn2 sc2 sA3 sn3 sc3 R3 HSO.out w1 h2 ((HS.out.below h1).more h1.size)
 have hmk4:=fun(nA1:Option Addr) (nn1 nc1:Nat) (nA2:Option Addr) (nc2:Nat) (nA3:Option Addr) (nc3:Nat) (w1:World) (h1:Below w.heap.size w w1) (h2:RD w1 w1.heap.size nA1 nn1 nA2 cn nA3 jn (normR R))=>lI b HV.out A c nA1 nn1 nc1 nA2 cn nc2 nA3 jn nc3 (normR R) (oU HV1.out.1) w1 h2 ((HS.out.below h1).more h1.size)
 have hfau:=fun(A2:Option Addr) (n2 c2:Nat) (w1:World) (h1:Below w.heap.size w w1) (h2:RD w1 w1.heap.size sA1 sn1 sA2 sn2 sA3 sn3 R3) (h3:SL nC 10 w1 w1.heap.size A2 n2 (makeL b R3))=>wP b HV.out A c sA1 sn1 sc1 sA2 sn2 sc2 sA3 sn3 sc3 R3 HSO.out A2 n2 c2 hlb w1 h2 ((HS.out.below h1).more h1.size) h3
 unfold bkA at hmk hmk3 hmk4 hfau;have HMK:=Lib.hid hmk;have HMK3:=Lib.hid hmk3;have HMK4:=Lib.hid hmk4;have HFAU:=Lib.hid hfau;have hme:fS (makeL b R) (makeL b R3)=0:=by unfold fS;rw[if_neg (by omega),List.all_eq_true.2 hva,List.all_eq_true.2 hvb];rfl
 have hap:apE 0 (makeL b R) (mnd 0 (makeL b R) (makeL b R3))=makeL b R3:=kM _ 0 _ _ (Nat.le_refl _);have hae:eU (makeL b R) (mnd 0 (makeL b R) (makeL b R3))=0:=by
  unfold eU;rw[hap,if_neg (by omega),List.all_eq_true.2 hva,aCd _ _ hvb,if_neg (by decide),if_neg (by omega)]
 have HMN:Hid ((mnd 0 (makeL b R) (makeL b R3)).length≤100000):=by
  show _≤_
  rw[fU _ 0 _ _ (Nat.le_refl _)];exact Nat.le_trans (xJ _ _ _ (Nat.le_refl _)) (by omega)
 have HLA:=Lib.hid hla;have HLB:=Lib.hid hlb;have HME:=Lib.hid hme;have HAP:=Lib.hid hap;have HAE:=Lib.hid hae;clear hla hlb hva hvb hmk hmk3 hmk4 hfau hme hap hae;go_wp2_with fail
 refine(HMK.out _ HB4.out).mono ?_
 intro e w5 hm;obtain⟨hb,PX,xc,rfl,hO⟩:=tV (Nat.le_trans HLA.out (by decide)) hm
 have HLX5:=Lib.hid (hO.sl jB);have HSR5:=Lib.hid (HSR4.out.grow hb hb.size);clear hm hO HMK HSR4;have HB5:=Lib.hid (HB4.out.trans (hb.mono HB4.out.size));have HX5:=Lib.hid (HX4.out.below hb HX4.out.lt);have HZ5:=Lib.hid (HZ4.out.below hb HZ4.out.lt);have HM5:=Lib.hid (HM4.out.below hb HM4.out.lt);have HS5:=Lib.hid (HS4.out.below hb HS4.out.lt);clear hb x0 x1 x2 z0 z1 z2 m0 m1 m2 m3 m4 m5 m6 m7 m8 s0 s1 s2 HX4 HZ4 HM4 HS4;obtain⟨m0,m1,m2,m3,m4,m5,m6,m7,m8⟩:=bk9 HM5.out;obtain⟨x0,x1,x2⟩:=aO HX5.out;obtain⟨z0,z1,z2⟩:=aO HZ5.out;obtain⟨s0,s1,s2⟩:=aO HS5.out;go_wp2_with fail
 refine(HMK3.out _ HB5.out HSR5.out).mono ?_
 intro e w6 hm;obtain⟨hb,PY,yc,rfl,hO⟩:=tV (Nat.le_trans HLB.out (by decide)) hm
 have HLY6:=Lib.hid (hO.sl jB);have HLX6:=Lib.hid ((HLX5.out.below hb).more hb.size);have HSR6:=Lib.hid (HSR5.out.grow hb hb.size);clear hm hO HMK3 HSR5 HLX5;have HB6:=Lib.hid (HB5.out.trans (hb.mono HB5.out.size));have HX6:=Lib.hid (HX5.out.below hb HX5.out.lt);have HZ6:=Lib.hid (HZ5.out.below hb HZ5.out.lt);have HM6:=Lib.hid (HM5.out.below hb HM5.out.lt);have HS6:=Lib.hid (HS5.out.below hb HS5.out.lt);clear hb x0 x1 x2 z0 z1 z2 m0 m1 m2 m3 m4 m5 m6 m7 m8 s0 s1 s2 HX5 HZ5 HM5 HS5;obtain⟨m0,m1,m2,m3,m4,m5,m6,m7,m8⟩:=bk9 HM6.out;obtain⟨x0,x1,x2⟩:=aO HX6.out;obtain⟨z0,z1,z2⟩:=aO HZ6.out;obtain⟨s0,s1,s2⟩:=aO HS6.out;go_wp2_with fail
 refine(aAV (makeL b R) (makeL b R3) PX _ xc PY _ yc _ HLX6.out HLY6.out).mono ?_
 intro e w7 hm;obtain⟨hb,PE,ec,rfl,hO⟩:=aD4 HME.out hm;have HLE7:=Lib.hid (hO.sl aDd);have HEC:Hid ((mnd 0 (makeL b R) (makeL b R3)).length≤ec):=hO.cap;have HLX7:=Lib.hid ((HLX6.out.below hb).more hb.size);have HLY7:=Lib.hid ((HLY6.out.below hb).more hb.size);have HSR7:=Lib.hid (HSR6.out.grow hb hb.size);clear hm hO HSR6 HLX6 HLY6;have HB7:=Lib.hid (HB6.out.trans (hb.mono HB6.out.size));have HX7:=Lib.hid (HX6.out.below hb HX6.out.lt);have HZ7:=Lib.hid (HZ6.out.below hb HZ6.out.lt);have HM7:=Lib.hid (HM6.out.below hb HM6.out.lt);have HS7:=Lib.hid (HS6.out.below hb HS6.out.lt);clear hb x0 x1 x2 z0 z1 z2 m0 m1 m2 m3 m4 m5 m6 m7 m8 s0 s1 s2 HX6 HZ6 HM6 HS6;obtain⟨m0,m1,m2,m3,m4,m5,m6,m7,m8⟩:=bk9 HM7.out;obtain⟨x0,x1,x2⟩:=aO HX7.out;obtain⟨z0,z1,z2⟩:=aO HZ7.out;obtain⟨s0,s1,s2⟩:=aO HS7.out;go_wp2_with fail
 refine(xP (makeL b R) (mnd 0 (makeL b R) (makeL b R3)) PX _ xc PE _ ec _ HLX7.out HLE7.out HEC.out HMN.out).mono ?_
 intro e w8 hm;obtain⟨hb,PZ,zc,rfl,hO⟩:=aDn HAE.out hm;rw[HAP.out]at hO ⊢;have HLZ8:=Lib.hid (hO.sl jB);have HLY8:=Lib.hid ((HLY7.out.below hb).more hb.size);have HSR8:=Lib.hid (HSR7.out.grow hb hb.size);clear hm hO HSR7 HLX7 HLY7 HLE7;have HB8:=Lib.hid (HB7.out.trans (hb.mono HB7.out.size));have HX8:=Lib.hid (HX7.out.below hb HX7.out.lt);have HZ8:=Lib.hid (HZ7.out.below hb HZ7.out.lt);have HM8:=Lib.hid (HM7.out.below hb HM7.out.lt);have HS8:=Lib.hid (HS7.out.below hb HS7.out.lt);clear hb x0 x1 x2 z0 z1 z2 m0 m1 m2 m3 m4 m5 m6 m7 m8 s0 s1 s2 HX7 HZ7 HM7 HS7;obtain⟨m0,m1,m2,m3,m4,m5,m6,m7,m8⟩:=bk9 HM8.out;obtain⟨x0,x1,x2⟩:=aO HX8.out;obtain⟨z0,z1,z2⟩:=aO HZ8.out;obtain⟨s0,s1,s2⟩:=aO HS8.out;go_wp2_with fail
 refine(HFAU.out PZ _ zc _ HB8.out HSR8.out HLZ8.out).mono ?_
 rintro e w9 ⟨⟨PF,fc,rfl⟩,hb⟩;have HLY9:=Lib.hid ((HLY8.out.below hb).more hb.size);clear HSR8 HLZ8 HLY8 HFAU;have HB9:=Lib.hid (HB8.out.trans (hb.mono HB8.out.size));have HX9:=Lib.hid (HX8.out.below hb HX8.out.lt);have HZ9:=Lib.hid (HZ8.out.below hb HZ8.out.lt);have HM9:=Lib.hid (HM8.out.below hb HM8.out.lt);have HS9:=Lib.hid (HS8.out.below hb HS8.out.lt);clear hb x0 x1 x2 z0 z1 z2 m0 m1 m2 m3 m4 m5 m6 m7 m8 s0 s1 s2 HX8 HZ8 HM8 HS8;obtain⟨m0,m1,m2,m3,m4,m5,m6,m7,m8⟩:=bk9 HM9.out;obtain⟨x0,x1,x2⟩:=aO HX9.out;obtain⟨z0,z1,z2⟩:=aO HZ9.out;obtain⟨s0,s1,s2⟩:=aO HS9.out;go_wp2_with fail
 refine(aAj pa pn pc ca cn cc ja jn jc R _ (HR.out.grow HB9.out HB9.out.size) HV1.out.1).mono ?_
 rintro e w10 ⟨nA1,nn1,nc1,nA2,nc2,nA3,nc3,rfl,⟨hn1,hn2,hn3⟩,hb⟩;have HNR10:Hid (RD w10 w10.heap.size nA1 nn1 nA2 cn nA3 jn (normR R)):=⟨hn1.sl iV,hn2.sl aZ,hn3.sl aV⟩;have HLY10:=Lib.hid ((HLY9.out.below hb).more hb.size);clear hn1 hn2 hn3 HLY9;have HB10:=Lib.hid (HB9.out.trans (hb.mono HB9.out.size));have HX10:=Lib.hid (HX9.out.below hb HX9.out.lt);have HZ10:=Lib.hid (HZ9.out.below hb HZ9.out.lt);have HM10:=Lib.hid (HM9.out.below hb HM9.out.lt);clear hb x0 x1 x2 z0 z1 z2 m0 m1 m2 m3 m4 m5 m6 m7 m8 HX9 HZ9 HM9;obtain⟨m0,m1,m2,m3,m4,m5,m6,m7,m8⟩:=bk9 HM10.out;obtain⟨x0,x1,x2⟩:=aO HX10.out;obtain⟨z0,z1,z2⟩:=aO HZ10.out;clear s0 s1 s2 HS9;obtain⟨w11,hw11⟩ : ∃w11,w11=w10.alloc (.cells #[.slice nA1 nn1 nc1,.slice nA2 cn nc2,.slice nA3 jn nc3] 26):=⟨_,rfl⟩
 have hb:Below w10.heap.size w10 w11:=by rw[hw11];exact(Below.refl _ _).alloc (Nat.le_refl _) _
 have HT11:Hid (BK w11 w10.heap.size 26 #[.slice nA1 nn1 nc1,.slice nA2 cn nc2,.slice nA3 jn nc3]):=by show BK _ _ _ _;rw[hw11];exact BK.new _ _ _
 have HB11:=Lib.hid (HB10.out.trans (hb.mono HB10.out.size));have HX11:=Lib.hid (HX10.out.below hb HX10.out.lt);have HZ11:=Lib.hid (HZ10.out.below hb HZ10.out.lt);have HM11:=Lib.hid (HM10.out.below hb HM10.out.lt);have HLY11:=Lib.hid ((HLY10.out.below hb).more hb.size);have HNR11:=Lib.hid (HNR10.out.grow hb hb.size);obtain⟨m0',m1',m2',m3',m4',m5',m6',m7',m8'⟩:=bk9 HM11.out;obtain⟨x0',x1',x2'⟩:=aO HX11.out;obtain⟨z0',z1',z2'⟩:=aO HZ11.out;obtain⟨t0',t1',t2'⟩:=aO HT11.out;rw[hw11]at m0' m1' m2' m3' m4' m5' m6' m7' m8' x0' x1' x2' z0' z1' z2' t0' t1' t2';have HMQ:=Lib.hid (HMK4.out nA1 nn1 nc1 nA2 nc2 nA3 nc3 w11 HB11.out HNR11.out);go_wp2_with fail
 rw[←hw11];clear hb hw11 m0' m1' m2' m3' m4' m5' m6' m7' m8' x0' x1' x2' z0' z1' z2' t0' t1' t2' m0 m1 m2 m3 m4 m5 m6 m7 m8 x0 x1 x2 z0 z1 z2 HNR10 HX10 HZ10 HM10 HLY10 HMK4;refine HMQ.out.mono ?_
 intro e w12 hm;obtain⟨hb,PM,mc,rfl,hO⟩:=tV (by have h1:=jU (b:=b) (R:=normR R);have h2:=gE (ps:=R.ps) (fun z hz=>aP (HV1.out.1.pk z hz));have h3:(normR R).ps.length=(normP R.ps).length:=rfl;have h4:(normR R).cs=R.cs:=rfl;have h5:(normR R).js=R.js:=rfl;rw[h3,h4,h5]at h1;have:=HV1.out;omega) hm
 have HLM12:=Lib.hid (hO.sl jB);have HLY12:=Lib.hid ((HLY11.out.below hb).more hb.size);have HX12:=Lib.hid (HX11.out.below hb HX11.out.lt);have HZ12:=Lib.hid (HZ11.out.below hb HZ11.out.lt);have HB12:=Lib.hid (HB11.out.trans (hb.mono HB11.out.size));have HML:Hid ((makeL b (normR R)).length≤1000000):=by show _≤_;have h1:=jU (b:=b) (R:=normR R);have h2:=gE (ps:=R.ps) (fun z hz=>aP (HV1.out.1.pk z hz));have h3:(normR R).ps.length=(normP R.ps).length:=rfl;have h4:(normR R).cs=R.cs:=rfl;have h5:(normR R).js=R.js:=rfl;rw[h3,h4,h5]at h1;have:=HV1.out;omega
 clear hm hO hb HMQ HNR11 HX11 HZ11 HM11 HT11 HLY11;obtain⟨x0,x1,x2⟩:=aO HX12.out;obtain⟨z0,z1,z2⟩:=aO HZ12.out;have HCN:Hid (cn=R.cs.length):=HR.out.c.1;have HCN2:Hid (cn2=R2.cs.length):=HR2.out.c.1;have HJN:Hid (jn=R.js.length):=HR.out.j.1;have HJN2:Hid (jn2=R2.js.length):=HR2.out.j.1;go_upto_region 18 with fail
 go_cut [25] from 140 (fun s25 wx=>∃s:Bool,s25 = .bool s∧(s=true→dn=0∧cn=cn2∧jn=jn2)∧wx=w12)
 case first=>
  by_cases d0:dn=0
  ·have g1:((dn:Int) == 0)=true:=by simp[d0]
   have g1n:(dn == 0)=true:=by simp[d0]
   have D0:=Lib.hid d0;clear d0;by_cases d1:cn=cn2
   ·have g2:((cn:Int) == (cn2:Int))=true:=by simp[d1]
    have g2n:(cn == cn2)=true:=by simp[d1]
    have D1:=Lib.hid d1;clear d1;by_cases d2:jn=jn2
    ·have g3:((jn:Int) == (jn2:Int))=true:=by simp[d2]
     have g3n:(jn == jn2)=true:=by simp[d2]
     have D2:=Lib.hid d2;clear d2;go_wp2_with fail
     go_meet
     case rel=>exact⟨_,rfl,fun _=>⟨D0.out,D1.out,D2.out⟩,rfl⟩
    ·have g3:((jn:Int) == (jn2:Int))=false:=by simp;omega
     have g3n:(jn == jn2)=false:=by simpa using d2
     clear d2;go_wp2_with fail
     go_meet
     case rel=>exact⟨false,rfl,fun q=>(by cases q),rfl⟩
   ·have g2:((cn:Int) == (cn2:Int))=false:=by simp;omega
    have g2n:(cn == cn2)=false:=by simpa using d1
    clear d1;go_wp2_with fail
    go_meet
    case rel=>exact⟨false,rfl,fun q=>(by cases q),rfl⟩
  ·have g1:((dn:Int) == 0)=false:=by simp;omega
   have g1n:(dn == 0)=false:=by simpa using d0
   clear d0;go_wp2_with fail
   go_meet
   case rel=>exact⟨false,rfl,fun q=>(by cases q),rfl⟩
 case rest=>
 obtain⟨s,rfl,hs0,hwc⟩:=hcut;have hwc':=hwc.symm;subst hwc';clear hwc;have HS0:=Lib.hid hs0;clear hs0;go_wp2_with fail
 go_loopw [25,26] (fun sv cv wr=>∃(k:Nat) (s:Bool),k≤cn∧cv = .int .i64 k∧sv = .bool s∧(s=true→(dn=0∧cn=cn2∧jn=jn2)∧R.cs.take k=R2.cs.take k)∧Below w12.heap.size w12 wr) (fun _ cv _=>cn-(intOf cv).toNat)
 case atStart=>exact⟨0,s,Nat.zero_le _,rfl,rfl,fun q=>⟨HS0.out q,by rw[List.take_zero,List.take_zero]⟩,Below.refl _ _⟩
 case round=>
  obtain⟨k,s,hk,rfl,rfl,hs,hbr⟩:=hrel;have HBR:=Lib.hid hbr;have HXr:=Lib.hid (HX12.out.below hbr HX12.out.lt);have HZr:=Lib.hid (HZ12.out.below hbr HZ12.out.lt);obtain⟨x0,x1,x2⟩:=aO HXr.out;obtain⟨z0,z1,z2⟩:=aO HZr.out;have hcb:cn≤20:=by rw[HCN.out];exact HV1.out.2.2.1
  clear hbr;by_cases hlt:k<cn
  case pos=>
   have g0:decide ((k:Int)<(cn:Int))=true:=decide_eq_true (by omega)
   have g0n:decide (k<cn)=true:=decide_eq_true hlt;cases s with
   |false=>
    clear hs;obtain⟨W1,hW1⟩ : ∃x,x=wr:=⟨_,rfl⟩
    subst hW1;have HBW:=Lib.hid HBR.out;clear HBR HXr HZr;go_wp2_with fail
    go_loopw [25,27] (fun sv cv w'=>sv = .bool false∧cv = .int .i64 0∧w'=W1) (fun _ _ _=>0)
    case atStart=>exact⟨rfl,rfl,rfl⟩
    case round=>
     obtain⟨rfl,rfl,hw'⟩:=hrel;subst hw';have HX9:=Lib.hid (HX12.out.below HBW.out HX12.out.lt);have HZ9:=Lib.hid (HZ12.out.below HBW.out HZ12.out.lt);obtain⟨x0,x1,x2⟩:=aO HX9.out;obtain⟨z0,z1,z2⟩:=aO HZ9.out;have HBE:=Lib.hid (HB12.out.trans (HBW.out.mono HB12.out.size));by_cases hj:0<jn
     ·have g7:decide ((0:Int)<(jn:Int))=true:=decide_eq_true (by omega)
      have g7n:decide (0<jn)=true:=decide_eq_true hj;clear hj;go_wp2_with fail
      refine(bO _).mono ?_
      rintro e w9 ⟨rfl,hb9⟩;go_wp2_with fail
      go_ret
      exact⟨rfl,HBE.out.trans (hb9.mono HBE.out.size)⟩
     ·have g7:decide ((0:Int)<(jn:Int))=false:=decide_eq_false (by omega)
      have g7n:decide (0<jn)=false:=decide_eq_false hj;clear hj;go_wp2_with fail
      refine(bO _).mono ?_
      rintro e w9 ⟨rfl,hb9⟩;go_wp2_with fail
      go_ret
      exact⟨rfl,HBE.out.trans (hb9.mono HBE.out.size)⟩
   |true=>
    have hs':=hs rfl;have hkl:k<R.cs.length:=by rw[←HCN.out];exact hlt
    have hkl2:k<R2.cs.length:=by rw[←HCN2.out,←hs'.1.2.1];exact hlt
    have HSS:=Lib.hid hs';have ki:(k:Int)<(cn:Int):=by omega
    have ki2:(k:Int)<(cn2:Int):=by have:=hs'.1.2.1;have:=hs'.1.2.2;omega
    obtain⟨ab,ao,hA1,-,a0,a1⟩:=CS.at_ (HR.out.grow (HB12.out.trans (HBR.out.mono HB12.out.size)) (HB12.out.trans (HBR.out.mono HB12.out.size)).size).c hkl;obtain⟨bb,bo,hA2,-,b0,b1⟩:=CS.at_ (HR2.out.grow (HB12.out.trans (HBR.out.mono HB12.out.size)) (HB12.out.trans (HBR.out.mono HB12.out.size)).size).c hkl2;obtain⟨m,hm⟩ : ∃m,m=(((R.cs[k]'hkl).pos == (R2.cs[k]'hkl2).pos)&&((R.cs[k]'hkl).siz == (R2.cs[k]'hkl2).siz)):=⟨_,rfl⟩
    have heq:=aCG (R.cs[k]'hkl).pos (R.cs[k]'hkl).siz (R2.cs[k]'hkl2).pos (R2.cs[k]'hkl2).siz;rw[←hm]at heq;have HAL:Hid (m=true→R.cs.take (k+1)=R2.cs.take (k+1)):=fun q=>aAP hs'.2 hkl hkl2 (by rw[←hm];exact q)
    generalize R.cs[k]'hkl=x at *
    generalize R2.cs[k]'hkl2=y at *
    subst hA1;subst hA2;clear hs hs' hm hkl hkl2;go_wp2_with fail
    go_quiet(fail)
    go_wp2_with fail
    go_roundw
    case rel=>exact⟨k+1,m,by omega,by go_num,rfl,fun q=>⟨HSS.out.1,HAL.out q⟩,aD HBR.out _⟩
    case measure=>simp[intOf];omega
  case neg=>
  obtain rfl:k=cn:=by omega
  have g0:decide ((k:Int)<(k:Int))=false:=by simp
  have g0n:decide (k<k)=false:=by simp
  cases s with
  |false=>
   clear hs;obtain⟨W1,hW1⟩ : ∃x,x=wr:=⟨_,rfl⟩
   subst hW1;have HBW:=Lib.hid HBR.out;clear HBR HXr HZr;go_wp2_with fail
   go_loopw [25,27] (fun sv cv w'=>sv = .bool false∧cv = .int .i64 0∧w'=W1) (fun _ _ _=>0)
   case atStart=>exact⟨rfl,rfl,rfl⟩
   case round=>
    obtain⟨rfl,rfl,hw'⟩:=hrel;subst hw';have HX9:=Lib.hid (HX12.out.below HBW.out HX12.out.lt);have HZ9:=Lib.hid (HZ12.out.below HBW.out HZ12.out.lt);obtain⟨x0,x1,x2⟩:=aO HX9.out;obtain⟨z0,z1,z2⟩:=aO HZ9.out;have HBE:=Lib.hid (HB12.out.trans (HBW.out.mono HB12.out.size));by_cases hj:0<jn
    ·have g7:decide ((0:Int)<(jn:Int))=true:=decide_eq_true (by omega)
     have g7n:decide (0<jn)=true:=decide_eq_true hj;clear hj;go_wp2_with fail
     refine(bO _).mono ?_
     rintro e w9 ⟨rfl,hb9⟩;go_wp2_with fail
     go_ret
     exact⟨rfl,HBE.out.trans (hb9.mono HBE.out.size)⟩
    ·have g7:decide ((0:Int)<(jn:Int))=false:=decide_eq_false (by omega)
     have g7n:decide (0<jn)=false:=decide_eq_false hj;clear hj;go_wp2_with fail
     refine(bO _).mono ?_
     rintro e w9 ⟨rfl,hb9⟩;go_wp2_with fail
     go_ret
     exact⟨rfl,HBE.out.trans (hb9.mono HBE.out.size)⟩
  |true=>
   have HSS:=Lib.hid (hs rfl);clear hs;have HCE:Hid (R.cs=R2.cs):=by
    have h:=HSS.out.2;rw[List.take_of_length_le (by rw[HCN.out];exact Nat.le_refl _),List.take_of_length_le (by rw[←HCN2.out,←HSS.out.1.2.1];exact Nat.le_refl _)]at h
    exact h
   obtain⟨W1,hW1⟩ : ∃x,x=wr:=⟨_,rfl⟩
   subst hW1;have HBW:=Lib.hid HBR.out;clear HBR HXr HZr hlt hk;go_wp2_with fail
   go_loopw [25,27] (fun sv cv wr=>∃(k:Nat) (s:Bool),k≤jn∧cv = .int .i64 k∧sv = .bool s∧(s=true→(dn=0∧True∧jn=jn2)∧R.cs=R2.cs∧R.js.take k=R2.js.take k)∧Below w12.heap.size w12 wr) (fun _ cv _=>jn-(intOf cv).toNat)
   case atStart=>exact⟨0,true,Nat.zero_le _,rfl,rfl,fun _=>⟨⟨HSS.out.1.1,trivial,HSS.out.1.2.2⟩,HCE.out,by rw[List.take_zero,List.take_zero]⟩,HBW.out⟩
   case round=>
    obtain⟨k,s,hk,rfl,rfl,hs,hbr⟩:=hrel;have HBR:=Lib.hid hbr;have HXr:=Lib.hid (HX12.out.below hbr HX12.out.lt);have HZr:=Lib.hid (HZ12.out.below hbr HZ12.out.lt);obtain⟨x0,x1,x2⟩:=aO HXr.out;obtain⟨z0,z1,z2⟩:=aO HZr.out;have hcb:jn≤20:=by rw[HJN.out];exact HV1.out.2.2.2.1
    clear hbr;by_cases hlt:k<jn
    case pos=>
     have g0:decide ((k:Int)<(jn:Int))=true:=decide_eq_true (by omega)
     have g0n:decide (k<jn)=true:=decide_eq_true hlt;cases s with
     |false=>
      clear hs;have HBE:=Lib.hid (HB12.out.trans (HBR.out.mono HB12.out.size));go_wp2_with fail
      refine(bO _).mono ?_
      rintro e w9 ⟨rfl,hb9⟩;go_wp2_with fail
      go_ret
      exact⟨rfl,HBE.out.trans (hb9.mono HBE.out.size)⟩
     |true=>
      have hs':=hs rfl;have hkl:k<R.js.length:=by rw[←HJN.out];exact hlt
      have hkl2:k<R2.js.length:=by rw[←HJN2.out,←hs'.1.2.2];exact hlt
      have HSS:=Lib.hid hs';have ki:(k:Int)<(jn:Int):=by omega
      have ki2:(k:Int)<(jn2:Int):=by have:=hs'.1.2.1;have:=hs'.1.2.2;omega
      obtain⟨ab,ao,hA1,-,a0,a1,a2⟩:=JS.at_ (HR.out.grow (HB12.out.trans (HBR.out.mono HB12.out.size)) (HB12.out.trans (HBR.out.mono HB12.out.size)).size).j hkl;obtain⟨bb,bo,hA2,-,b0,b1,b2⟩:=JS.at_ (HR2.out.grow (HB12.out.trans (HBR.out.mono HB12.out.size)) (HB12.out.trans (HBR.out.mono HB12.out.size)).size).j hkl2;obtain⟨m,hm⟩ : ∃m,m=(((R.js[k]'hkl).pos == (R2.js[k]'hkl2).pos)&&((R.js[k]'hkl).arms == (R2.js[k]'hkl2).arms)&&((R.js[k]'hkl).way == (R2.js[k]'hkl2).way)):=⟨_,rfl⟩
      have heq:=aDM (R.js[k]'hkl).pos (R.js[k]'hkl).arms (R.js[k]'hkl).way (R2.js[k]'hkl2).pos (R2.js[k]'hkl2).arms (R2.js[k]'hkl2).way;rw[←hm]at heq;have HAL:Hid (m=true→R.js.take (k+1)=R2.js.take (k+1)):=fun q=>aBL hs'.2.2 hkl hkl2 (by rw[←hm];exact q)
      generalize R.js[k]'hkl=x at *
      generalize R2.js[k]'hkl2=y at *
      subst hA1;subst hA2;clear hs hs' hm hkl hkl2;go_wp2_with fail
      go_quiet(fail)
      go_wp2_with fail
      go_roundw
      case rel=>exact⟨k+1,m,by omega,by go_num,rfl,fun q=>⟨HSS.out.1,HSS.out.2.1,HAL.out q⟩,aD HBR.out _⟩
      case measure=>simp[intOf];omega
    case neg=>
    obtain rfl:k=jn:=by omega
    have g0:decide ((k:Int)<(k:Int))=false:=by simp
    have g0n:decide (k<k)=false:=by simp
    cases s with
    |false=>
     clear hs;have HBE:=Lib.hid (HB12.out.trans (HBR.out.mono HB12.out.size));go_wp2_with fail
     refine(bO _).mono ?_
     rintro e w9 ⟨rfl,hb9⟩;go_wp2_with fail
     go_ret
     exact⟨rfl,HBE.out.trans (hb9.mono HBE.out.size)⟩
    |true=>
     have HSS:=Lib.hid (hs rfl);clear hs;have HSM:Hid (R3=normR R):=HSAME.out (List.eq_nil_of_length_eq_zero (by rw[←HDN.out];exact HSS.out.1.1)) HSS.out.2.1 (by have h:=HSS.out.2.2;rw[List.take_of_length_le (by rw[HJN.out];exact Nat.le_refl _),List.take_of_length_le (by rw[←HJN2.out,←HSS.out.1.2.2];exact Nat.le_refl _)]at h;exact h)
     have HbE:=Lib.hid HBR.out;have HBE:=Lib.hid (HB12.out.trans (HBR.out.mono HB12.out.size));clear HXr HZr;have HEQ:Hid (makeL b (normR R)=makeL b R3):=by show _=_;rw[HSM.out]
     go_wp2_with fail
     refine(aAW PM _ mc (makeL b (normR R)) PY _ yc (makeL b R3) _ ((HLM12.out.below HbE.out).more HbE.out.size) ((HLY12.out.below HbE.out).more HbE.out.size) HML.out).mono ?_
     rintro e wf ⟨rfl,hb⟩;rw[show decide (makeL b (normR R)=makeL b R3)=true from decide_eq_true HEQ.out]
     have HBF:=Lib.hid (HBE.out.trans (hb.mono HBE.out.size));clear hb;go_wp2_with fail
     refine(bO _).mono ?_
     rintro e w9 ⟨rfl,hb9⟩;go_wp2_with fail
     go_ret
     exact⟨rfl,HBF.out.trans (hb9.mono HBF.out.size)⟩
end Go.Proofs.YtjlkeoppppfeiaaGreat
