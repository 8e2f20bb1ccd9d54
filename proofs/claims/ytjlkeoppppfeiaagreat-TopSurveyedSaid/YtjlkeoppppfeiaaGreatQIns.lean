/- Lemmas. -/
import Derived.Test.YtjlkeoppppfeiaaGreatQSwR
namespace Go.Proofs.YtjlkeoppppfeiaaGreat
open Go.RowKit Go.Shelf Go.Sort Go.Proofs
theorem jT {α:Type} (l:List α):l=[]∨∃l' x,l=l'++[x]:=by
 induction l using eQ with
 |h0=>exact .inl rfl
 |h1 l x _=>exact .inr ⟨l,x,rfl⟩
theorem o5 {α:Type} (key:α→Int) {C:List α} {k:Nat} (hk:k+1<C.length):∃x,C.drop (k+1)=x::C.drop (k+2)∧aK key (C.take (k+2))=insR key (aK key (C.take (k+1))) x:=by
 refine⟨C[k+1],List.drop_eq_getElem_cons hk,?_⟩
 rw[List.take_succ_eq_append_getElem hk,ssort_snoc]
theorem sR {α:Type} (key:α→Int) (C:List α):aK key (C.take 1)=C.take 1:=by cases C<;>rfl
theorem mN {α:Type} (key:α→Int) {x y:α} {S1 S2:List α} (hS:Srt key (S1++[y]++S2)) (hy:key y≤key x) (h2:∀z∈S2,key x<key z):insR key (S1++[y]++S2) x=S1++[y]++x::S2:=by
 refine eF key (fun z hz=>?_) h2
 have h:=(List.pairwise_append.1 hS).1;rcases List.mem_append.1 hz with hz|hz
 ·have:=(List.pairwise_append.1 h).2.2 z hz y (List.mem_cons_self ..)
  omega
 ·rw[List.mem_singleton]at hz
  subst hz;exact hy
set_option maxRecDepth 100000 in
set_option maxHeartbeats 8000000 in
theorem aEG (base b n c a e:Nat) (P C Q:List Crest) (w:World) (h:OW cC 2 52 base w (some ⟨b,0,none⟩) n c (P++(C++Q))) (hP:P.length=a) (he:a+C.length=e) (hn:n≤100000) :
  Calls Tryz.prog 245 #[.slice (some ⟨b,0,none⟩) n c,.int .i64 a,.int .i64 e,.func (.func 44) #[] #[]] w fun ev w'=>(∃v,ev = .returned v)∧OW cC 2 52 base w' (some ⟨b,0,none⟩) n c (P++(aK (fun x:Crest=>x.pos) C++Q))∧w.grownBy w' (some b):=by
 have hmo:Tryz.prog.follows .mixedOrders=true:=by kernel_rfl
 have HH:=Lib.hid h;have HN:n=P.length+C.length+Q.length:=by rw[h.2];simp;omega
 have hen:e≤n:=by omega
 have HP:=Lib.hid hP;have HE:=Lib.hid he;obtain⟨i0,hi0⟩ : ∃i0,i0=a+1:=⟨_,rfl⟩
 have hwa:IntKind.i64.wrap ((a:Int)+1)=(i0:Int):=by rw[show (a:Int)+1=(i0:Int) by omega];exact IntWalk.i64_in _ (by omega)
 have HI0:=Lib.hid hi0;clear h HN hP he hi0;go_enter Tryz.func245,Tryz.ntmps245
 go_wp2_with fail
 clear hwa;go_loopw [8] (fun iv wr=>∃k i:Nat,iv = .int .i64 i∧Hid (i=a+1+k)∧k≤C.length∧OW cC 2 52 base wr (some ⟨b,0,none⟩) n c (P++(aK (fun x:Crest=>x.pos) (C.take (k+1))++(C.drop (k+1)++Q)))∧w.grownBy wr (some b))
  (fun iv _=>e-(intOf iv).toNat)
 case atStart=>exact⟨0,i0,rfl,HI0.out,Nat.zero_le _,by rw[sR,←List.append_assoc (C.take 1),List.take_append_drop];exact HH.out,World.grownBy.refl w _⟩
 case round=>
  obtain⟨k,i,rfl,HI,hkC,hO,hg⟩:=hrel;by_cases hlt:i<e
  ·have hk1:k+1<C.length:=by have:=HI.out;have:=HE.out;omega
   obtain⟨x,hx,hss⟩:=o5 (fun x:Crest=>x.pos) hk1
   have HSR:=Lib.hid (bU (fun x:Crest=>x.pos) (C.take (k+1)))
   have HSL:=Lib.hid (ssort_len (fun x:Crest=>x.pos) (C.take (k+1)))
   have HC1:=Lib.hid hk1;have HSS:=Lib.hid hss;rw[hx]at hO
   generalize aK (fun x:Crest=>x.pos) (C.take (k+1))=S at hO hss HSR HSL HSS
   obtain⟨D,hD⟩ : ∃D,D=C.drop (k+2)++Q:=⟨_,rfl⟩
   have HD:=Lib.hid hD;rw[List.cons_append,←hD]at hO;have HOS:=Lib.hid hO;have HG:=Lib.hid hg;have hSl:S.length=k+1:=by rw[HSL.out,List.length_take];omega
   have HSl:=Lib.hid hSl;obtain⟨i1,hi1⟩ : ∃i1,i1=i+1:=⟨_,rfl⟩
   have hwi:IntKind.i64.wrap ((i:Int)+1)=(i1:Int):=by rw[show (i:Int)+1=(i1:Int) by omega];exact IntWalk.i64_in _ (by omega)
   have HI1:=Lib.hid hi1;clear hx hss hO hg hD hSl hi1 hk1;go_wp2_with fail
   go_loopw [9] (fun jv wq=>∃(J:Nat) (S1 S2:List Crest),jv = .int .i64 J∧Hid (J=a+S1.length)∧Hid (S=S1++S2)∧Hid (∀y∈S2,x.pos<y.pos)∧OW cC 2 52 base wq (some ⟨b,0,none⟩) n c (P++(S1++x::(S2++D)))∧w.grownBy wq (some b))
    (fun jv _=>(intOf jv).toNat)
   case atStart=>exact⟨i,S,[],rfl,by have:=HI.out;have:=HSl.out;show _=_;omega,by show _=_;simp,Lib.hid (fun y (hy:y∈([]:List Crest))=>by cases hy),HOS.out,HG.out⟩
   case round=>
    obtain⟨J,S1,S2,rfl,HJ,HS12,HS2,hO2,hg2⟩:=hrel;rcases jT S1 with rfl|⟨S1,y,rfl⟩
    ·obtain rfl:J=a:=HJ.out
     go_wp2_with fail
     go_quiet(fail)
     go_wp2_with fail
     go_roundw
     case rel=>
      refine⟨k+1,i1,rfl,by have:=HI.out;have:=HI1.out;show _=_;omega,by have:=HC1.out;omega,?_,kJ hg2 nq⟩
      have:=HSS.out;rw[show k+1+1=k+2 from rfl,this]
      have e2:insR (fun x:Crest=>x.pos) S x=x::S2:=by
       have:=HS12.out;simp only[List.nil_append]at this;rw[this];exact eF (fun x:Crest=>x.pos) (S1:=[]) (fun z hz=>by cases hz) HS2.out
      exact by rw[e2];have:=OW.drewN hO2 nq;rw[HD.out]at this;simpa only[List.nil_append,List.cons_append,List.append_assoc]using this
     case measure=>have:=HI1.out;simp[intOf];omega
    ·obtain⟨J1,hJ1⟩ : ∃J1,J1=a+S1.length:=⟨_,rfl⟩
     have hJJ:J=J1+1:=by have:=HJ.out;simp at this;omega
     have e1:P++(S1++[y]++x::(S2++D))=(P++S1)++y::([]++x::(S2++D)):=by simp
     rw[e1]at hO2;have hA:(P++S1).length=J1:=by have:=HP.out;simp;omega
     have hB:(P++S1).length+([]:List Crest).length+1=J:=by simp;have:=HP.out;omega
     obtain⟨b',hb',hbl,_,hfz,hrow⟩:=hO2.at_ aZ _ rfl;cases hb'
     have gi:=aL (P++S1) y ([]++x::(S2++D)) hA
     have gj:=aS (P++S1) y [] x (S2++D) hB;have hJn:J<n:=by
      have:=(List.getElem?_eq_some_iff.1 gj).1
      rw[hO2.2];exact this
     have x0':=hrow (J) x gj 0 _ rfl;have x1':=hrow (J) x gj 1 _ rfl;have hax:∀q,0+(J)*2+q=(J)*2+q:=fun q=>by omega
     rw[hax]at x0' x1';rw[Nat.add_zero]at x0';have x0:=fun d os=>cell_regrown x0' d os
     have x1:=fun d os=>cell_regrown x1' d os
     clear hax;have y0':=hrow (J1) y gi 0 _ rfl;have y1':=hrow (J1) y gi 1 _ rfl;have hay:∀q,0+(J1)*2+q=(J1)*2+q:=fun q=>by omega
     rw[hay]at y0' y1';rw[Nat.add_zero]at y0';have y0:=fun d os=>cell_regrown y0' d os
     have y1:=fun d os=>cell_regrown y1' d os
     clear hay;have hw1:IntKind.i64.wrap ((J:Int)-1)=(J1:Int):=by rw[show (J:Int)-1=(J1:Int) by omega];exact IntWalk.i64_in _ (by omega)
     have hi1:(0:Int)≤(J:Int):=by omega
     have hi2:(J:Int)<(n:Int):=by omega
     have hi3:(0:Int)≤(J1:Int):=by omega
     have hi4:(J1:Int)<(n:Int):=by omega
     have hja:a<J:=by omega
     have hjj:J1<J:=by omega
     have HA:=Lib.hid hA;have HB:=Lib.hid hB;have HJJ:=Lib.hid hJJ;have HJ1:=Lib.hid hJ1;clear gi gj hA hB e1 hJJ hJ1;go_wp2_with fail
     refine aM 16 [14] hmo (by kernel_rfl) ?_
     simp only[List.take_succ_cons,List.take_zero,List.drop_succ_cons,List.drop_zero]
     repeat (refine aH (by decide) (by decide) (fun K hK=>?_);go_simp;refine hK _ ?_;clear hK K)
     refine bF (ι:=Unit) 44 #[.agg #[.int .i64 x.pos,.int .i64 x.siz],.agg #[.int .i64 y.pos,.int .i64 y.siz]] (fun _=>.int .i64 (bS x.pos y.pos)) (fun _ _=>True) (by decide) (by decide) (by go_simp) (fun w=>by go_simp) aB (fun _=>aB) (fun W hW _=>?_) (fun ix1 hs1=>?_)
     ·refine(jJ x y W).mono ?_
      rintro ev w' ⟨rfl,hbl⟩;exact⟨(),rfl,trivial,hbl⟩
     repeat (refine aH (by decide) (by decide) (fun K hK=>?_);go_simp;refine hK _ ?_;clear hK K)
     refine bI ?_
     intro w3 hbc _;clear hs1;have hO3:=hO2.call hbc;have hg3:=cD hg2 hbc;clear hrow hO2 hg2 x0 x0' x1 x1' y0 y0' y1 y1';by_cases hxy:x.pos<y.pos
     ·have d1:decide (bS x.pos y.pos<0)=true:=by rw[bR];simpa using hxy
      have HXY:=Lib.hid hxy;clear hxy;obtain⟨b',hb',hbl,_,hfz,hrow⟩:=hO3.at_ aZ _ rfl;cases hb'
      have gi:=aL (P++S1) y ([]++x::(S2++D)) HA.out
      have gj:=aS (P++S1) y [] x (S2++D) HB.out;have x0:=hrow (J) x gj 0 _ rfl;have x1:=hrow (J) x gj 1 _ rfl;have hax:∀q,0+(J)*2+q=(J)*2+q:=fun q=>by omega
      rw[hax]at x0 x1;rw[Nat.add_zero]at x0;clear hax;have y0:=hrow (J1) y gi 0 _ rfl;have y1:=hrow (J1) y gi 1 _ rfl;have hay:∀q,0+(J1)*2+q=(J1)*2+q:=fun q=>by omega
      rw[hay]at y0 y1;rw[Nat.add_zero]at y0;clear hay;clear hrow gi gj;go_wp2_with fail
      go_region
      go_wp2_with fail
      go_roundw
      case rel=>
       refine⟨J1,S1,y::S2,rfl,HJ1.out,by show _=_;rw[HS12.out];simp,?_,?_,cB (aA (aA (aA (aA hg3 _) _) _) _)⟩
       ·show ∀z∈_,_
        intro z hz;rcases List.mem_cons.1 hz with rfl|hz
        ·exact HXY.out
        ·exact HS2.out z hz
       ·have:=OW.drew (aEX hO3 HA.out HB.out)
        simpa only[List.nil_append,List.cons_append,List.append_assoc,Nat.add_zero]using this
      case measure=>have:=HJJ.out;simp[intOf];omega
     ·have d1:decide (bS x.pos y.pos<0)=false:=by rw[bR];simpa using hxy
      have HXY:=Lib.hid (show y.pos≤x.pos by omega)
      clear hxy;go_wp2_with fail
      go_roundw
      case rel=>
       refine⟨k+1,i1,rfl,by have:=HI.out;have:=HI1.out;show _=_;omega,by have:=HC1.out;omega,?_,hg3⟩
       have:=HSS.out;rw[show k+1+1=k+2 from rfl,this]
       have e2:insR (fun x:Crest=>x.pos) S x=S1++[y]++x::S2:=by
        have h1:=HSR.out;rw[HS12.out]at h1 ⊢;exact mN (fun x:Crest=>x.pos) h1 HXY.out HS2.out
       exact by rw[e2];have:=hO3;rw[HD.out]at this;simpa only[List.nil_append,List.cons_append,List.append_assoc]using this
      case measure=>have:=HI1.out;simp[intOf];omega
  ·have hCk:C.length≤k+1:=by have:=HI.out;have:=HE.out;omega
   rw[List.take_of_length_le hCk,List.drop_of_length_le hCk,List.nil_append]at hO;go_wp2_with fail
   go_end0
   exact⟨⟨_,rfl⟩,hO,hg⟩
set_option maxRecDepth 100000 in
set_option maxHeartbeats 8000000 in
theorem aEH (base b n c a e:Nat) (P C Q:List Junc) (w:World) (h:OW jC 3 54 base w (some ⟨b,0,none⟩) n c (P++(C++Q))) (hP:P.length=a) (he:a+C.length=e) (hn:n≤100000) :
  Calls Tryz.prog 247 #[.slice (some ⟨b,0,none⟩) n c,.int .i64 a,.int .i64 e,.func (.func 48) #[] #[]] w fun ev w'=>(∃v,ev = .returned v)∧OW jC 3 54 base w' (some ⟨b,0,none⟩) n c (P++(aK (fun x:Junc=>x.pos) C++Q))∧w.grownBy w' (some b):=by
 have hmo:Tryz.prog.follows .mixedOrders=true:=by kernel_rfl
 have HH:=Lib.hid h;have HN:n=P.length+C.length+Q.length:=by rw[h.2];simp;omega
 have hen:e≤n:=by omega
 have HP:=Lib.hid hP;have HE:=Lib.hid he;obtain⟨i0,hi0⟩ : ∃i0,i0=a+1:=⟨_,rfl⟩
 have hwa:IntKind.i64.wrap ((a:Int)+1)=(i0:Int):=by rw[show (a:Int)+1=(i0:Int) by omega];exact IntWalk.i64_in _ (by omega)
 have HI0:=Lib.hid hi0;clear h HN hP he hi0;go_enter Tryz.func247,Tryz.ntmps247
 go_wp2_with fail
 clear hwa;go_loopw [8] (fun iv wr=>∃k i:Nat,iv = .int .i64 i∧Hid (i=a+1+k)∧k≤C.length∧OW jC 3 54 base wr (some ⟨b,0,none⟩) n c (P++(aK (fun x:Junc=>x.pos) (C.take (k+1))++(C.drop (k+1)++Q)))∧w.grownBy wr (some b))
  (fun iv _=>e-(intOf iv).toNat)
 case atStart=>exact⟨0,i0,rfl,HI0.out,Nat.zero_le _,by rw[sR,←List.append_assoc (C.take 1),List.take_append_drop];exact HH.out,World.grownBy.refl w _⟩
 case round=>
  obtain⟨k,i,rfl,HI,hkC,hO,hg⟩:=hrel;by_cases hlt:i<e
  ·have hk1:k+1<C.length:=by have:=HI.out;have:=HE.out;omega
   obtain⟨x,hx,hss⟩:=o5 (fun x:Junc=>x.pos) hk1
   have HSR:=Lib.hid (bU (fun x:Junc=>x.pos) (C.take (k+1)))
   have HSL:=Lib.hid (ssort_len (fun x:Junc=>x.pos) (C.take (k+1)))
   have HC1:=Lib.hid hk1;have HSS:=Lib.hid hss;rw[hx]at hO
   generalize aK (fun x:Junc=>x.pos) (C.take (k+1))=S at hO hss HSR HSL HSS
   obtain⟨D,hD⟩ : ∃D,D=C.drop (k+2)++Q:=⟨_,rfl⟩
   have HD:=Lib.hid hD;rw[List.cons_append,←hD]at hO;have HOS:=Lib.hid hO;have HG:=Lib.hid hg;have hSl:S.length=k+1:=by rw[HSL.out,List.length_take];omega
   have HSl:=Lib.hid hSl;obtain⟨i1,hi1⟩ : ∃i1,i1=i+1:=⟨_,rfl⟩
   have hwi:IntKind.i64.wrap ((i:Int)+1)=(i1:Int):=by rw[show (i:Int)+1=(i1:Int) by omega];exact IntWalk.i64_in _ (by omega)
   have HI1:=Lib.hid hi1;clear hx hss hO hg hD hSl hi1 hk1;go_wp2_with fail
   go_loopw [9] (fun jv wq=>∃(J:Nat) (S1 S2:List Junc),jv = .int .i64 J∧Hid (J=a+S1.length)∧Hid (S=S1++S2)∧Hid (∀y∈S2,x.pos<y.pos)∧OW jC 3 54 base wq (some ⟨b,0,none⟩) n c (P++(S1++x::(S2++D)))∧w.grownBy wq (some b))
    (fun jv _=>(intOf jv).toNat)
   case atStart=>exact⟨i,S,[],rfl,by have:=HI.out;have:=HSl.out;show _=_;omega,by show _=_;simp,Lib.hid (fun y (hy:y∈([]:List Junc))=>by cases hy),HOS.out,HG.out⟩
   case round=>
    obtain⟨J,S1,S2,rfl,HJ,HS12,HS2,hO2,hg2⟩:=hrel;rcases jT S1 with rfl|⟨S1,y,rfl⟩
    ·obtain rfl:J=a:=HJ.out
     go_wp2_with fail
     go_quiet(fail)
     go_wp2_with fail
     go_roundw
     case rel=>
      refine⟨k+1,i1,rfl,by have:=HI.out;have:=HI1.out;show _=_;omega,by have:=HC1.out;omega,?_,kJ hg2 nq⟩
      have:=HSS.out;rw[show k+1+1=k+2 from rfl,this]
      have e2:insR (fun x:Junc=>x.pos) S x=x::S2:=by
       have:=HS12.out;simp only[List.nil_append]at this;rw[this];exact eF (fun x:Junc=>x.pos) (S1:=[]) (fun z hz=>by cases hz) HS2.out
      exact by rw[e2];have:=OW.drewN hO2 nq;rw[HD.out]at this;simpa only[List.nil_append,List.cons_append,List.append_assoc]using this
     case measure=>have:=HI1.out;simp[intOf];omega
    ·obtain⟨J1,hJ1⟩ : ∃J1,J1=a+S1.length:=⟨_,rfl⟩
     have hJJ:J=J1+1:=by have:=HJ.out;simp at this;omega
     have e1:P++(S1++[y]++x::(S2++D))=(P++S1)++y::([]++x::(S2++D)):=by simp
     rw[e1]at hO2;have hA:(P++S1).length=J1:=by have:=HP.out;simp;omega
     have hB:(P++S1).length+([]:List Junc).length+1=J:=by simp;have:=HP.out;omega
     obtain⟨b',hb',hbl,_,hfz,hrow⟩:=hO2.at_ aV _ rfl;cases hb'
     have gi:=aL (P++S1) y ([]++x::(S2++D)) hA
     have gj:=aS (P++S1) y [] x (S2++D) hB;have hJn:J<n:=by
      have:=(List.getElem?_eq_some_iff.1 gj).1
      rw[hO2.2];exact this
     have x0':=hrow (J) x gj 0 _ rfl;have x1':=hrow (J) x gj 1 _ rfl;have x2':=hrow (J) x gj 2 _ rfl;have hax:∀q,0+(J)*3+q=(J)*3+q:=fun q=>by omega
     rw[hax]at x0' x1' x2';rw[Nat.add_zero]at x0';have x0:=fun d os=>cell_regrown x0' d os
     have x1:=fun d os=>cell_regrown x1' d os
     have x2:=fun d os=>cell_regrown x2' d os
     clear hax;have y0':=hrow (J1) y gi 0 _ rfl;have y1':=hrow (J1) y gi 1 _ rfl;have y2':=hrow (J1) y gi 2 _ rfl;have hay:∀q,0+(J1)*3+q=(J1)*3+q:=fun q=>by omega
     rw[hay]at y0' y1' y2';rw[Nat.add_zero]at y0';have y0:=fun d os=>cell_regrown y0' d os
     have y1:=fun d os=>cell_regrown y1' d os
     have y2:=fun d os=>cell_regrown y2' d os
     clear hay;have hw1:IntKind.i64.wrap ((J:Int)-1)=(J1:Int):=by rw[show (J:Int)-1=(J1:Int) by omega];exact IntWalk.i64_in _ (by omega)
     have hi1:(0:Int)≤(J:Int):=by omega
     have hi2:(J:Int)<(n:Int):=by omega
     have hi3:(0:Int)≤(J1:Int):=by omega
     have hi4:(J1:Int)<(n:Int):=by omega
     have hja:a<J:=by omega
     have hjj:J1<J:=by omega
     have HA:=Lib.hid hA;have HB:=Lib.hid hB;have HJJ:=Lib.hid hJJ;have HJ1:=Lib.hid hJ1;clear gi gj hA hB e1 hJJ hJ1;go_wp2_with fail
     refine aM 16 [14] hmo (by kernel_rfl) ?_
     simp only[List.take_succ_cons,List.take_zero,List.drop_succ_cons,List.drop_zero]
     repeat (refine aH (by decide) (by decide) (fun K hK=>?_);go_simp;refine hK _ ?_;clear hK K)
     refine bF (ι:=Unit) 48 #[.agg #[.int .i64 x.pos,.int .i64 x.arms,.int .i64 x.way],.agg #[.int .i64 y.pos,.int .i64 y.arms,.int .i64 y.way]] (fun _=>.int .i64 (bS x.pos y.pos)) (fun _ _=>True) (by decide) (by decide) (by go_simp) (fun w=>by go_simp) aB (fun _=>aB) (fun W hW _=>?_) (fun ix1 hs1=>?_)
     ·refine(jK x y W).mono ?_
      rintro ev w' ⟨rfl,hbl⟩;exact⟨(),rfl,trivial,hbl⟩
     repeat (refine aH (by decide) (by decide) (fun K hK=>?_);go_simp;refine hK _ ?_;clear hK K)
     refine bI ?_
     intro w3 hbc _;clear hs1;have hO3:=hO2.call hbc;have hg3:=cD hg2 hbc;clear hrow hO2 hg2 x0 x0' x1 x1' x2 x2' y0 y0' y1 y1' y2 y2';by_cases hxy:x.pos<y.pos
     ·have d1:decide (bS x.pos y.pos<0)=true:=by rw[bR];simpa using hxy
      have HXY:=Lib.hid hxy;clear hxy;obtain⟨b',hb',hbl,_,hfz,hrow⟩:=hO3.at_ aV _ rfl;cases hb'
      have gi:=aL (P++S1) y ([]++x::(S2++D)) HA.out
      have gj:=aS (P++S1) y [] x (S2++D) HB.out;have x0:=hrow (J) x gj 0 _ rfl;have x1:=hrow (J) x gj 1 _ rfl;have x2:=hrow (J) x gj 2 _ rfl;have hax:∀q,0+(J)*3+q=(J)*3+q:=fun q=>by omega
      rw[hax]at x0 x1 x2;rw[Nat.add_zero]at x0;clear hax;have y0:=hrow (J1) y gi 0 _ rfl;have y1:=hrow (J1) y gi 1 _ rfl;have y2:=hrow (J1) y gi 2 _ rfl;have hay:∀q,0+(J1)*3+q=(J1)*3+q:=fun q=>by omega
      rw[hay]at y0 y1 y2;rw[Nat.add_zero]at y0;clear hay;clear hrow gi gj;go_wp2_with fail
      go_region
      go_wp2_with fail
      go_roundw
      case rel=>
       refine⟨J1,S1,y::S2,rfl,HJ1.out,by show _=_;rw[HS12.out];simp,?_,?_,cB (aA (aA (aA (aA (aA (aA hg3 _) _) _) _) _) _)⟩
       ·show ∀z∈_,_
        intro z hz;rcases List.mem_cons.1 hz with rfl|hz
        ·exact HXY.out
        ·exact HS2.out z hz
       ·have:=OW.drew (aEY hO3 HA.out HB.out)
        simpa only[List.nil_append,List.cons_append,List.append_assoc,Nat.add_zero]using this
      case measure=>have:=HJJ.out;simp[intOf];omega
     ·have d1:decide (bS x.pos y.pos<0)=false:=by rw[bR];simpa using hxy
      have HXY:=Lib.hid (show y.pos≤x.pos by omega)
      clear hxy;go_wp2_with fail
      go_roundw
      case rel=>
       refine⟨k+1,i1,rfl,by have:=HI.out;have:=HI1.out;show _=_;omega,by have:=HC1.out;omega,?_,hg3⟩
       have:=HSS.out;rw[show k+1+1=k+2 from rfl,this]
       have e2:insR (fun x:Junc=>x.pos) S x=S1++[y]++x::S2:=by
        have h1:=HSR.out;rw[HS12.out]at h1 ⊢;exact mN (fun x:Junc=>x.pos) h1 HXY.out HS2.out
       exact by rw[e2];have:=hO3;rw[HD.out]at this;simpa only[List.nil_append,List.cons_append,List.append_assoc]using this
      case measure=>have:=HI1.out;simp[intOf];omega
  ·have hCk:C.length≤k+1:=by have:=HI.out;have:=HE.out;omega
   rw[List.take_of_length_le hCk,List.drop_of_length_le hCk,List.nil_append]at hO;go_wp2_with fail
   go_end0
   exact⟨⟨_,rfl⟩,hO,hg⟩
end Go.Proofs.YtjlkeoppppfeiaaGreat
