/- Lemmas. -/
import Derived.Test.YtjlkeoppppfeiaaGreatQSymM
import Derived.Test.YtjlkeoppppfeiaaGreatQTSymA
namespace Go.Proofs.YtjlkeoppppfeiaaGreat
open Go.RowKit Go.Shelf Go.Sort Go.Proofs
def aCP (N:Nat):Prop:=∀(base b n c a m e:Nat) (P L R Q:List ThR) (w:World),e-a≤N→OW thC 13 147 base w (some ⟨b,0,none⟩) n c (P++(L++(R++Q)))→P.length=a→a+L.length=m→m+R.length=e→1≤L.length→1≤R.length→Srt (fun x:ThR=>x.pos) L→Srt (fun x:ThR=>x.pos) R→n≤100000 →
 Calls Tryz.prog 195 #[.slice (some ⟨b,0,none⟩) n c,.int .i64 a,.int .i64 m,.int .i64 e,.func (.func 57) #[] #[]] w fun ev w'=>(∃v,ev = .returned v)∧OW thC 13 147 base w' (some ⟨b,0,none⟩) n c (P++(mrg (fun x:ThR=>x.pos) L R++Q))∧w.grownBy w' (some b)
set_option maxRecDepth 100000 in
set_option maxHeartbeats 8000000 in
theorem aEb (N:Nat) (ih:aCP N) (base b n c a m e:Nat) (P L R Q:List ThR) (w:World) (hN:e-a≤N+1) (h:OW thC 13 147 base w (some ⟨b,0,none⟩) n c (P++(L++(R++Q)))) (hP:P.length=a) (hm:a+L.length=m) (he:m+R.length=e) (hL2:2≤L.length) (hR2:2≤R.length) (hLs:Srt (fun x:ThR=>x.pos) L) (hRs:Srt (fun x:ThR=>x.pos) R) (hn:n≤100000) :
  Calls Tryz.prog 195 #[.slice (some ⟨b,0,none⟩) n c,.int .i64 a,.int .i64 m,.int .i64 e,.func (.func 57) #[] #[]] w fun ev w'=>(∃v,ev = .returned v)∧OW thC 13 147 base w' (some ⟨b,0,none⟩) n c (P++(mrg (fun x:ThR=>x.pos) L R++Q))∧w.grownBy w' (some b):=by
 have hmo:Tryz.prog.follows .mixedOrders=true:=by kernel_rfl
 have IH:=Lib.hid ih;have HH:=Lib.hid h;have HNN:=Lib.hid hN;have HLS:=Lib.hid hLs;have HRS:=Lib.hid hRs;have HL2:=Lib.hid hL2;have HR2:=Lib.hid hR2;have hnl:n=P.length+L.length+R.length+Q.length:=by rw[h.2];simp;omega
 have hen:e≤n:=by omega
 have hm1:m<e:=by omega
 have hm0:a<m:=by omega
 obtain⟨D0,hD0⟩ : ∃D0:Nat,D0=m-a:=⟨_,rfl⟩
 have hma:IntKind.i64.wrap ((m:Int)-(a:Int))=(D0:Int):=by rw[show (m:Int)-(a:Int)=(D0:Int) by omega];exact IntWalk.i64_in _ (by omega)
 have hD02:((D0:Int) == 1)=false:=by simp;omega
 obtain⟨E0,hE0⟩ : ∃E0:Nat,E0=e-m:=⟨_,rfl⟩
 have hem:IntKind.i64.wrap ((e:Int)-(m:Int))=(E0:Int):=by rw[show (e:Int)-(m:Int)=(E0:Int) by omega];exact IntWalk.i64_in _ (by omega)
 have hE02:((E0:Int) == 1)=false:=by simp;omega
 obtain⟨mid,hmid⟩ : ∃mid:Nat,mid=(a+e) / 2:=⟨_,rfl⟩
 have hw1:IntKind.i64.wrap ((a:Int)+(e:Int))=(a:Int)+(e:Int):=IntWalk.i64_in _ (by omega)
 have hw2:IntKind.u64.wrap ((a:Int)+(e:Int))=(a:Int)+(e:Int):=cW (by omega) (by omega)
 have hw3:IntKind.i64.wrap (((a:Int)+(e:Int)) / 2)=(mid:Int):=by rw[show ((a:Int)+(e:Int)) / 2=(mid:Int) by omega];exact IntWalk.i64_in _ (by omega)
 obtain⟨nn,hnn⟩ : ∃nn:Nat,nn=mid+m:=⟨_,rfl⟩
 have hw4:IntKind.i64.wrap ((mid:Int)+(m:Int))=(nn:Int):=by rw[show (mid:Int)+(m:Int)=(nn:Int) by omega];exact IntWalk.i64_in _ (by omega)
 obtain⟨pn,hpn⟩ : ∃pn:Nat,pn=nn-1:=⟨_,rfl⟩
 have hw5:IntKind.i64.wrap ((nn:Int)-1)=(pn:Int):=by rw[show (nn:Int)-1=(pn:Int) by omega];exact IntWalk.i64_in _ (by omega)
 obtain⟨lo,hi,hlh⟩ : ∃lo hi:Nat,(mid<m∧lo+e=mid+m∧hi=mid)∨(m≤mid∧lo=a∧hi=m):=by
  rcases Nat.lt_or_ge mid m with hlt|hge
  ·exact⟨mid+m-e,mid,.inl ⟨hlt,by omega,rfl⟩⟩
  ·exact⟨a,m,.inr ⟨hge,rfl,rfl⟩⟩
 have hlo1:a≤lo:=by omega
 have hlo2:lo≤hi:=by omega
 have hhi1:hi≤m:=by omega
 have hhi2:hi≤mid:=by omega
 have hmd1:mid≤n:=by omega
 have hmde:mid<e:=by omega
 have hamd:a<mid:=by omega
 have HP:=Lib.hid hP;have HM:=Lib.hid hm;have HE:=Lib.hid he;have HMID:=Lib.hid hmid;have HNV:=Lib.hid hnn;have HPN:=Lib.hid hpn;have HLH:=Lib.hid hlh;clear ih h hN hLs hRs hL2 hR2 hnl hD0 hE0 hP hm he hmid hnn hpn hlh;go_enter Tryz.func195,Tryz.ntmps195
 go_upto_if 140 with fail
 go_cut [20,21] from 138 (fun s20 s21 wx=>s20 = .int .i64 lo∧s21 = .int .i64 hi∧wx=w)
 case first=>
  rcases HLH.out with⟨q1,q2,q3⟩|⟨q1,q2,q3⟩
  ·have hw6:IntKind.i64.wrap ((nn:Int)-(e:Int))=(lo:Int):=by have:=HNV.out;rw[show (nn:Int)-(e:Int)=(lo:Int) by omega];exact IntWalk.i64_in _ (by omega)
   have Q3:=Lib.hid q3;clear q2 q3;go_wp2_with fail
   go_meet
   case rel=>exact⟨rfl,by rw[Q3.out],rfl⟩
  ·have q4:¬mid<m:=by omega
   have Q2:=Lib.hid q2;have Q3:=Lib.hid q3;clear q2 q3;go_wp2_with fail
   go_meet
   case rel=>exact⟨by rw[Q2.out],by rw[Q3.out],rfl⟩
 case rest=>
 obtain⟨rfl,rfl,hwc⟩:=hcut;have hwc':=hwc.symm;subst hwc';clear hwc;go_wp2_with fail
 go_loopw [20,21] (fun iv jv wr=>∃s t:Nat,iv = .int .i64 s∧jv = .int .i64 t∧lo≤s∧s≤t∧t≤hi∧Hid (∀x y,lo<s→L[s-1-a]?=some x→R[mid-s]?=some y→x.pos≤y.pos)∧Hid (∀x y,t<hi→L[t-a]?=some x→R[mid-1-t]?=some y→y.pos<x.pos)∧OW thC 13 147 base wr (some ⟨b,0,none⟩) n c (P++(L++(R++Q)))∧w.grownBy wr (some b))
  (fun iv jv _=>(intOf jv).toNat-(intOf iv).toNat)
 case atStart=>exact⟨lo,hi,rfl,rfl,Nat.le_refl _,hlo2,Nat.le_refl _,Lib.hid (fun x y hlt=>absurd hlt (Nat.lt_irrefl _)),Lib.hid (fun x y hlt=>absurd hlt (Nat.lt_irrefl _)),HH.out,World.grownBy.refl w _⟩
 case round=>
  obtain⟨s,t,rfl,rfl,hs1,hst,ht1,H1,H2,hO,hg⟩:=hrel;by_cases hlt:s<t
  ·obtain⟨h,hh⟩ : ∃h:Nat,h=(s+t) / 2:=⟨_,rfl⟩
   have hv1:IntKind.i64.wrap ((s:Int)+(t:Int))=(s:Int)+(t:Int):=IntWalk.i64_in _ (by omega)
   have hv2:IntKind.u64.wrap ((s:Int)+(t:Int))=(s:Int)+(t:Int):=cW (by omega) (by omega)
   have hv3:IntKind.i64.wrap (((s:Int)+(t:Int)) / 2)=(h:Int):=by rw[show ((s:Int)+(t:Int)) / 2=(h:Int) by omega];exact IntWalk.i64_in _ (by omega)
   have hsh:s≤h:=by omega
   have hht:h<t:=by omega
   obtain⟨z,hz⟩ : ∃z:Nat,z=m+(mid-1-h):=⟨_,rfl⟩
   have hzp:IntKind.i64.wrap ((pn:Int)-(h:Int))=(z:Int):=by
    have h1:=HPN.out;have h2:=HNV.out;rw[show (pn:Int)-(h:Int)=(z:Int) by omega];exact IntWalk.i64_in _ (by omega)
   have hLh:h-a<L.length:=by have:=HM.out;omega
   have hRh:mid-1-h<R.length:=by have h1:=HE.out;have h2:=HM.out;have h3:=HLH.out;have h4:=HMID.out;omega
   obtain⟨A1,x,B1,hA1,hB1⟩:=eT L hLh;obtain⟨A2,y,B2,hA2,hB2⟩:=eT R hRh;have gx:=cI hA1 hB1;have gy:=cI hA2 hB2;have HGX:=Lib.hid gx;have HGY:=Lib.hid gy;have HHH:=Lib.hid hh;obtain⟨b',hb',hbl,_,hfz,hrow⟩:=hO.at_ aJ _ rfl;cases hb'
   have gj:=cI (l:=P++(L++(R++Q))) (A:=P++A1) (x:=x) (B:=B1++(R++Q)) (i:=h) (by rw[hA1];simp) (by have h1:=HP.out;simp;omega)
   have gi:=cI (l:=P++(L++(R++Q))) (A:=P++(L++A2)) (x:=y) (B:=B2++Q) (i:=z) (by rw[hA2];simp) (by have h1:=HP.out;have h2:=HM.out;simp;omega)
   have hzn:z<n:=by
    have:=(List.getElem?_eq_some_iff.1 gi).1
    rw[hO.2];exact this
   have x0':=hrow (h) x gj 0 _ rfl;have x1':=hrow (h) x gj 1 _ rfl;have x2':=hrow (h) x gj 2 _ rfl;have x3':=hrow (h) x gj 3 _ rfl;have x4':=hrow (h) x gj 4 _ rfl;have x5':=hrow (h) x gj 5 _ rfl;have x6':=hrow (h) x gj 6 _ rfl;have x7':=hrow (h) x gj 7 _ rfl;have x8':=hrow (h) x gj 8 _ rfl;have x9':=hrow (h) x gj 9 _ rfl;have x10':=hrow (h) x gj 10 _ rfl;have x11':=hrow (h) x gj 11 _ rfl;have x12':=hrow (h) x gj 12 _ rfl;have hax:∀q,0+(h)*13+q=(h)*13+q:=fun q=>by omega
   rw[hax]at x0' x1' x2' x3' x4' x5' x6' x7' x8' x9' x10' x11' x12';rw[Nat.add_zero]at x0';have x0:=fun d os=>cell_regrown x0' d os
   have x1:=fun d os=>cell_regrown x1' d os
   have x2:=fun d os=>cell_regrown x2' d os
   have x3:=fun d os=>cell_regrown x3' d os
   have x4:=fun d os=>cell_regrown x4' d os
   have x5:=fun d os=>cell_regrown x5' d os
   have x6:=fun d os=>cell_regrown x6' d os
   have x7:=fun d os=>cell_regrown x7' d os
   have x8:=fun d os=>cell_regrown x8' d os
   have x9:=fun d os=>cell_regrown x9' d os
   have x10:=fun d os=>cell_regrown x10' d os
   have x11:=fun d os=>cell_regrown x11' d os
   have x12:=fun d os=>cell_regrown x12' d os
   clear hax;have y0':=hrow (z) y gi 0 _ rfl;have y1':=hrow (z) y gi 1 _ rfl;have y2':=hrow (z) y gi 2 _ rfl;have y3':=hrow (z) y gi 3 _ rfl;have y4':=hrow (z) y gi 4 _ rfl;have y5':=hrow (z) y gi 5 _ rfl;have y6':=hrow (z) y gi 6 _ rfl;have y7':=hrow (z) y gi 7 _ rfl;have y8':=hrow (z) y gi 8 _ rfl;have y9':=hrow (z) y gi 9 _ rfl;have y10':=hrow (z) y gi 10 _ rfl;have y11':=hrow (z) y gi 11 _ rfl;have y12':=hrow (z) y gi 12 _ rfl;have hay:∀q,0+(z)*13+q=(z)*13+q:=fun q=>by omega
   rw[hay]at y0' y1' y2' y3' y4' y5' y6' y7' y8' y9' y10' y11' y12';rw[Nat.add_zero]at y0';have y0:=fun d os=>cell_regrown y0' d os
   have y1:=fun d os=>cell_regrown y1' d os
   have y2:=fun d os=>cell_regrown y2' d os
   have y3:=fun d os=>cell_regrown y3' d os
   have y4:=fun d os=>cell_regrown y4' d os
   have y5:=fun d os=>cell_regrown y5' d os
   have y6:=fun d os=>cell_regrown y6' d os
   have y7:=fun d os=>cell_regrown y7' d os
   have y8:=fun d os=>cell_regrown y8' d os
   have y9:=fun d os=>cell_regrown y9' d os
   have y10:=fun d os=>cell_regrown y10' d os
   have y11:=fun d os=>cell_regrown y11' d os
   have y12:=fun d os=>cell_regrown y12' d os
   clear hay;have hi1:(0:Int)≤(h:Int):=by omega
   have hi2:(h:Int)<(n:Int):=by omega
   have hi3:(0:Int)≤(z:Int):=by omega
   have hi4:(z:Int)<(n:Int):=by omega
   obtain⟨h1,hh1⟩ : ∃h1,h1=h+1:=⟨_,rfl⟩
   have hwh:IntKind.i64.wrap ((h:Int)+1)=(h1:Int):=by rw[show (h:Int)+1=(h1:Int) by omega];exact IntWalk.i64_in _ (by omega)
   have HH1:=Lib.hid hh1;clear hrow gi gj hh hA1 hB1 hA2 hB2 hh1 gx gy hz hLh hRh;go_wp2_with fail
   refine aM 13 [11] hmo (by kernel_rfl) ?_
   simp only[List.take_succ_cons,List.take_zero,List.drop_succ_cons,List.drop_zero]
   repeat (refine aH (by decide) (by decide) (fun K hK=>?_);go_simp;refine hK _ ?_;clear hK K)
   refine bF (ι:=Unit) 57 #[.agg #[.int .i64 y.at_,.int .i64 y.en,.int .i64 ((y.od:Nat):Int),.int .i64 y.nk,.int .i64 y.ntu,.int .i64 y.ngr,.int .i64 y.nlo,.int .i64 y.nch,.int .i64 y.nto,.int .i64 y.nme,.int .i64 y.nsi,.int .i64 y.nwa,.int .i64 y.nar],.agg #[.int .i64 x.at_,.int .i64 x.en,.int .i64 ((x.od:Nat):Int),.int .i64 x.nk,.int .i64 x.ntu,.int .i64 x.ngr,.int .i64 x.nlo,.int .i64 x.nch,.int .i64 x.nto,.int .i64 x.nme,.int .i64 x.nsi,.int .i64 x.nwa,.int .i64 x.nar]] (fun _=>.int .i64 (bS y.pos x.pos)) (fun _ _=>True) (by decide) (by decide) (by go_simp) (fun w=>by go_simp) aB (fun _=>aB) (fun W hW _=>?_) (fun ix1 hs1=>?_)
   ·refine(mG y x W).mono ?_
    rintro ev w' ⟨rfl,hbl⟩;exact⟨(),rfl,trivial,hbl⟩
   repeat (refine aH (by decide) (by decide) (fun K hK=>?_);go_simp;refine hK _ ?_;clear hK K)
   refine bI ?_
   intro w3 hbc _;clear hs1;have hO3:=hO.call hbc;have hg3:=cD hg hbc;clear hO hg x0 x0' x1 x1' x2 x2' x3 x3' x4 x4' x5 x5' x6 x6' x7 x7' x8 x8' x9 x9' x10 x10' x11 x11' x12 x12' y0 y0' y1 y1' y2 y2' y3 y3' y4 y4' y5 y5' y6 y6' y7 y7' y8 y8' y9 y9' y10 y10' y11 y11' y12 y12';by_cases hxy:y.pos<x.pos
   ·have d1:decide (bS y.pos x.pos<0)=true:=by rw[bR];simpa using hxy
    have HXY:=Lib.hid hxy;clear hxy;go_wp2_with fail
    go_roundw
    case rel=>
     refine⟨s,h,rfl,rfl,hs1,hsh,by omega,H1,Lib.hid (fun x' y' _ h1 h2=>?_),hO3,hg3⟩
     rw[HGX.out]at h1;rw[HGY.out]at h2;cases h1
     cases h2
     exact HXY.out
    case measure=>simp[intOf];omega
   ·have d1:decide (bS y.pos x.pos<0)=false:=by rw[bR];simpa using hxy
    have HXY:=Lib.hid (show x.pos≤y.pos by omega)
    clear hxy;go_wp2_with fail
    go_roundw
    case rel=>
     have k1:=HH1.out;refine⟨h1,t,rfl,rfl,by omega,by omega,ht1,Lib.hid (fun x' y' _ h1 h2=>?_),H2,hO3,hg3⟩
     rw[k1,Nat.add_sub_cancel,HGX.out]at h1;rw[k1,Nat.add_comm h 1,←Nat.sub_sub,HGY.out]at h2;cases h1
     cases h2
     exact HXY.out
    case measure=>have:=HH1.out;simp[intOf];omega
  ·obtain rfl:s=t:=by omega
   obtain⟨L1,L2,R1,R2,e1,e2,e3,e4,e5,e6⟩:=nH (fun x:ThR=>x.pos) HLS.out HRS.out HM.out HE.out (by have:=HL2.out;omega) HMID.out HLH.out hs1 ht1 H1.out H2.out
   obtain⟨en,hen0⟩ : ∃en:Nat,en=m+R1.length:=⟨_,rfl⟩
   have hwe:IntKind.i64.wrap ((nn:Int)-(s:Int))=(en:Int):=by
    have h2:=HNV.out;rw[show (nn:Int)-(s:Int)=(en:Int) by omega];exact IntWalk.i64_in _ (by omega)
   have hsm:s≤m:=by omega
   have hse:s+L2.length=m:=by have h1:=HM.out;rw[e1,List.length_append]at h1;omega
   have hee:en+R2.length=e:=by have h1:=HE.out;rw[e2,List.length_append]at h1;omega
   have hLs:=HLS.out;have hRs:=HRS.out;rw[e1]at hLs;rw[e2]at hRs;have T1:=Lib.hid (hLs.sub (fun x:ThR=>x.pos) (List.sublist_append_left _ _))
   have T2:=Lib.hid (hLs.sub (fun x:ThR=>x.pos) (List.sublist_append_right _ _))
   have T3:=Lib.hid (hRs.sub (fun x:ThR=>x.pos) (List.sublist_append_left _ _))
   have T4:=Lib.hid (hRs.sub (fun x:ThR=>x.pos) (List.sublist_append_right _ _))
   have HRES:Hid (mrg (fun x:ThR=>x.pos) L R=mrg (fun x:ThR=>x.pos) L1 R1++mrg (fun x:ThR=>x.pos) L2 R2):=by show _=_;rw[e1,e2];exact dG (fun x:ThR=>x.pos) e5 e6
   have hO2:OW thC 13 147 base wr (some ⟨b,0,none⟩) n c ((P++L1)++(L2++(R1++(R2++Q)))):=by
    have:=hO;rw[e1,e2]at this;simpa only[List.append_assoc]using this
   have E3:=Lib.hid e3;have E4:=Lib.hid e4;have HEN:=Lib.hid hen0;have HSE:=Lib.hid hse;have HEE:=Lib.hid hee;have hmen:m≤en:=by omega
   have hene:en≤e:=by omega
   have hsa:a≤s:=by omega
   have hsmd:s≤mid:=by omega
   have hmden:mid≤en:=by omega
   clear e1 e2 e3 e4 e5 e6 hLs hRs hO H1 H2 hen0 hse hee;go_upto_region 39 with fail
   go_cut [185] from 178 (fun sb wx=>sb = .bool (decide (s<m)&&decide (m<en))∧wx=wr)
   case first=>
    by_cases h1:s<m
    ·by_cases h2:m<en
     ·go_wp2_with fail
      go_meet
      case rel=>exact⟨by simp[h1,h2],rfl⟩
     ·go_wp2_with fail
      go_meet
      case rel=>exact⟨by simp[h2],rfl⟩
    ·go_wp2_with fail
     go_meet
     case rel=>exact⟨by simp[h1],rfl⟩
   case rest=>
   obtain⟨rfl,hwc⟩:=hcut;have hwc':=hwc.symm;subst hwc';clear hwc;go_upto_if 185 with fail
   go_cut [] from 178 (fun wx=>OW thC 13 147 base wx (some ⟨b,0,none⟩) n c ((P++L1)++(R1++(L2++(R2++Q))))∧w.grownBy wx (some b))
   case first=>
    cases hb:(decide (s<m)&&decide (m<en))
    case true=>
     have hbb:=hb;simp only[Bool.and_eq_true,decide_eq_true_eq]at hbb;obtain⟨h1,h2⟩:=hbb;clear hb;go_wp2_with fail
     refine(aEk base b n c s m en (P++L1) L2 R1 (R2++Q) _ hO2 (by have k1:=HP.out;have k2:=E3.out;simp;omega) HSE.out HEN.out.symm (by have:=HSE.out;omega) (by have:=HEN.out;omega) hn).mono ?_
     rintro ev w2 ⟨⟨v,rfl⟩,hO3,hg3⟩;go_wp2_with fail
     go_meet
     case rel=>exact⟨hO3,aN hg hg3⟩
    case false=>
     have hbb:=hb;simp only[Bool.and_eq_false_iff,decide_eq_false_iff_not]at hbb;have HBB:=Lib.hid hbb;clear hb hbb;have hq:Hid ((P++L1)++(L2++(R1++(R2++Q)))=(P++L1)++(R1++(L2++(R2++Q)))):=by
      show _=_
      rcases HBB.out with h1|h1
      ·have h0:L2=[]:=List.eq_nil_of_length_eq_zero (by have:=HSE.out;omega)
       rw[h0];simp
      ·have h0:R1=[]:=List.eq_nil_of_length_eq_zero (by have:=HEN.out;omega)
       rw[h0];simp
     rw[hq.out]at hO2;go_wp2_with fail
     go_meet
     case rel=>exact⟨hO2,hg⟩
   case rest=>
   obtain⟨hO3,hg3⟩:=hcut;obtain⟨wr3,hw3⟩ : ∃wr3,wr3=wc:=⟨_,rfl⟩
   rw[←hw3]at hO3 hg3 ⊢;clear hw3 hO2 hg;have hO4:OW thC 13 147 base wr3 (some ⟨b,0,none⟩) n c (P++(L1++(R1++(L2++(R2++Q))))):=by simpa only[List.append_assoc]using hO3
   clear hO3;go_upto_region 41 with fail
   go_cut [199] from 192 (fun sb wx=>sb = .bool (decide (a<s)&&decide (s<mid))∧wx=wr3)
   case first=>
    by_cases h1:a<s
    ·by_cases h2:s<mid
     ·go_wp2_with fail
      go_meet
      case rel=>exact⟨by simp[h1,h2],rfl⟩
     ·go_wp2_with fail
      go_meet
      case rel=>exact⟨by simp[h2],rfl⟩
    ·go_wp2_with fail
     go_meet
     case rel=>exact⟨by simp[h1],rfl⟩
   case rest=>
   obtain⟨rfl,hwc⟩:=hcut;have hwc':=hwc.symm;subst hwc';clear hwc;go_upto_if 199 with fail
   go_cut [] from 192 (fun wx=>OW thC 13 147 base wx (some ⟨b,0,none⟩) n c (P++(mrg (fun x:ThR=>x.pos) L1 R1++(L2++(R2++Q))))∧w.grownBy wx (some b))
   case first=>
    cases hb:(decide (a<s)&&decide (s<mid))
    case true=>
     have hbb:=hb;simp only[Bool.and_eq_true,decide_eq_true_eq]at hbb;obtain⟨h1,h2⟩:=hbb;clear hb;go_wp2_with fail
     refine(IH.out base b n c a s mid P L1 R1 (L2++(R2++Q)) _ (by have:=HNN.out;omega) hO4 HP.out E3.out E4.out (by have:=E3.out;omega) (by have:=E4.out;omega) T1.out T3.out hn).mono ?_
     rintro ev w2 ⟨⟨v,rfl⟩,hO5,hg5⟩;go_wp2_with fail
     go_meet
     case rel=>exact⟨hO5,aN hg3 hg5⟩
    case false=>
     have hbb:=hb;simp only[Bool.and_eq_false_iff,decide_eq_false_iff_not]at hbb;have HBB:=Lib.hid hbb;clear hb hbb;have hq:Hid (L1++(R1++(L2++(R2++Q)))=mrg (fun x:ThR=>x.pos) L1 R1++(L2++(R2++Q))):=by
      show _=_
      rcases HBB.out with h1|h1
      ·have h0:L1=[]:=List.eq_nil_of_length_eq_zero (by have:=E3.out;omega)
       rw[h0,cY];simp
      ·have h0:R1=[]:=List.eq_nil_of_length_eq_zero (by have:=E4.out;omega)
       rw[h0,cR];simp
     rw[hq.out]at hO4;go_wp2_with fail
     go_meet
     case rel=>exact⟨hO4,hg3⟩
   case rest=>
   obtain⟨hO5,hg5⟩:=hcut;obtain⟨wr5,hw5'⟩ : ∃wr5,wr5=wc:=⟨_,rfl⟩
   rw[←hw5']at hO5 hg5 ⊢;clear hw5' hO4 hg3;have hO6:OW thC 13 147 base wr5 (some ⟨b,0,none⟩) n c ((P++mrg (fun x:ThR=>x.pos) L1 R1)++(L2++(R2++Q))):=by simpa only[List.append_assoc]using hO5
   have hPM:Hid ((P++mrg (fun x:ThR=>x.pos) L1 R1).length=mid):=by have k1:=HP.out;have k2:=E3.out;have k3:=E4.out;show _=_;rw[List.length_append,iU];omega
   have hME:Hid (mid+L2.length=en):=by have k1:=E4.out;have k2:=HSE.out;have k3:=HEN.out;show _=_;omega
   have hFIN:Hid ((P++mrg (fun x:ThR=>x.pos) L1 R1)++(mrg (fun x:ThR=>x.pos) L2 R2++Q)=P++(mrg (fun x:ThR=>x.pos) L R++Q)):=by show _=_;rw[HRES.out];simp
   clear hO5;by_cases h1:mid<en
   ·by_cases h2:en<e
    ·go_wp2_with fail
     refine(IH.out base b n c mid en e (P++mrg (fun x:ThR=>x.pos) L1 R1) L2 R2 Q _ (by have:=HNN.out;omega) hO6 hPM.out hME.out HEE.out (by have:=hME.out;omega) (by have:=HEE.out;omega) T2.out T4.out hn).mono ?_
     rintro ev w2 ⟨⟨v,rfl⟩,hO7,hg7⟩;rw[hFIN.out]at hO7;go_wp2_with fail
     go_end0
     exact⟨⟨_,rfl⟩,hO7,aN hg5 hg7⟩
    ·have h0:R2=[]:=List.eq_nil_of_length_eq_zero (by have:=HEE.out;omega)
     have hq:Hid ((P++mrg (fun x:ThR=>x.pos) L1 R1)++(L2++(R2++Q))=P++(mrg (fun x:ThR=>x.pos) L R++Q)):=by show _=_;rw[←hFIN.out,h0,cR];simp
     rw[hq.out]at hO6;clear h0;go_wp2_with fail
     go_end0
     exact⟨⟨_,rfl⟩,hO6,hg5⟩
   ·have h0:L2=[]:=List.eq_nil_of_length_eq_zero (by have:=hME.out;omega)
    have hq:Hid ((P++mrg (fun x:ThR=>x.pos) L1 R1)++(L2++(R2++Q))=P++(mrg (fun x:ThR=>x.pos) L R++Q)):=by show _=_;rw[←hFIN.out,h0,cY];simp
    rw[hq.out]at hO6;clear h0;go_wp2_with fail
    go_end0
    exact⟨⟨_,rfl⟩,hO6,hg5⟩
end Go.Proofs.YtjlkeoppppfeiaaGreat
