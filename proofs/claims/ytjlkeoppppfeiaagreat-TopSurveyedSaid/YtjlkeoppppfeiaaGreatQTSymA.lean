/- Lemmas. -/
import Derived.Test.YtjlkeoppppfeiaaGreatQSymA
import Derived.Test.YtjlkeoppppfeiaaGreatQTRot
import Derived.Test.YtjlkeoppppfeiaaGreatQTIns
namespace Go.Proofs.YtjlkeoppppfeiaaGreat
open Go.RowKit Go.Shelf Go.Sort Go.Proofs
set_option maxRecDepth 100000 in
set_option maxHeartbeats 8000000 in
theorem aE9 (base b n c a m e:Nat) (P L R Q:List ThR) (w:World) (h:OW thC 13 147 base w (some ⟨b,0,none⟩) n c (P++(L++(R++Q)))) (hP:P.length=a) (hm:a+L.length=m) (he:m+R.length=e) (hL1:L.length=1) (hRs:Srt (fun x:ThR=>x.pos) R) (hn:n≤100000) :
  Calls Tryz.prog 195 #[.slice (some ⟨b,0,none⟩) n c,.int .i64 a,.int .i64 m,.int .i64 e,.func (.func 57) #[] #[]] w fun ev w'=>(∃v,ev = .returned v)∧OW thC 13 147 base w' (some ⟨b,0,none⟩) n c (P++(mrg (fun x:ThR=>x.pos) L R++Q))∧w.grownBy w' (some b):=by
 have hmo:Tryz.prog.follows .mixedOrders=true:=by kernel_rfl
 obtain⟨l,rfl⟩ : ∃l,L=[l]:=by
  rcases L with _|⟨l,_|⟨_,_⟩⟩<;>simp at hL1
  exact⟨l,rfl⟩
 have HH:=Lib.hid h;have HS:=Lib.hid hRs;have HN:n=P.length+1+R.length+Q.length:=by rw[h.2];simp;omega
 have hma1:m=a+1:=by simpa using hm.symm
 have hma:IntKind.i64.wrap ((m:Int)-(a:Int))=1:=by rw[show (m:Int)-(a:Int)=1 by omega];rfl
 have hen:e≤n:=by omega
 have ham:a<m:=by omega
 have HP:=Lib.hid hP;have HM:=Lib.hid hma1;have HE:=Lib.hid he;clear h hRs HN hP hm he hma1 hL1;go_enter Tryz.func195,Tryz.ntmps195
 go_wp2_with fail
 clear hma;go_loopw [10,11] (fun iv jv wr=>∃(p q:Nat) (R1 R2 R3:List ThR),iv = .int .i64 p∧jv = .int .i64 q∧Hid (R=R1++(R2++R3))∧Hid (m+R1.length=p)∧Hid (p+R2.length=q)∧Hid (∀y∈R1,y.pos<l.pos)∧Hid (∀y∈R3,l.pos≤y.pos)∧OW thC 13 147 base wr (some ⟨b,0,none⟩) n c (P++([l]++(R++Q)))∧w.grownBy wr (some b))
  (fun iv jv _=>(intOf jv).toNat-(intOf iv).toNat)
 case atStart=>exact⟨m,e,[],R,[],rfl,rfl,by show _=_;simp,by show _=_;simp,HE,Lib.hid (fun y (hy:y∈([]:List ThR))=>by cases hy),Lib.hid (fun y (hy:y∈([]:List ThR))=>by cases hy),HH.out,World.grownBy.refl w _⟩
 case round=>
  obtain⟨p,q,R1,R2,R3,rfl,rfl,HR,Hp,Hq,H1,H3,hO,hg⟩:=hrel;have hql:q≤e:=by have h1:=HR.out;have h2:=Hp.out;have h3:=Hq.out;have h4:=HE.out;rw[h1]at h4;simp at h4;omega
  have hmp:m≤p:=by have:=Hp.out;omega
  have hpq0:p≤q:=by have:=Hq.out;omega
  by_cases hlt:p<q
  ·obtain⟨h,hh⟩ : ∃h:Nat,h=(p+q) / 2:=⟨_,rfl⟩
   have hw1:IntKind.i64.wrap ((p:Int)+(q:Int))=(p:Int)+(q:Int):=IntWalk.i64_in _ (by omega)
   have hw2:IntKind.u64.wrap ((p:Int)+(q:Int))=(p:Int)+(q:Int):=cW (by omega) (by omega)
   have hw3:IntKind.i64.wrap (((p:Int)+(q:Int)) / 2)=(h:Int):=by rw[show ((p:Int)+(q:Int)) / 2=(h:Int) by omega];exact IntWalk.i64_in _ (by omega)
   have hph:p≤h:=by omega
   have hhq:h<q:=by omega
   obtain⟨A2,r,B2,hR2,hA2⟩:=eT R2 (i:=h-p) (by have:=Hq.out;omega)
   have HR2:=Lib.hid hR2;have HA2:=Lib.hid hA2;have HHH:=Lib.hid hh;obtain⟨b',hb',hbl,_,hfz,hrow⟩:=hO.at_ aJ _ rfl;cases hb'
   have gi:=cI (l:=P++([l]++(R++Q))) (A:=P) (x:=l) (B:=R++Q) rfl HP.out;have gj:=cI (l:=P++([l]++(R++Q))) (A:=P++([l]++(R1++A2))) (x:=r) (B:=B2++(R3++Q)) (i:=h) (by rw[HR.out,HR2.out];simp) (by have h1:=HP.out;have h2:=HM.out;have h3:=Hp.out;simp;omega)
   have x0':=hrow (h) r gj 0 _ rfl;have x1':=hrow (h) r gj 1 _ rfl;have x2':=hrow (h) r gj 2 _ rfl;have x3':=hrow (h) r gj 3 _ rfl;have x4':=hrow (h) r gj 4 _ rfl;have x5':=hrow (h) r gj 5 _ rfl;have x6':=hrow (h) r gj 6 _ rfl;have x7':=hrow (h) r gj 7 _ rfl;have x8':=hrow (h) r gj 8 _ rfl;have x9':=hrow (h) r gj 9 _ rfl;have x10':=hrow (h) r gj 10 _ rfl;have x11':=hrow (h) r gj 11 _ rfl;have x12':=hrow (h) r gj 12 _ rfl;have hax:∀q,0+(h)*13+q=(h)*13+q:=fun q=>by omega
   rw[hax]at x0' x1' x2' x3' x4' x5' x6' x7' x8' x9' x10' x11' x12';rw[Nat.add_zero]at x0';have x0:=fun d os=>cell_regrown x0' d os
   have x1:=fun d os=>cell_regrown x1' d os
   have x2:=fun d os=>cell_regrown x2' d os
   have x3:=fun d os=>cell_regrown x3' d os
   have x4:=fun d os=>cell_regrown x4' d os
   have x5:=fun d os=>cell_regrown x5' d os
   have x6:=fun d os=>cell_regrown x6' d os
   have x7:=fun d os=>cell_regrown x7' d os
   have x8:=fun d os=>cell_regrown x8' d os
   have x9:=fun d os=>cell_regrown x9' d os
   have x10:=fun d os=>cell_regrown x10' d os
   have x11:=fun d os=>cell_regrown x11' d os
   have x12:=fun d os=>cell_regrown x12' d os
   clear hax;have y0':=hrow (a) l gi 0 _ rfl;have y1':=hrow (a) l gi 1 _ rfl;have y2':=hrow (a) l gi 2 _ rfl;have y3':=hrow (a) l gi 3 _ rfl;have y4':=hrow (a) l gi 4 _ rfl;have y5':=hrow (a) l gi 5 _ rfl;have y6':=hrow (a) l gi 6 _ rfl;have y7':=hrow (a) l gi 7 _ rfl;have y8':=hrow (a) l gi 8 _ rfl;have y9':=hrow (a) l gi 9 _ rfl;have y10':=hrow (a) l gi 10 _ rfl;have y11':=hrow (a) l gi 11 _ rfl;have y12':=hrow (a) l gi 12 _ rfl;have hay:∀q,0+(a)*13+q=(a)*13+q:=fun q=>by omega
   rw[hay]at y0' y1' y2' y3' y4' y5' y6' y7' y8' y9' y10' y11' y12';rw[Nat.add_zero]at y0';have y0:=fun d os=>cell_regrown y0' d os
   have y1:=fun d os=>cell_regrown y1' d os
   have y2:=fun d os=>cell_regrown y2' d os
   have y3:=fun d os=>cell_regrown y3' d os
   have y4:=fun d os=>cell_regrown y4' d os
   have y5:=fun d os=>cell_regrown y5' d os
   have y6:=fun d os=>cell_regrown y6' d os
   have y7:=fun d os=>cell_regrown y7' d os
   have y8:=fun d os=>cell_regrown y8' d os
   have y9:=fun d os=>cell_regrown y9' d os
   have y10:=fun d os=>cell_regrown y10' d os
   have y11:=fun d os=>cell_regrown y11' d os
   have y12:=fun d os=>cell_regrown y12' d os
   clear hay;have hi1:(0:Int)≤(h:Int):=by omega
   have hi2:(h:Int)<(n:Int):=by omega
   have hi3:(0:Int)≤(a:Int):=by omega
   have hi4:(a:Int)<(n:Int):=by omega
   obtain⟨h1,hh1⟩ : ∃h1,h1=h+1:=⟨_,rfl⟩
   have hwh:IntKind.i64.wrap ((h:Int)+1)=(h1:Int):=by rw[show (h:Int)+1=(h1:Int) by omega];exact IntWalk.i64_in _ (by omega)
   have HH1:=Lib.hid hh1;clear hrow gi gj hh hR2 hA2 hh1;go_wp2_with fail
   refine aM 10 [9] hmo (by kernel_rfl) ?_
   simp only[List.take_succ_cons,List.take_zero,List.drop_succ_cons,List.drop_zero]
   repeat (refine aH (by decide) (by decide) (fun K hK=>?_);go_simp;refine hK _ ?_;clear hK K)
   refine bF (ι:=Unit) 57 #[.agg #[.int .i64 r.at_,.int .i64 r.en,.int .i64 ((r.od:Nat):Int),.int .i64 r.nk,.int .i64 r.ntu,.int .i64 r.ngr,.int .i64 r.nlo,.int .i64 r.nch,.int .i64 r.nto,.int .i64 r.nme,.int .i64 r.nsi,.int .i64 r.nwa,.int .i64 r.nar],.agg #[.int .i64 l.at_,.int .i64 l.en,.int .i64 ((l.od:Nat):Int),.int .i64 l.nk,.int .i64 l.ntu,.int .i64 l.ngr,.int .i64 l.nlo,.int .i64 l.nch,.int .i64 l.nto,.int .i64 l.nme,.int .i64 l.nsi,.int .i64 l.nwa,.int .i64 l.nar]] (fun _=>.int .i64 (bS r.pos l.pos)) (fun _ _=>True) (by decide) (by decide) (by go_simp) (fun w=>by go_simp) aB (fun _=>aB) (fun W hW _=>?_) (fun ix1 hs1=>?_)
   ·refine(mG r l W).mono ?_
    rintro ev w' ⟨rfl,hbl⟩;exact⟨(),rfl,trivial,hbl⟩
   repeat (refine aH (by decide) (by decide) (fun K hK=>?_);go_simp;refine hK _ ?_;clear hK K)
   refine bI ?_
   intro w3 hbc _;clear hs1;have hO3:=hO.call hbc;have hg3:=cD hg hbc;clear hO hg x0 x0' x1 x1' x2 x2' x3 x3' x4 x4' x5 x5' x6 x6' x7 x7' x8 x8' x9 x9' x10 x10' x11 x11' x12 x12' y0 y0' y1 y1' y2 y2' y3 y3' y4 y4' y5 y5' y6 y6' y7 y7' y8 y8' y9 y9' y10 y10' y11 y11' y12 y12';have hmid:Hid ((∀y∈A2,y.pos≤r.pos)∧(∀y∈B2,r.pos≤y.pos)):=by
    have h1:=HS.out;rw[HR.out,HR2.out]at h1;have h2:R1++(A2++r::B2++R3)=(R1++A2)++r::(B2++R3):=by simp
    rw[h2]at h1;have h3:=h1.mid;exact⟨fun y hy=>h3.1 y (List.mem_append.2 (.inr hy)),fun y hy=>h3.2 y (List.mem_append.2 (.inl hy))⟩
   by_cases hxy:r.pos<l.pos
   ·have d1:decide (bS r.pos l.pos<0)=true:=by rw[bR];simpa using hxy
    have HXY:=Lib.hid hxy;clear hxy;go_wp2_with fail
    go_roundw
    case rel=>
     refine⟨h1,q,R1++(A2++[r]),B2,R3,rfl,rfl,?_,?_,?_,?_,H3,hO3,hg3⟩
     ·show _=_;rw[HR.out,HR2.out];simp
     ·have k1:=Hp.out;have k2:=HA2.out;have k3:=HH1.out;show _=_;simp;omega
     ·have k1:=Hq.out;have k2:=HA2.out;have k3:=HH1.out;have k4:=HR2.out;rw[k4]at k1;simp at k1;show _=_;omega
     ·show ∀y∈_,_
      intro y hy;have hm2:=hmid.out;have hx2:=HXY.out;rcases List.mem_append.1 hy with hy|hy
      ·exact H1.out y hy
      ·rcases List.mem_append.1 hy with hy|hy
       ·have:=hm2.1 y hy;omega
       ·rw[List.mem_singleton]at hy;subst hy;exact hx2
    case measure=>have:=HH1.out;simp[intOf];omega
   ·have d1:decide (bS r.pos l.pos<0)=false:=by rw[bR];simpa using hxy
    have HXY:=Lib.hid (show l.pos≤r.pos by omega)
    clear hxy;go_wp2_with fail
    go_roundw
    case rel=>
     refine⟨p,h,R1,A2,r::(B2++R3),rfl,rfl,?_,Hp,?_,H1,?_,hO3,hg3⟩
     ·show _=_;rw[HR.out,HR2.out];simp
     ·have k2:=HA2.out;show _=_;omega
     ·show ∀y∈_,_
      intro y hy;have hm2:=hmid.out;have hx2:=HXY.out;rcases List.mem_cons.1 hy with rfl|hy
      ·exact hx2
      ·rcases List.mem_append.1 hy with hy|hy
       ·have:=hm2.2 y hy;omega
       ·exact H3.out y hy
    case measure=>simp[intOf];omega
  ·have hpq:p=q:=by omega
   have hR2:R2=[]:=List.eq_nil_of_length_eq_zero (by have:=Hq.out;omega)
   obtain⟨p1,hp1⟩ : ∃p1,p1=a+R1.length:=⟨_,rfl⟩
   have hp11:p=p1+1:=by have h1:=Hp.out;have h2:=HM.out;omega
   have hwp:IntKind.i64.wrap ((p:Int)-1)=(p1:Int):=by rw[show (p:Int)-1=(p1:Int) by omega];exact IntWalk.i64_in _ (by omega)
   have HRR:Hid (R=R1++R3):=by show _=_;rw[HR.out,hR2];simp
   have HRES:Hid (mrg (fun x:ThR=>x.pos) [l] R=R1++l::R3):=by show _=_;rw[HRR.out];exact nE (fun x:ThR=>x.pos) l H1.out H3.out
   have HP1:=Lib.hid hp1;have hp1n:p1<n:=by omega
   have HO:=Lib.hid hO;have HG:=Lib.hid hg;clear hp1 hp11 hpq hR2 hO hg;go_wp2_with fail
   go_loopw [13] (fun kv wq=>∃(k:Nat) (D E:List ThR),kv = .int .i64 k∧Hid (k=a+D.length)∧Hid (R1=D++E)∧OW thC 13 147 base wq (some ⟨b,0,none⟩) n c (P++(D++l::(E++(R3++Q))))∧w.grownBy wq (some b))
    (fun kv _=>p1-(intOf kv).toNat)
   case atStart=>exact⟨a,[],R1,rfl,by show _=_;simp,by show _=_;simp,by have:=HO.out;rw[HRR.out]at this;simpa using this,HG.out⟩
   case round=>
    obtain⟨k,D,E,rfl,Hk,HDE,hO,hg⟩:=hrel;have hkp:k+E.length=p1:=by have h1:=Hk.out;have h2:=HDE.out;have h3:=HP1.out;rw[h2]at h3;simp at h3;omega
    rcases E with _|⟨y,E⟩
    ·obtain rfl:k=p1:=by simpa using hkp
     have hres:Hid (P++(D++l::([]++(R3++Q)))=P++(mrg (fun x:ThR=>x.pos) [l] R++Q)):=by
      show _=_
      have:=HDE.out;rw[List.append_nil]at this;rw[HRES.out,this];simp
     rw[hres.out]at hO;go_wp2_with fail
     refine bodyPost_ret (results_none rfl _ _ _) rfl ?_
     exact⟨⟨_,rfl⟩,hO,hg⟩
    ·have hklt:k<p1:=by simp at hkp;omega
     obtain⟨k1,hk1⟩ : ∃k1,k1=k+1:=⟨_,rfl⟩
     have hwk:IntKind.i64.wrap ((k:Int)+1)=(k1:Int):=by rw[show (k:Int)+1=(k1:Int) by omega];exact IntWalk.i64_in _ (by omega)
     have hkk:k<k1:=by omega
     have e1:P++(D++l::(y::E++(R3++Q)))=(P++D)++l::([]++y::(E++(R3++Q))):=by simp
     rw[e1]at hO;have hA:(P++D).length=k:=by have h1:=HP.out;have h2:=Hk.out;simp;omega
     have hB:(P++D).length+([]:List ThR).length+1=k1:=by simp;have h1:=HP.out;have h2:=Hk.out;omega
     have HA:=Lib.hid hA;have HB:=Lib.hid hB;have HK1:=Lib.hid hk1;obtain⟨b',hb',hbl,_,hfz,hrow⟩:=hO.at_ aJ _ rfl;cases hb'
     have gi:=aL (P++D) l ([]++y::(E++(R3++Q))) hA
     have gj:=aS (P++D) l [] y (E++(R3++Q)) hB;have x0:=hrow (k) l gi 0 _ rfl;have x1:=hrow (k) l gi 1 _ rfl;have x2:=hrow (k) l gi 2 _ rfl;have x3:=hrow (k) l gi 3 _ rfl;have x4:=hrow (k) l gi 4 _ rfl;have x5:=hrow (k) l gi 5 _ rfl;have x6:=hrow (k) l gi 6 _ rfl;have x7:=hrow (k) l gi 7 _ rfl;have x8:=hrow (k) l gi 8 _ rfl;have x9:=hrow (k) l gi 9 _ rfl;have x10:=hrow (k) l gi 10 _ rfl;have x11:=hrow (k) l gi 11 _ rfl;have x12:=hrow (k) l gi 12 _ rfl;have hax:∀q,0+(k)*13+q=(k)*13+q:=fun q=>by omega
     rw[hax]at x0 x1 x2 x3 x4 x5 x6 x7 x8 x9 x10 x11 x12;rw[Nat.add_zero]at x0;clear hax;have y0:=hrow (k1) y gj 0 _ rfl;have y1:=hrow (k1) y gj 1 _ rfl;have y2:=hrow (k1) y gj 2 _ rfl;have y3:=hrow (k1) y gj 3 _ rfl;have y4:=hrow (k1) y gj 4 _ rfl;have y5:=hrow (k1) y gj 5 _ rfl;have y6:=hrow (k1) y gj 6 _ rfl;have y7:=hrow (k1) y gj 7 _ rfl;have y8:=hrow (k1) y gj 8 _ rfl;have y9:=hrow (k1) y gj 9 _ rfl;have y10:=hrow (k1) y gj 10 _ rfl;have y11:=hrow (k1) y gj 11 _ rfl;have y12:=hrow (k1) y gj 12 _ rfl;have hay:∀q,0+(k1)*13+q=(k1)*13+q:=fun q=>by omega
     rw[hay]at y0 y1 y2 y3 y4 y5 y6 y7 y8 y9 y10 y11 y12;rw[Nat.add_zero]at y0;clear hay;have hi1:(0:Int)≤(k:Int):=by omega
     have hi2:(k:Int)<(n:Int):=by omega
     have hi3:(0:Int)≤(k1:Int):=by omega
     have hi4:(k1:Int)<(n:Int):=by omega
     clear hrow gi gj hA hB hk1 e1;go_wp2_with fail
     go_region
     go_wp2_with fail
     go_roundw
     case rel=>
      refine⟨k1,D++[y],E,rfl,by have h1:=HK1.out;have h2:=Hk.out;show _=_;simp;omega,by show _=_;rw[HDE.out];simp,?_,cB (aA (aA (aA (aA (aA (aA (aA (aA (aA (aA (aA (aA (aA (aA (aA (aA (aA (aA (aA (aA (aA (aA (aA (aA (aA (aA hg _) _) _) _) _) _) _) _) _) _) _) _) _) _) _) _) _) _) _) _) _) _) _) _) _) _)⟩
      have:=OW.drew (exT hO HA.out HB.out);simpa only[List.nil_append,List.cons_append,List.append_assoc,Nat.add_zero]using this
     case measure=>have:=HK1.out;simp[intOf];omega
set_option maxRecDepth 100000 in
set_option maxHeartbeats 8000000 in
theorem aEa (base b n c a m e:Nat) (P L R Q:List ThR) (w:World) (h:OW thC 13 147 base w (some ⟨b,0,none⟩) n c (P++(L++(R++Q)))) (hP:P.length=a) (hm:a+L.length=m) (he:m+R.length=e) (hL2:2≤L.length) (hR1:R.length=1) (hLs:Srt (fun x:ThR=>x.pos) L) (hn:n≤100000) :
  Calls Tryz.prog 195 #[.slice (some ⟨b,0,none⟩) n c,.int .i64 a,.int .i64 m,.int .i64 e,.func (.func 57) #[] #[]] w fun ev w'=>(∃v,ev = .returned v)∧OW thC 13 147 base w' (some ⟨b,0,none⟩) n c (P++(mrg (fun x:ThR=>x.pos) L R++Q))∧w.grownBy w' (some b):=by
 have hmo:Tryz.prog.follows .mixedOrders=true:=by kernel_rfl
 obtain⟨r,rfl⟩ : ∃r,R=[r]:=by
  rcases R with _|⟨r,_|⟨_,_⟩⟩<;>simp at hR1
  exact⟨r,rfl⟩
 have HH:=Lib.hid h;have HS:=Lib.hid hLs;have HN:n=P.length+L.length+1+Q.length:=by rw[h.2];simp;omega
 have hme1:e=m+1:=by simpa using he.symm
 obtain⟨D0,hD0⟩ : ∃D0:Nat,D0=m-a:=⟨_,rfl⟩
 have hma:IntKind.i64.wrap ((m:Int)-(a:Int))=(D0:Int):=by rw[show (m:Int)-(a:Int)=(D0:Int) by omega];exact IntWalk.i64_in _ (by omega)
 have hD02:((D0:Int) == 1)=false:=by simp;omega
 have hem:IntKind.i64.wrap ((e:Int)-(m:Int))=1:=by rw[show (e:Int)-(m:Int)=1 by omega];rfl
 have hmn:m<n:=by omega
 have HP:=Lib.hid hP;have HM:=Lib.hid hm;clear h hLs HN hP hm he hR1 hL2 hD0 hme1;go_enter Tryz.func195,Tryz.ntmps195
 go_wp2_with fail
 clear hma hem;go_loopw [14,15] (fun iv jv wr=>∃(p q:Nat) (L1 L2 L3:List ThR),iv = .int .i64 p∧jv = .int .i64 q∧Hid (L=L1++(L2++L3))∧Hid (a+L1.length=p)∧Hid (p+L2.length=q)∧Hid (∀y∈L1,y.pos≤r.pos)∧Hid (∀y∈L3,r.pos<y.pos)∧OW thC 13 147 base wr (some ⟨b,0,none⟩) n c (P++(L++([r]++Q)))∧w.grownBy wr (some b))
  (fun iv jv _=>(intOf jv).toNat-(intOf iv).toNat)
 case atStart=>exact⟨a,m,[],L,[],rfl,rfl,by show _=_;simp,by show _=_;simp,HM,Lib.hid (fun y (hy:y∈([]:List ThR))=>by cases hy),Lib.hid (fun y (hy:y∈([]:List ThR))=>by cases hy),HH.out,World.grownBy.refl w _⟩
 case round=>
  obtain⟨p,q,L1,L2,L3,rfl,rfl,HR,Hp,Hq,H1,H3,hO,hg⟩:=hrel;have hqm:q≤m:=by have h1:=HR.out;have h2:=Hp.out;have h3:=Hq.out;have h4:=HM.out;rw[h1]at h4;simp at h4;omega
  have hpq0:p≤q:=by have:=Hq.out;omega
  by_cases hlt:p<q
  ·obtain⟨h,hh⟩ : ∃h:Nat,h=(p+q) / 2:=⟨_,rfl⟩
   have hw1:IntKind.i64.wrap ((p:Int)+(q:Int))=(p:Int)+(q:Int):=IntWalk.i64_in _ (by omega)
   have hw2:IntKind.u64.wrap ((p:Int)+(q:Int))=(p:Int)+(q:Int):=cW (by omega) (by omega)
   have hw3:IntKind.i64.wrap (((p:Int)+(q:Int)) / 2)=(h:Int):=by rw[show ((p:Int)+(q:Int)) / 2=(h:Int) by omega];exact IntWalk.i64_in _ (by omega)
   have hph:p≤h:=by omega
   have hhq:h<q:=by omega
   obtain⟨A2,x,B2,hR2,hA2⟩:=eT L2 (i:=h-p) (by have:=Hq.out;omega)
   have HR2:=Lib.hid hR2;have HA2:=Lib.hid hA2;have HHH:=Lib.hid hh;obtain⟨b',hb',hbl,_,hfz,hrow⟩:=hO.at_ aJ _ rfl;cases hb'
   have gi:=cI (l:=P++(L++([r]++Q))) (A:=P++L) (x:=r) (B:=Q) (i:=m) (by simp) (by have h1:=HP.out;have h2:=HM.out;simp;omega)
   have gj:=cI (l:=P++(L++([r]++Q))) (A:=P++(L1++A2)) (x:=x) (B:=B2++(L3++([r]++Q))) (i:=h) (by rw[HR.out,HR2.out];simp) (by have h1:=HP.out;have h3:=Hp.out;simp;omega)
   have x0':=hrow (h) x gj 0 _ rfl;have x1':=hrow (h) x gj 1 _ rfl;have x2':=hrow (h) x gj 2 _ rfl;have x3':=hrow (h) x gj 3 _ rfl;have x4':=hrow (h) x gj 4 _ rfl;have x5':=hrow (h) x gj 5 _ rfl;have x6':=hrow (h) x gj 6 _ rfl;have x7':=hrow (h) x gj 7 _ rfl;have x8':=hrow (h) x gj 8 _ rfl;have x9':=hrow (h) x gj 9 _ rfl;have x10':=hrow (h) x gj 10 _ rfl;have x11':=hrow (h) x gj 11 _ rfl;have x12':=hrow (h) x gj 12 _ rfl;have hax:∀q,0+(h)*13+q=(h)*13+q:=fun q=>by omega
   rw[hax]at x0' x1' x2' x3' x4' x5' x6' x7' x8' x9' x10' x11' x12';rw[Nat.add_zero]at x0';have x0:=fun d os=>cell_regrown x0' d os
   have x1:=fun d os=>cell_regrown x1' d os
   have x2:=fun d os=>cell_regrown x2' d os
   have x3:=fun d os=>cell_regrown x3' d os
   have x4:=fun d os=>cell_regrown x4' d os
   have x5:=fun d os=>cell_regrown x5' d os
   have x6:=fun d os=>cell_regrown x6' d os
   have x7:=fun d os=>cell_regrown x7' d os
   have x8:=fun d os=>cell_regrown x8' d os
   have x9:=fun d os=>cell_regrown x9' d os
   have x10:=fun d os=>cell_regrown x10' d os
   have x11:=fun d os=>cell_regrown x11' d os
   have x12:=fun d os=>cell_regrown x12' d os
   clear hax;have y0':=hrow (m) r gi 0 _ rfl;have y1':=hrow (m) r gi 1 _ rfl;have y2':=hrow (m) r gi 2 _ rfl;have y3':=hrow (m) r gi 3 _ rfl;have y4':=hrow (m) r gi 4 _ rfl;have y5':=hrow (m) r gi 5 _ rfl;have y6':=hrow (m) r gi 6 _ rfl;have y7':=hrow (m) r gi 7 _ rfl;have y8':=hrow (m) r gi 8 _ rfl;have y9':=hrow (m) r gi 9 _ rfl;have y10':=hrow (m) r gi 10 _ rfl;have y11':=hrow (m) r gi 11 _ rfl;have y12':=hrow (m) r gi 12 _ rfl;have hay:∀q,0+(m)*13+q=(m)*13+q:=fun q=>by omega
   rw[hay]at y0' y1' y2' y3' y4' y5' y6' y7' y8' y9' y10' y11' y12';rw[Nat.add_zero]at y0';have y0:=fun d os=>cell_regrown y0' d os
   have y1:=fun d os=>cell_regrown y1' d os
   have y2:=fun d os=>cell_regrown y2' d os
   have y3:=fun d os=>cell_regrown y3' d os
   have y4:=fun d os=>cell_regrown y4' d os
   have y5:=fun d os=>cell_regrown y5' d os
   have y6:=fun d os=>cell_regrown y6' d os
   have y7:=fun d os=>cell_regrown y7' d os
   have y8:=fun d os=>cell_regrown y8' d os
   have y9:=fun d os=>cell_regrown y9' d os
   have y10:=fun d os=>cell_regrown y10' d os
   have y11:=fun d os=>cell_regrown y11' d os
   have y12:=fun d os=>cell_regrown y12' d os
   clear hay;have hi1:(0:Int)≤(h:Int):=by omega
   have hi2:(h:Int)<(n:Int):=by omega
   have hi3:(0:Int)≤(m:Int):=by omega
   have hi4:(m:Int)<(n:Int):=by omega
   obtain⟨h1,hh1⟩ : ∃h1,h1=h+1:=⟨_,rfl⟩
   have hwh:IntKind.i64.wrap ((h:Int)+1)=(h1:Int):=by rw[show (h:Int)+1=(h1:Int) by omega];exact IntWalk.i64_in _ (by omega)
   have HH1:=Lib.hid hh1;clear hrow gi gj hh hR2 hA2 hh1;go_wp2_with fail
   refine aM 11 [9] hmo (by kernel_rfl) ?_
   simp only[List.take_succ_cons,List.take_zero,List.drop_succ_cons,List.drop_zero]
   repeat (refine aH (by decide) (by decide) (fun K hK=>?_);go_simp;refine hK _ ?_;clear hK K)
   refine bF (ι:=Unit) 57 #[.agg #[.int .i64 r.at_,.int .i64 r.en,.int .i64 ((r.od:Nat):Int),.int .i64 r.nk,.int .i64 r.ntu,.int .i64 r.ngr,.int .i64 r.nlo,.int .i64 r.nch,.int .i64 r.nto,.int .i64 r.nme,.int .i64 r.nsi,.int .i64 r.nwa,.int .i64 r.nar],.agg #[.int .i64 x.at_,.int .i64 x.en,.int .i64 ((x.od:Nat):Int),.int .i64 x.nk,.int .i64 x.ntu,.int .i64 x.ngr,.int .i64 x.nlo,.int .i64 x.nch,.int .i64 x.nto,.int .i64 x.nme,.int .i64 x.nsi,.int .i64 x.nwa,.int .i64 x.nar]] (fun _=>.int .i64 (bS r.pos x.pos)) (fun _ _=>True) (by decide) (by decide) (by go_simp) (fun w=>by go_simp) aB (fun _=>aB) (fun W hW _=>?_) (fun ix1 hs1=>?_)
   ·refine(mG r x W).mono ?_
    rintro ev w' ⟨rfl,hbl⟩;exact⟨(),rfl,trivial,hbl⟩
   repeat (refine aH (by decide) (by decide) (fun K hK=>?_);go_simp;refine hK _ ?_;clear hK K)
   refine bI ?_
   intro w3 hbc _;clear hs1;have hO3:=hO.call hbc;have hg3:=cD hg hbc;clear hO hg x0 x0' x1 x1' x2 x2' x3 x3' x4 x4' x5 x5' x6 x6' x7 x7' x8 x8' x9 x9' x10 x10' x11 x11' x12 x12' y0 y0' y1 y1' y2 y2' y3 y3' y4 y4' y5 y5' y6 y6' y7 y7' y8 y8' y9 y9' y10 y10' y11 y11' y12 y12';have hmid:Hid ((∀y∈A2,y.pos≤x.pos)∧(∀y∈B2,x.pos≤y.pos)):=by
    have h1:=HS.out;rw[HR.out,HR2.out]at h1;have h2:L1++(A2++x::B2++L3)=(L1++A2)++x::(B2++L3):=by simp
    rw[h2]at h1;have h3:=h1.mid;exact⟨fun y hy=>h3.1 y (List.mem_append.2 (.inr hy)),fun y hy=>h3.2 y (List.mem_append.2 (.inl hy))⟩
   by_cases hxy:r.pos<x.pos
   ·have d1:decide (bS r.pos x.pos<0)=true:=by rw[bR];simpa using hxy
    have HXY:=Lib.hid hxy;clear hxy;go_wp2_with fail
    go_roundw
    case rel=>
     refine⟨p,h,L1,A2,x::(B2++L3),rfl,rfl,?_,Hp,?_,H1,?_,hO3,hg3⟩
     ·show _=_;rw[HR.out,HR2.out];simp
     ·have k2:=HA2.out;show _=_;omega
     ·show ∀y∈_,_
      intro y hy;have hm2:=hmid.out;have hx2:=HXY.out;rcases List.mem_cons.1 hy with rfl|hy
      ·exact hx2
      ·rcases List.mem_append.1 hy with hy|hy
       ·have:=hm2.2 y hy;omega
       ·exact H3.out y hy
    case measure=>simp[intOf];omega
   ·have d1:decide (bS r.pos x.pos<0)=false:=by rw[bR];simpa using hxy
    have HXY:=Lib.hid (show x.pos≤r.pos by omega)
    clear hxy;go_wp2_with fail
    go_roundw
    case rel=>
     refine⟨h1,q,L1++(A2++[x]),B2,L3,rfl,rfl,?_,?_,?_,?_,H3,hO3,hg3⟩
     ·show _=_;rw[HR.out,HR2.out];simp
     ·have k1:=Hp.out;have k2:=HA2.out;have k3:=HH1.out;show _=_;simp;omega
     ·have k1:=Hq.out;have k2:=HA2.out;have k3:=HH1.out;have k4:=HR2.out;rw[k4]at k1;simp at k1;show _=_;omega
     ·show ∀y∈_,_
      intro y hy;have hm2:=hmid.out;have hx2:=HXY.out;rcases List.mem_append.1 hy with hy|hy
      ·exact H1.out y hy
      ·rcases List.mem_append.1 hy with hy|hy
       ·have:=hm2.1 y hy;omega
       ·rw[List.mem_singleton]at hy;subst hy;exact hx2
    case measure=>have:=HH1.out;simp[intOf];omega
  ·have hpq:p=q:=by omega
   have hL2:L2=[]:=List.eq_nil_of_length_eq_zero (by have:=Hq.out;omega)
   have HRR:Hid (L=L1++L3):=by show _=_;rw[HR.out,hL2];simp
   have HRES:Hid (mrg (fun x:ThR=>x.pos) L [r]=L1++r::L3):=by show _=_;rw[HRR.out];exact nG (fun x:ThR=>x.pos) r H1.out H3.out
   have HO:=Lib.hid hO;have HG:=Lib.hid hg;clear hpq hL2 hO hg;go_wp2_with fail
   go_loopw [17] (fun kv wq=>∃(k:Nat) (D E:List ThR),kv = .int .i64 k∧Hid (k=p+D.length)∧Hid (L3=D++E)∧OW thC 13 147 base wq (some ⟨b,0,none⟩) n c (P++(L1++(D++r::(E++Q))))∧w.grownBy wq (some b))
    (fun kv _=>(intOf kv).toNat-p)
   case atStart=>exact⟨m,L3,[],rfl,by have h1:=HRR.out;have h2:=HM.out;have h3:=Hp.out;rw[h1]at h2;simp at h2;show _=_;omega,by show _=_;simp,by have:=HO.out;rw[HRR.out]at this;simpa using this,HG.out⟩
   case round=>
    obtain⟨k,D,E,rfl,Hk,HDE,hO,hg⟩:=hrel;rcases jT D with rfl|⟨D,y,rfl⟩
    ·obtain rfl:k=p:=Hk.out
     have hres:Hid (P++(L1++([]++r::(E++Q)))=P++(mrg (fun x:ThR=>x.pos) L [r]++Q)):=by
      show _=_
      have:=HDE.out;rw[List.nil_append]at this;rw[HRES.out,this];simp
     rw[hres.out]at hO;go_wp2_with fail
     refine bodyPost_ret (results_none rfl _ _ _) rfl ?_
     exact⟨⟨_,rfl⟩,hO,hg⟩
    ·obtain⟨k1,hk1⟩ : ∃k1,k1=p+D.length:=⟨_,rfl⟩
     have hkk1:k=k1+1:=by have:=Hk.out;simp at this;omega
     have hkm:k≤m:=by have h1:=HRR.out;have h2:=HM.out;have h3:=Hp.out;have h4:=HDE.out;rw[h1,h4]at h2;simp at h2;omega
     have hwk:IntKind.i64.wrap ((k:Int)-1)=(k1:Int):=by rw[show (k:Int)-1=(k1:Int) by omega];exact IntWalk.i64_in _ (by omega)
     have hkk:k1<k:=by omega
     have hpk:p<k:=by omega
     have e1:P++(L1++(D++[y]++r::(E++Q)))=(P++(L1++D))++y::([]++r::(E++Q)):=by simp
     rw[e1]at hO;have hA:(P++(L1++D)).length=k1:=by have h1:=HP.out;have h2:=Hp.out;simp;omega
     have hB:(P++(L1++D)).length+([]:List ThR).length+1=k:=by rw[hA];simp;omega
     have HA:=Lib.hid hA;have HB:=Lib.hid hB;have HK1:=Lib.hid hk1;obtain⟨b',hb',hbl,_,hfz,hrow⟩:=hO.at_ aJ _ rfl;cases hb'
     have gi:=aL (P++(L1++D)) y ([]++r::(E++Q)) hA
     have gj:=aS (P++(L1++D)) y [] r (E++Q) hB;have hkn:k<n:=by
      have:=(List.getElem?_eq_some_iff.1 gj).1
      rw[hO.2];exact this
     have x0:=hrow (k1) y gi 0 _ rfl;have x1:=hrow (k1) y gi 1 _ rfl;have x2:=hrow (k1) y gi 2 _ rfl;have x3:=hrow (k1) y gi 3 _ rfl;have x4:=hrow (k1) y gi 4 _ rfl;have x5:=hrow (k1) y gi 5 _ rfl;have x6:=hrow (k1) y gi 6 _ rfl;have x7:=hrow (k1) y gi 7 _ rfl;have x8:=hrow (k1) y gi 8 _ rfl;have x9:=hrow (k1) y gi 9 _ rfl;have x10:=hrow (k1) y gi 10 _ rfl;have x11:=hrow (k1) y gi 11 _ rfl;have x12:=hrow (k1) y gi 12 _ rfl;have hax:∀q,0+(k1)*13+q=(k1)*13+q:=fun q=>by omega
     rw[hax]at x0 x1 x2 x3 x4 x5 x6 x7 x8 x9 x10 x11 x12;rw[Nat.add_zero]at x0;clear hax;have y0:=hrow (k) r gj 0 _ rfl;have y1:=hrow (k) r gj 1 _ rfl;have y2:=hrow (k) r gj 2 _ rfl;have y3:=hrow (k) r gj 3 _ rfl;have y4:=hrow (k) r gj 4 _ rfl;have y5:=hrow (k) r gj 5 _ rfl;have y6:=hrow (k) r gj 6 _ rfl;have y7:=hrow (k) r gj 7 _ rfl;have y8:=hrow (k) r gj 8 _ rfl;have y9:=hrow (k) r gj 9 _ rfl;have y10:=hrow (k) r gj 10 _ rfl;have y11:=hrow (k) r gj 11 _ rfl;have y12:=hrow (k) r gj 12 _ rfl;have hay:∀q,0+(k)*13+q=(k)*13+q:=fun q=>by omega
     rw[hay]at y0 y1 y2 y3 y4 y5 y6 y7 y8 y9 y10 y11 y12;rw[Nat.add_zero]at y0;clear hay;have hi1:(0:Int)≤(k:Int):=by omega
     have hi2:(k:Int)<(n:Int):=by omega
     have hi3:(0:Int)≤(k1:Int):=by omega
     have hi4:(k1:Int)<(n:Int):=by omega
     have HKK:=Lib.hid hkk1;clear hrow gi gj hA hB hk1 e1 hkk1;go_wp2_with fail
     go_region
     go_wp2_with fail
     go_roundw
     case rel=>
      refine⟨k1,D,y::E,rfl,HK1.out,by show _=_;rw[HDE.out];simp,?_,cB (aA (aA (aA (aA (aA (aA (aA (aA (aA (aA (aA (aA (aA (aA (aA (aA (aA (aA (aA (aA (aA (aA (aA (aA (aA (aA hg _) _) _) _) _) _) _) _) _) _) _) _) _) _) _) _) _) _) _) _) _) _) _) _) _) _)⟩
      have:=OW.drew (aE8 hO HA.out HB.out);simpa only[List.nil_append,List.cons_append,List.append_assoc,Nat.add_zero]using this
     case measure=>simp[intOf];omega
end Go.Proofs.YtjlkeoppppfeiaaGreat
