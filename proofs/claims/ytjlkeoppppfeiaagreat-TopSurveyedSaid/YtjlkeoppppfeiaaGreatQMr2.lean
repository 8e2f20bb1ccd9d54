/- Lemmas. -/
import Derived.Test.YtjlkeoppppfeiaaGreatQSfr
import Derived.Test.YtjlkeoppppfeiaaGreatQBackM
import Derived.Test.YtjlkeoppppfeiaaGreatQOrdM
import Derived.Test.YtjlkeoppppfeiaaGreatQRuns
import Derived.Test.YtjlkeoppppfeiaaGreatQSafe
namespace Go.Proofs.YtjlkeoppppfeiaaGreat
open Go.RowKit Go.Shelf Go.Sort Go.Proofs
section
variable {α:Type} (key:α→Int) (both:α→α→α) (ok:α→α→Bool)
def mr2:List α→List α→List α
 | [],R=>R
 |l::L,[]=>l::L
 |l::L,r::R=>if key l<key r then l::mr2 L (r::R) else if key r<key l then r::mr2 (l::L) R else both l r::mr2 L R
termination_by L R=>L.length+R.length
def gI:List α→List α→Bool
 | [],_=>true
 |_::_,[]=>true
 |l::L,r::R=>if key l<key r then gI L (r::R) else if key r<key l then gI (l::L) R else ok l r&&gI L R
termination_by L R=>L.length+R.length
theorem oJ (L:List α):mr2 key both L []=L:=by cases L<;>simp[mr2]
theorem sV (R:List α):mr2 key both [] R=R:=by simp[mr2]
theorem iY (l:α) (L:List α) (r:α) (R:List α):mr2 key both (l::L) (r::R)=if key l<key r then l::mr2 key both L (r::R) else if key r<key l then r::mr2 key both (l::L) R else both l r::mr2 key both L R:=by rw[mr2]
theorem u5 (L:List α):gI key ok L []=true:=by cases L<;>simp[gI]
theorem aBY (R:List α):gI key ok [] R=true:=by simp[gI]
theorem rH (l:α) (L:List α) (r:α) (R:List α):gI key ok (l::L) (r::R)=if key l<key r then gI key ok L (r::R) else if key r<key l then gI key ok (l::L) R else ok l r&&gI key ok L R:=by rw[gI]
theorem iD:∀L R:List α,(mr2 key both L R).length≤L.length+R.length
 | [],R=>by simp[mr2]
 |l::L,[]=>by simp[mr2]
 |l::L,r::R=>by
  rw[iY]
  split
  ·have:=iD L (r::R);simp only[List.length_cons]at this ⊢;omega
  ·split
   ·have:=iD (l::L) R;simp only[List.length_cons]at this ⊢;omega
   ·have:=iD L R;simp only[List.length_cons]at this ⊢;omega
termination_by L R=>L.length+R.length
theorem lN:∀ {L R:List α} {z:α},z∈mrg key L R→z∈L∨z∈R
 | [],R,z,h=>.inr (by rwa [cY]at h)
 |l::L,[],z,h=>.inl (by rwa [cR]at h)
 |l::L,r::R,z,h=>by
  rw[bL]at h
  split at h
  ·rcases List.mem_cons.1 h with rfl|h
   ·exact .inr (List.mem_cons_self ..)
   ·rcases lN h with h|h
    ·exact .inl h
    ·exact .inr (List.mem_cons_of_mem _ h)
  ·rcases List.mem_cons.1 h with rfl|h
   ·exact .inl (List.mem_cons_self ..)
   ·rcases lN h with h|h
    ·exact .inl (List.mem_cons_of_mem _ h)
    ·exact .inr h
termination_by L R=>L.length+R.length
theorem lO {x:α} {l:List α} (h:∀z∈l,key x<key z):ded key both x l=x::mgd key both l:=by
 cases l with
 |nil=>rfl
 |cons y r=>
  have:=h y (List.mem_cons_self ..);rw[ded,if_neg (by omega)]
  rfl
theorem iZ {x:α} {l:List α} (h:∀z∈l,key x<key z):iS key both ok x l=fH key both ok l:=by
 cases l with
 |nil=>rfl
 |cons y r=>
  have:=h y (List.mem_cons_self ..);rw[iS,if_neg (by omega)]
  rfl
def Pw (l:List α):Prop:=l.Pairwise fun a b=>key a<key b
theorem Pw.srt {l:List α} (h:Pw key l):Srt key l:=h.imp (fun h=>Int.le_of_lt h)
theorem rI {L R:List α} (hL:Pw key L) (hR:Pw key R):aK key (L++R)=mrg key L R:=by
 rw[←jP,lD key hL.srt,lD key hR.srt]
theorem aDf {l r:α} {L R:List α} (hL:Pw key (l::L)) (hR:Pw key (r::R)) (he:key l=key r):mrg key (l::L) (r::R)=l::r::mrg key L R∧(∀z∈mrg key L R,key l<key z):=by
 obtain⟨h1,h2⟩:=List.pairwise_cons.1 hL;obtain⟨h3,h4⟩:=List.pairwise_cons.1 hR;refine⟨?_,fun z hz=>?_⟩
 ·rw[bL,if_neg (by omega)]
  congr 1
  cases L with
  |nil=>rw[cY,cY]
  |cons x L=>
   have:=h1 x (List.mem_cons_self ..);rw[bL,if_pos (by omega)]
 ·rcases lN key hz with hz|hz
  ·exact h1 z hz
  ·have:=h3 z hz;omega
theorem jV (hb:∀x y,key (both x y)=key x):∀ {L R:List α},Pw key L→Pw key R→mgd key both (mrg key L R)=mr2 key both L R∧fH key both ok (mrg key L R)=gI key ok L R
 | [],R,_,hR=>by
  rw[cY,sV,aBY]
  induction R with
  |nil=>exact⟨rfl,rfl⟩
  |cons r R ih=>
   obtain⟨h3,h4⟩:=List.pairwise_cons.1 hR;obtain⟨i1,i2⟩:=ih h4;exact⟨by rw[mgd,lO key both h3,i1],by rw[fH,iZ key both ok h3,i2]⟩
 |l::L,[],hL,_=>by
  rw[cR,oJ,u5];obtain⟨h1,h2⟩:=List.pairwise_cons.1 hL;have ih:=jV hb (L:=L) (R:=[]) h2 List.Pairwise.nil;rw[cR,oJ,u5]at ih;exact⟨by rw[mgd,lO key both h1,ih.1],by rw[fH,iZ key both ok h1,ih.2]⟩
 |l::L,r::R,hL,hR=>by
  obtain⟨h1,h2⟩:=List.pairwise_cons.1 hL;obtain⟨h3,h4⟩:=List.pairwise_cons.1 hR;rw[iY,rH];by_cases c1:key l<key r
  ·have hfar:∀z∈mrg key L (r::R),key l<key z:=fun z hz=>by
    rcases lN key hz with hz|hz
    ·exact h1 z hz
    ·rcases List.mem_cons.1 hz with rfl|hz
     ·exact c1
     ·have:=h3 z hz;omega
   have ih:=jV hb (L:=L) (R:=r::R) h2 hR;rw[bL,if_neg (by omega),if_pos c1,if_pos c1]
   exact⟨by rw[mgd,lO key both hfar,ih.1],by rw[fH,iZ key both ok hfar,ih.2]⟩
  ·rw[if_neg c1,if_neg c1]
   by_cases c2:key r<key l
   ·have hfar:∀z∈mrg key (l::L) R,key r<key z:=fun z hz=>by
     rcases lN key hz with hz|hz
     ·rcases List.mem_cons.1 hz with rfl|hz
      ·exact c2
      ·have:=h1 z hz;omega
     ·exact h3 z hz
    have ih:=jV hb (L:=l::L) (R:=R) hL h4;rw[bL,if_pos c2,if_pos c2,if_pos c2];exact⟨by rw[mgd,lO key both hfar,ih.1],by rw[fH,iZ key both ok hfar,ih.2]⟩
   ·rw[if_neg c2,if_neg c2]
    obtain⟨e1,e2⟩:=aDf key hL hR (by omega)
    have ih:=jV hb (L:=L) (R:=R) h2 h4;rw[e1];have e3:∀z∈mrg key L R,key (both l r)<key z:=fun z hz=>by rw[hb];exact e2 z hz
    exact⟨by rw[mgd,ded,if_pos (by omega),lO key both e3,ih.1],by rw[fH,iS,if_pos (by omega),iZ key both ok e3,ih.2]⟩
termination_by L R=>L.length+R.length
theorem sW (h1:∀x,both x x=x) (h2:∀x,ok x x=true):∀L:List α,mr2 key both L L=L∧gI key ok L L=true
 | []=>⟨by simp[mr2],by simp[gI]⟩
 |l::L=>by
  obtain⟨i1,i2⟩:=sW h1 h2 L;rw[iY,rH,if_neg (by omega),if_neg (by omega),if_neg (by omega),if_neg (by omega),h1,h2,i1,i2]
  exact⟨rfl,rfl⟩
end
theorem aAX (x:Crest):bA x x=x:=by unfold bA;simp
theorem aCj (x:Junc):okJ x x=true:=by simp[okJ]
theorem aCk (x:Piece) (l:Int):sfr x x l=some { x with len:=l }:=by
 unfold sfr
 split
 ·simp
 ·rw[if_pos rfl];simp
end Go.Proofs.YtjlkeoppppfeiaaGreat
namespace Go.Proofs.YtjlkeoppppfeiaaGreat
open Go.RowKit Go.Shelf Go.Sort Go.Proofs
theorem aBZ (xs ys:List Piece) (hx:∀q∈xs,pOk q=true) (hy:∀q∈ys,pOk q=true):∀(k:Nat) {L:List Piece},rfM xs ys k=some L→∀z∈L,pOk z=true
 |0,L,h,z,hz=>by cases h;cases hz
 |k+1,L,h,z,hz=>by
  rw[rfM]at h;cases hk:rfM xs ys k with
  |none=>rw[hk]at h;cases h
  |some L'=>
   rw[hk]at h;have ih:=aBZ xs ys hx hy k hk;simp only[Option.bind_some]at h
   split at h
   ·rename_i x y h1 h2
    cases hs:sfr x y 1 with
    |none=>rw[hs]at h;cases h
    |some z'=>
     rw[hs]at h;cases h
     rcases List.mem_append.1 hz with hz|hz
     ·exact ih z hz
     ·rw[List.mem_singleton]at hz
      subst hz;exact aCF (hx _ (List.mem_of_getElem? h1)) (hy _ (List.mem_of_getElem? h2)) (by decide) (by decide) hs
   ·cases h
    exact ih z hz
theorem aEJ {x y z:Piece} {l:Int} (h:sfr x y l=some z):z.len=l:=by
 unfold sfr at h
 split at h
 ·cases h;rfl
 ·split at h
  ·cases h;rfl
  ·split at h
   ·cases h;rfl
   ·cases h
theorem sX (xs ys:List Piece):∀(k:Nat) {L:List Piece},rfM xs ys k=some L→∀z∈L,z.len=1
 |0,L,h,z,hz=>by cases h;cases hz
 |k+1,L,h,z,hz=>by
  rw[rfM]at h;cases hk:rfM xs ys k with
  |none=>rw[hk]at h;cases h
  |some L'=>
   rw[hk]at h;have ih:=sX xs ys k hk;simp only[Option.bind_some]at h
   split at h
   ·rename_i x y _ _
    cases hs:sfr x y 1 with
    |none=>rw[hs]at h;cases h
    |some z'=>
     rw[hs]at h;cases h
     rcases List.mem_append.1 hz with hz|hz
     ·exact ih z hz
     ·rw[List.mem_singleton]at hz
      subst hz;exact aEJ hs
   ·cases h
    exact ih z hz
end Go.Proofs.YtjlkeoppppfeiaaGreat
namespace Go.Proofs.YtjlkeoppppfeiaaGreat
open Go.RowKit Go.Shelf Go.Sort Go.Proofs
def eI (R R2:Road):Road×Int:=
 match rfM (units R.ps) (units R2.ps) (sumL R.ps).toNat with
 |none=>(⟨[],[],[]⟩,5)
 |some L=>
  if gI (fun x:Junc=>x.pos) okJ R.js R2.js=true then
   (if eW ⟨normP L,mr2 (fun x:Crest=>x.pos) bA R.cs R2.cs,mr2 (fun x:Junc=>x.pos) aX R.js R2.js⟩=true then (⟨normP L,mr2 (fun x:Crest=>x.pos) bA R.cs R2.cs,mr2 (fun x:Junc=>x.pos) aX R.js R2.js⟩,0) else (⟨[],[],[]⟩,4))
  else (⟨[],[],[]⟩,5)
theorem mP {R R2:Road} (h:rfM (units R.ps) (units R2.ps) (sumL R.ps).toNat=none):eI R R2=(⟨[],[],[]⟩,5):=by
 simp only[eI,h]
theorem jW {R R2:Road} {L:List Piece} (h:rfM (units R.ps) (units R2.ps) (sumL R.ps).toNat=some L):eI R R2 =
  if gI (fun x:Junc=>x.pos) okJ R.js R2.js=true then
   (if eW ⟨normP L,mr2 (fun x:Crest=>x.pos) bA R.cs R2.cs,mr2 (fun x:Junc=>x.pos) aX R.js R2.js⟩=true then (⟨normP L,mr2 (fun x:Crest=>x.pos) bA R.cs R2.cs,mr2 (fun x:Junc=>x.pos) aX R.js R2.js⟩,0) else (⟨[],[],[]⟩,4))
  else (⟨[],[],[]⟩,5):=by
 simp only[eI,h]
theorem zE {xs:List Piece} (h:∀q∈xs,q.len=1):∀k,rfM xs xs k=some (xs.take k)
 |0=>by rw[rfM,List.take_zero]
 |k+1=>by
  rw[rfM,zE h k];simp only[Option.bind_some];cases h1:xs[k]? with
  |none=>rw[List.take_of_length_le (by have:=List.getElem?_eq_none_iff.1 h1;omega),List.take_of_length_le (by have:=List.getElem?_eq_none_iff.1 h1;omega)]
  |some x=>
   have hx:=h x (List.mem_of_getElem? h1);have e:({ x with len:=1 }:Piece)=x:=by cases x;simp only at hx;subst hx;rfl
   simp only[aCk,Option.map_some,e];rw[List.take_add_one,h1]
   rfl
theorem pA {ps:List Piece}:∀q∈units ps,q.len=1:=by
 intro q hq;obtain⟨p,-,rfl⟩:=mI hq
 rfl
theorem aCl {R:Road} (h:OK R):eW R=true:=by
 simp only[eW,Bool.and_eq_true,decide_eq_true_eq];exact⟨h.p2,h.c1,h.j1,h.n1⟩
theorem aB0 {R:Road} (hv:OK R):eI R R=(normR R,0):=by
 have h1:∀q∈R.ps,1≤q.len:=fun q hq=>(aP (hv.pk q hq)).1
 have hl:=dE (ps:=R.ps) (fun q hq=>by have:=h1 q hq;omega)
 have e:=zE (pA (ps:=R.ps)) (sumL R.ps).toNat;rw[List.take_of_length_le (by omega)]at e
 obtain⟨c1,-⟩:=sW (fun x:Crest=>x.pos) bA okC aAX (fun _=>rfl) R.cs
 obtain⟨j1,j2⟩:=sW (fun x:Junc=>x.pos) aX okJ (fun _=>rfl) aCj R.js
 rw[jW e,if_pos j2,c1,j1,kI h1];have hf:eW ⟨normP R.ps,R.cs,R.js⟩=true:=aCl (oU hv);rw[if_pos hf]
 rfl
end Go.Proofs.YtjlkeoppppfeiaaGreat
namespace Go.Proofs.YtjlkeoppppfeiaaGreat
open Go.RowKit Go.Shelf Go.Sort Go.Proofs
theorem sY (xs ys:List Piece):∀(k:Nat) {L:List Piece},k≤xs.length→k≤ys.length→rfM xs ys k=some L→L.length=k∧∀i,i<k→∃x y z,xs[i]?=some x∧ys[i]?=some y∧L[i]?=some z∧sfr x y 1=some z
 |0,L,_,_,h=>by cases h;exact⟨rfl,fun i hi=>by omega⟩
 |k+1,L,hx,hy,h=>by
  have h1:xs[k]?=some xs[k]:=List.getElem?_eq_getElem (by omega)
  have h2:ys[k]?=some ys[k]:=List.getElem?_eq_getElem (by omega)
  rw[qB xs ys k h1 h2]at h;cases hk:rfM xs ys k with
  |none=>rw[hk]at h;cases h
  |some L'=>
   rw[hk]at h;obtain⟨i1,i2⟩:=sY xs ys k (by omega) (by omega) hk
   simp only[Option.bind_some]at h;cases hs:sfr xs[k] ys[k] 1 with
   |none=>rw[hs]at h;cases h
   |some z=>
    rw[hs]at h;cases h
    refine⟨by simp[i1],fun i hi=>?_⟩
    by_cases hik:i<k
    ·obtain⟨x,y,z',a1,a2,a3,a4⟩:=i2 i hik
     exact⟨x,y,z',a1,a2,by rw[List.getElem?_append_left (by omega)];exact a3,a4⟩
    ·obtain rfl:i=k:=by omega
     exact⟨_,_,z,h1,h2,by rw[List.getElem?_append_right (by omega),i1];simp,hs⟩
theorem pB:∀ {L:List Piece},(∀z∈L,z.len=1)→units L=L
 | [],_=>rfl
 |p::L,h=>by
  have hp:=h p (List.mem_cons_self ..);have e:one p=p:=by cases p;simp only at hp;subst hp;rfl
  rw[eE,pB (fun z hz=>h z (List.mem_cons_of_mem _ hz)),hp,e]
  rfl
section
variable {α:Type} (key:α→Int) (both:α→α→α) (ok:α→α→Bool)
theorem mr2_mem:∀ {L R:List α} {z:α},z∈mr2 key both L R→z∈L∨z∈R∨∃l∈L,∃r∈R,z=both l r
 | [],R,z,h=>.inr (.inl (by rwa [sV]at h))
 |l::L,[],z,h=>.inl (by rwa [oJ]at h)
 |l::L,r::R,z,h=>by
  rw[iY]at h
  split at h
  ·rcases List.mem_cons.1 h with rfl|h
   ·exact .inl (List.mem_cons_self ..)
   ·rcases mr2_mem h with h|h|⟨a,ha,b,hb,e⟩
    ·exact .inl (List.mem_cons_of_mem _ h)
    ·exact .inr (.inl h)
    ·exact .inr (.inr ⟨a,List.mem_cons_of_mem _ ha,b,hb,e⟩)
  ·split at h
   ·rcases List.mem_cons.1 h with rfl|h
    ·exact .inr (.inl (List.mem_cons_self ..))
    ·rcases mr2_mem h with h|h|⟨a,ha,b,hb,e⟩
     ·exact .inl h
     ·exact .inr (.inl (List.mem_cons_of_mem _ h))
     ·exact .inr (.inr ⟨a,ha,b,List.mem_cons_of_mem _ hb,e⟩)
   ·rcases List.mem_cons.1 h with rfl|h
    ·exact .inr (.inr ⟨l,List.mem_cons_self ..,r,List.mem_cons_self ..,rfl⟩)
    ·rcases mr2_mem h with h|h|⟨a,ha,b,hb,e⟩
     ·exact .inl (List.mem_cons_of_mem _ h)
     ·exact .inr (.inl (List.mem_cons_of_mem _ h))
     ·exact .inr (.inr ⟨a,List.mem_cons_of_mem _ ha,b,List.mem_cons_of_mem _ hb,e⟩)
termination_by L R=>L.length+R.length
theorem mQ (hb:∀x y,key (both x y)=key x) {L R:List α} {m:Int} (hL:∀z∈L,m<key z) (hR:∀z∈R,m<key z):∀z∈mr2 key both L R,m<key z:=by
 intro z hz;rcases mr2_mem key both hz with h|h|⟨l,hl,r,hr,rfl⟩
 ·exact hL z h
 ·exact hR z h
 ·rw[hb];exact hL l hl
theorem pD (hb:∀x y,key (both x y)=key x):∀ {L R:List α},Pw key L→Pw key R→Pw key (mr2 key both L R)
 | [],R,_,h=>by rwa [sV]
 |l::L,[],h,_=>by rwa [oJ]
 |l::L,r::R,hL,hR=>by
  obtain⟨h1,h2⟩:=List.pairwise_cons.1 hL;obtain⟨h3,h4⟩:=List.pairwise_cons.1 hR;rw[iY]
  split
  ·rename_i c1
   refine List.pairwise_cons.2 ⟨mQ key both hb h1 (fun z hz=>?_),pD hb h2 hR⟩
   rcases List.mem_cons.1 hz with rfl|hz
   ·exact c1
   ·have:=h3 z hz;omega
  ·split
   ·rename_i c2
    refine List.pairwise_cons.2 ⟨mQ key both hb (fun z hz=>?_) h3,pD hb hL h4⟩
    rcases List.mem_cons.1 hz with rfl|hz
    ·exact c2
    ·have:=h1 z hz;omega
   ·refine List.pairwise_cons.2 ⟨mQ key both hb (fun z hz=>?_) (fun z hz=>?_),pD hb h2 h4⟩
    ·rw[hb];exact h1 z hz
    ·have:=h3 z hz;rw[hb];omega
termination_by L R=>L.length+R.length
end
theorem rJ {R R2:Road} (h:(eI R R2).2=0):∃L,rfM (units R.ps) (units R2.ps) (sumL R.ps).toNat=some L∧eW (eI R R2).1=true ∧
  (eI R R2).1=⟨normP L,mr2 (fun x:Crest=>x.pos) bA R.cs R2.cs,mr2 (fun x:Junc=>x.pos) aX R.js R2.js⟩:=by
 cases hL:rfM (units R.ps) (units R2.ps) (sumL R.ps).toNat with
 |none=>rw[mP hL]at h;cases h
 |some L=>
  rw[jW hL]at h ⊢
  split
  ·split
   ·rename_i hf
    exact⟨L,rfl,hf,rfl⟩
   ·rename_i h1 h2
    rw[if_pos h1,if_neg h2]at h;cases h
  ·rename_i h1
   rw[if_neg h1]at h;cases h
theorem aCm {R R2:Road} (hv:OK R) (hv2:OK R2) (hs:sumL R.ps=sumL R2.ps) (h:(eI R R2).2=0):OK (eI R R2).1∧sumL (eI R R2).1.ps=sumL R.ps:=by
 obtain⟨L,hL,hf,e⟩:=rJ h;have h1:=sX _ _ _ hL;have hk:=aBZ _ _ (vH hv.pk) (vH hv2.pk) _ hL;obtain⟨hlen,-⟩:=sY _ _ _ (by rw[fE hv.pk];exact Nat.le_refl _) (by rw[fE hv2.pk,hs];exact Nat.le_refl _) hL
 have hl1:∀z∈L,1≤z.len:=fun z hz=>by have:=h1 z hz;omega
 have hsum:sumL (normP L)=sumL R.ps:=by
  rw[kZ hl1,←dE (fun z hz=>by have:=h1 z hz;omega),pB h1,hlen]
  have:=hv.len;omega
 have hln:=hv.len;rw[e]at hf ⊢;simp only[eW,Bool.and_eq_true,decide_eq_true_eq]at hf;refine⟨⟨yM hl1 (by omega),hf.1,hf.2.1,hf.2.2.1,wO hk,hf.2.2.2,?_,?_⟩,hsum⟩
 ·show ∀i,i<(mr2 (fun x:Crest=>x.pos) bA R.cs R2.cs).length→cAt (sumL (normP L)) (mr2 (fun x:Crest=>x.pos) bA R.cs R2.cs) i
  rw[hsum];obtain⟨a1,a2⟩:=(fG _ _).1 hv.ck;obtain⟨b1,b2⟩:=(fG _ _).1 hv2.ck;rw[←hs]at b1;refine(fG _ _).2 ⟨fun c hc=>?_,pD (fun x:Crest=>x.pos) bA (fun _ _=>rfl) a2 b2⟩
  rcases mr2_mem (fun x:Crest=>x.pos) bA hc with hc|hc|⟨x,hx,y,hy,rfl⟩
  ·exact a1 c hc
  ·exact b1 c hc
  ·obtain⟨p1,p2⟩:=a1 x hx
   obtain⟨q1,q2⟩:=b1 y hy;refine⟨p1,?_⟩
   unfold bA;simp only
   split
   ·exact q2
   ·exact p2
 ·show ∀i,i<(mr2 (fun x:Junc=>x.pos) aX R.js R2.js).length→jAt (sumL (normP L)) (mr2 (fun x:Junc=>x.pos) aX R.js R2.js) i
  rw[hsum];obtain⟨a1,a2⟩:=(gF _ _).1 hv.jk;obtain⟨b1,b2⟩:=(gF _ _).1 hv2.jk;rw[←hs]at b1;refine(gF _ _).2 ⟨fun c hc=>?_,pD (fun x:Junc=>x.pos) aX (fun _ _=>rfl) a2 b2⟩
  rcases mr2_mem (fun x:Junc=>x.pos) aX hc with hc|hc|⟨x,hx,y,hy,rfl⟩
  ·exact a1 c hc
  ·exact b1 c hc
  ·exact a1 _ hx
theorem xK {R R2:Road} (hv:OK R) (hv2:OK R2) (hs:sumL R.ps=sumL R2.ps) (h:sumL R.ps≤2000) (hc:R.cs.length+R2.cs.length≤1000) (hj:R.js.length+R2.js.length≤200):(eI R R2).2=0∨eI R R2=(⟨[],[],[]⟩,5):=by
 cases hL:rfM (units R.ps) (units R2.ps) (sumL R.ps).toNat with
 |none=>rw[mP hL];exact .inr rfl
 |some L=>
  have h1:=sX _ _ _ hL;have hl1:∀z∈L,1≤z.len:=fun z hz=>by have:=h1 z hz;omega
  obtain⟨hlen,-⟩:=sY _ _ _ (by rw[fE hv.pk];exact Nat.le_refl _) (by rw[fE hv2.pk,hs];exact Nat.le_refl _) hL
  have hn:=gE (ps:=L) (fun z hz=>by have:=h1 z hz;omega)
  have hln:=hv.len;have hsum:sumL (normP L)=L.length:=by rw[kZ hl1,←dE (fun z hz=>by have:=h1 z hz;omega),pB h1]
  have c1:=iD (fun x:Crest=>x.pos) bA R.cs R2.cs
  have c2:=iD (fun x:Junc=>x.pos) aX R.js R2.js
  have hf:eW ⟨normP L,mr2 (fun x:Crest=>x.pos) bA R.cs R2.cs,mr2 (fun x:Junc=>x.pos) aX R.js R2.js⟩=true:=by
   simp only[eW,Bool.and_eq_true,decide_eq_true_eq];exact⟨by omega,by omega,by omega,by omega⟩
  rw[jW hL,if_pos hf]
  split
  ·exact .inl rfl
  ·exact .inr rfl
end Go.Proofs.YtjlkeoppppfeiaaGreat
namespace Go.Proofs.YtjlkeoppppfeiaaGreat
open Go.RowKit Go.Shelf Go.Sort Go.Proofs
theorem aB1 {R R2:Road} (hv:OK R) (hv2:OK R2) (hs:sumL R.ps=sumL R2.ps) (h:(eI R R2).2=0) :
  (eI R R2).1.ps.length≤R.ps.length+R2.ps.length∧(eI R R2).1.cs.length≤R.cs.length+R2.cs.length∧(eI R R2).1.js.length≤R.js.length+R2.js.length:=by
 obtain⟨L,hL,-,e⟩:=rJ h;have hp1:∀q∈R.ps,1≤q.len:=fun q hq=>(aP (hv.pk q hq)).1
 have hp2:∀q∈R2.ps,1≤q.len:=fun q hq=>(aP (hv2.pk q hq)).1
 rw[zZ hp1 hp2 hs]at hL;obtain⟨L',hL',rfl⟩:=Option.map_eq_some_iff.1 hL;have hok:=yG hv.pk hv2.pk hs hL';have hl:L'.length≤R.ps.length+R2.ps.length:=by
  rw[tU _ hL'];exact qF _ _ _ _ _ _
 rw[e];refine⟨?_,iD _ _ _ _,iD _ _ _ _⟩
 show (normP (units L')).length≤_
 rw[kI (fun z hz=>(aP (hok z hz)).1)]
 exact Nat.le_trans (gE (fun z hz=>aP (hok z hz))) hl
theorem aCn (l:List Dif) (p q:Int):jD l p q≠[]:=by
 rcases cJ l with rfl|⟨ds,y,rfl⟩
 ·rw[lW];simp
 ·rw[fW];split<;>simp
theorem oK (tol:Int) (xs ys:List Piece):∀k,fJ tol xs ys k=[]→∀i,i<k→∀x y,xs[i]?=some x→ys[i]?=some y→iF tol x y=true
 |0,_,i,hi,_,_,_,_=>absurd hi (Nat.not_lt_zero _)
 |k+1,h,i,hi,x,y,hx,hy=>by
  rw[fJ]at h;cases hxk:xs[k]? with
  |none=>
   rw[hxk]at h;rcases Nat.lt_or_ge i k with hlt|hge
   ·exact oK tol xs ys k h i hlt x y hx hy
   ·obtain rfl:i=k:=by omega
    rw[hx]at hxk;cases hxk
  |some a=>
   cases hyk:ys[k]? with
   |none=>
    rw[hxk,hyk]at h;rcases Nat.lt_or_ge i k with hlt|hge
    ·exact oK tol xs ys k h i hlt x y hx hy
    ·obtain rfl:i=k:=by omega
     rw[hy]at hyk;cases hyk
   |some b=>
    rw[hxk,hyk]at h;simp only at h;cases hn:iF tol a b with
    |false=>
     rw[hn,if_neg (by decide)]at h
     exact absurd h (aCn _ _ _)
    |true=>
     rw[hn,if_pos rfl]at h;rcases Nat.lt_or_ge i k with hlt|hge
     ·exact oK tol xs ys k h i hlt x y hx hy
     ·obtain rfl:i=k:=by omega
      rw[hx]at hxk;rw[hy]at hyk;cases hxk;cases hyk
      exact hn
theorem aCo {x y:Piece} (h:iF 0 x y=true) (hl:x.len=y.len):x=y:=by
 obtain⟨a,b,c,d,e⟩:=x;obtain⟨a',b',c',d',e'⟩:=y;unfold iF at h;simp only[Bool.and_eq_true,decide_eq_true_eq]at h;obtain⟨h1,h2,h3,h4,h5⟩:=h;simp only at hl;obtain rfl:=hl;obtain rfl:=h1;obtain rfl:=h4;obtain rfl:=h5;obtain rfl:c=c':=by omega
 rfl
theorem xL {R R2:Road} (hv:OK R) (hv2:OK R2) (hs:sumL R.ps=sumL R2.ps) (h:fJ 0 (units R.ps) (units R2.ps) (sumL R.ps).toNat=[]):units R.ps=units R2.ps:=by
 have l1:=fE hv.pk;have l2:=fE hv2.pk;refine List.ext_getElem (by rw[l1,l2,hs]) fun i h1 h2=>?_
 have hn:=oK 0 _ _ _ h i (by omega) _ _ (List.getElem?_eq_getElem h1) (List.getElem?_eq_getElem h2)
 exact aCo hn (by rw[pA _ (List.getElem_mem h1),pA _ (List.getElem_mem h2)])
theorem aAY {R R2:Road} (hv:OK R) (hu:units R.ps=units R2.ps) (hc:R.cs=R2.cs) (hj:R.js=R2.js):eI R R2=(normR R,0):=by
 rw[←aB0 hv];unfold eI;rw[←hu,←hc,←hj]
end Go.Proofs.YtjlkeoppppfeiaaGreat
namespace Go.Proofs.YtjlkeoppppfeiaaGreat
open Go.RowKit Go.Shelf Go.Sort Go.Proofs
theorem RD.zero (w:World):RD w w.heap.size none 0 none 0 none 0 ⟨[],[],[]⟩:=
 RD.mk ((OW.nil_ (f:=pC) (sz:=5) (e:=112) (base:=0)).sl iV) ((OW.nil_ (f:=cC) (sz:=2) (e:=52) (base:=0)).sl aZ) ((OW.nil_ (f:=jC) (sz:=3) (e:=54) (base:=0)).sl aV)
theorem sres_of {R R2:Road} {w w':World} {e:Ending}
  (h1:rfM (units R.ps) (units R2.ps) (sumL R.ps).toNat=none→e = .returned (.tuple #[.agg #[.slice none 0 0,.slice none 0 0,.slice none 0 0],.int .i64 5]))
  (h2:∀L,rfM (units R.ps) (units R2.ps) (sumL R.ps).toNat=some L→gI (fun x:Junc=>x.pos) okJ R.js R2.js=false→e = .returned (.tuple #[.agg #[.slice none 0 0,.slice none 0 0,.slice none 0 0],.int .i64 5]))
  (h3:∀L,rfM (units R.ps) (units R2.ps) (sumL R.ps).toNat=some L→gI (fun x:Junc=>x.pos) okJ R.js R2.js=true→∃A1 n1 c1 A2 n2 c2 A3 n3 c3,e = .returned (cQ A1 n1 c1 A2 n2 c2 A3 n3 c3 ⟨normP L,mr2 (fun x:Crest=>x.pos) bA R.cs R2.cs,mr2 (fun x:Junc=>x.pos) aX R.js R2.js⟩) ∧
   (OW pC 5 112 w.heap.size w' A1 n1 c1 (normP L)∧OW cC 2 52 w.heap.size w' A2 n2 c2 (mr2 (fun x:Crest=>x.pos) bA R.cs R2.cs)∧OW jC 3 54 w.heap.size w' A3 n3 c3 (mr2 (fun x:Junc=>x.pos) aX R.js R2.js))) :
  ∃A1 n1 c1 A2 n2 c2 A3 n3 c3,e = .returned (.tuple #[.agg #[.slice A1 n1 c1,.slice A2 n2 c2,.slice A3 n3 c3],.int .i64 (eI R R2).2])∧RD w' w'.heap.size A1 n1 A2 n2 A3 n3 (eI R R2).1:=by
 cases h:rfM (units R.ps) (units R2.ps) (sumL R.ps).toNat with
 |none=>
  rw[mP h];exact⟨none,0,0,none,0,0,none,0,0,h1 h,RD.zero w'⟩
 |some L=>
  rw[jW h];cases hg:gI (fun x:Junc=>x.pos) okJ R.js R2.js with
  |false=>
   rw[if_neg (by decide)]
   exact⟨none,0,0,none,0,0,none,0,0,h2 L h hg,RD.zero w'⟩
  |true=>
   rw[if_pos rfl];obtain⟨A1,n1,c1,A2,n2,c2,A3,n3,c3,he,o1,o2,o3⟩:=h3 L h hg;rw[he,cQ]
   split
   ·exact⟨A1,n1,c1,A2,n2,c2,A3,n3,c3,rfl,RD.mk (o1.sl iV) (o2.sl aZ) (o3.sl aV)⟩
   ·exact⟨none,0,0,none,0,0,none,0,0,rfl,RD.zero w'⟩
theorem aAZ (pa:Option Addr) (pn pc:Nat) (ca:Option Addr) (cn cc:Nat) (ja:Option Addr) (jn jc:Nat) (R:Road) (pa2:Option Addr) (pn2 pc2:Nat) (ca2:Option Addr) (cn2 cc2:Nat) (ja2:Option Addr) (jn2 jc2:Nat) (R2:Road) (w:World)
  (h:RD w w.heap.size pa pn ca cn ja jn R) (h2:RD w w.heap.size pa2 pn2 ca2 cn2 ja2 jn2 R2) (hv:OK R) (hv2:OK R2) (hs:sumL R.ps=sumL R2.ps) (hsm:R.ps.length+R2.ps.length≤2000) :
  Calls Tryz.prog 10 #[.agg #[.slice pa pn pc,.slice ca cn cc,.slice ja jn jc],.agg #[.slice pa2 pn2 pc2,.slice ca2 cn2 cc2,.slice ja2 jn2 jc2]] w fun e w'=>(∃A1 n1 c1 A2 n2 c2 A3 n3 c3,e = .returned (.tuple #[.agg #[.slice A1 n1 c1,.slice A2 n2 c2,.slice A3 n3 c3],.int .i64 (eI R R2).2])∧RD w' w'.heap.size A1 n1 A2 n2 A3 n3 (eI R R2).1)∧Below w.heap.size w w':=by
 have hp1:∀q∈R.ps,1≤q.len:=fun q hq=>(aP (hv.pk q hq)).1
 have hp2:∀q∈R2.ps,1≤q.len:=fun q hq=>(aP (hv2.pk q hq)).1
 have hrf:=zZ hp1 hp2 hs;have c1:Pw (fun x:Crest=>x.pos) R.cs:=((fG _ _).1 hv.ck).2
 have c2:Pw (fun x:Crest=>x.pos) R2.cs:=((fG _ _).1 hv2.ck).2
 have j1:Pw (fun x:Junc=>x.pos) R.js:=((gF _ _).1 hv.jk).2
 have j2:Pw (fun x:Junc=>x.pos) R2.js:=((gF _ _).1 hv2.jk).2
 have eC:=(jV (fun x:Crest=>x.pos) bA okC (fun _ _=>rfl) c1 c2).1
 obtain⟨eJ,eG⟩:=jV (fun x:Junc=>x.pos) aX okJ (fun _ _=>rfl) j1 j2
 rw[←rI _ c1 c2]at eC;rw[←rI _ j1 j2]at eJ eG;have hok:∀L,sfM (strL R.ps R2.ps)=some L→normP (units L)=normP L:=fun L hL=>kI fun z hz=>(aP (yG hv.pk hv2.pk hs hL z hz)).1
 refine(aCE pa pn pc ca cn cc ja jn jc R pa2 pn2 pc2 ca2 cn2 cc2 ja2 jn2 jc2 R2 w h h2 hv hv2 hs hsm).mono ?_
 rintro e w' ⟨⟨h1,h2,h3⟩,hb⟩;refine⟨sres_of (w:=w) (fun hn=>?_) (fun L hL hg=>?_) (fun L hL hg=>?_),hb⟩
 ·rw[hrf]at hn
  exact h1 (by simpa using hn)
 ·rw[hrf]at hL
  obtain⟨L',hL',rfl⟩:=Option.map_eq_some_iff.1 hL;exact h2 L' hL' (by rw[eG];exact hg)
 ·rw[hrf]at hL
  obtain⟨L',hL',rfl⟩:=Option.map_eq_some_iff.1 hL;have:=h3 L' hL' (by rw[eG];exact hg)
  rw[eC,eJ,←hok L' hL']at this;exact this
end Go.Proofs.YtjlkeoppppfeiaaGreat
