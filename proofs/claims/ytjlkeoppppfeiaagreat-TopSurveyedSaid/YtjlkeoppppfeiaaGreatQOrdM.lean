/- Lemmas. -/
import Derived.LoopNIn
import Derived.Laws.EntriesVeiled
import Derived.LoopIn
import Derived.TacticsInMore
import Derived.Test.YtjlkeoppppfeiaaGreatQIter
import Derived.Test.YtjlkeoppppfeiaaGreatQCorn
import Derived.Test.YtjlkeoppppfeiaaGreatQAlike
import Derived.RangeFuncNested
import Derived.RangeFuncBound
import Derived.RangeFuncCalls
import Derived.RangeFuncLeaves
import Derived.Test.YtjlkeoppppfeiaaGreatQAppS
import Derived.Test.YtjlkeoppppfeiaaGreatQValid
import Derived.Test.YtjlkeoppppfeiaaGreatQBase
import Derived.Test.YtjlkeoppppfeiaaGreatQReg7
import Derived.Test.YtjlkeoppppfeiaaGreatQReg
import Derived.Test.YtjlkeoppppfeiaaGreatQLeaf
namespace Go.Proofs.YtjlkeoppppfeiaaGreat
open Go.RowKit Go.Shelf Go.Proofs
def KM (n0 s0:Nat) (W W':World):Prop:=Below n0 W W'∧∀(b:Nat) (o:Obj),s0≤b→W.heap[b]?=some o→o.isCells=true→W'.heap[b]?=some o
theorem KM.refl (n0 s0:Nat) (W:World):KM n0 s0 W W:=⟨Below.refl _ _,fun _ _ _ h _=>h⟩
theorem KM.t {n0 s0:Nat} {A B C:World} (h:KM n0 s0 A B) (k:KM n0 s0 B C):KM n0 s0 A C:=⟨h.1.trans k.1,fun b o h0 h1 h2=>k.2 b o h0 (h.2 b o h0 h1 h2) h2⟩
theorem KM.b {n0 s0:Nat} {w:World} (hn:n0≤w.heap.size) (W:World) (l:Nat) (o o':Obj) (hl:w.heap.size≤l) (h:W.heap[l]?=some o) (h1:o.isCells=false) (h2:o.isWalk=false):KM n0 s0 W (W.putObj l o'):=
 ⟨belowK_b hn W l o o' hl h h1 h2,fun b u _ hb hc=>(World.putObj_heap_other (fun e=>by subst e;rw[h]at hb;cases hb;rw[h1]at hc;cases hc)).trans hb⟩
theorem KM.of_below {n0 s0:Nat} {W W':World} (h:Below W.heap.size W W') (hn:n0≤W.heap.size):KM n0 s0 W W':=
 ⟨h.mono hn,fun b _ _ hb _=>(h.block b (Array.getElem?_eq_some_iff.1 hb).1).trans hb⟩
theorem KM.setCell {n0 s0:Nat} {W W':World} (h:KM n0 s0 W W') {p:Addr} (h1:n0≤p.block) (h2:p.block<s0∨W.heap.size≤p.block) (u:Value):KM n0 s0 W (W'.setCell p u):=
 ⟨h.1.setCell h1 u,fun b o h0 hb hc=>(Below.heap_setCell _ _ _ b (fun e=>by have:=(Array.getElem?_eq_some_iff.1 hb).1;omega)).trans (h.2 b o h0 hb hc)⟩
theorem KM.bk {n0 s0:Nat} {W W':World} (h:KM n0 s0 W W') {b:Nat} {t:TypeId} {cs:Array Value} (hb:BK W b t cs) (h0:s0≤b):BK W' b t cs:=h.2 b _ h0 hb rfl
end Go.Proofs.YtjlkeoppppfeiaaGreat
namespace Go.Proofs.YtjlkeoppppfeiaaGreat
open Go.RowKit Go.Proofs
theorem xW:∀(ps:List Piece) (b:Int),(∀p∈ps,0≤p.len)→(its b ps).Pairwise fun x y=>x.1+x.2.len≤y.1
 | [],_,_=>by simp[its]
 |p::ps,b,h=>by
  simp only[its,List.pairwise_cons];exact⟨fun e he=>(oH ps (b+p.len) e (fun q hq=>h q (List.mem_cons_of_mem _ hq)) he).1,xW ps (b+p.len) (fun q hq=>h q (List.mem_cons_of_mem _ hq))⟩
theorem aEP {R:Road} (hv:OK R):∀p∈R.ps,0≤p.len:=fun p hp=>by have:=aP (hv.pk p hp);omega
theorem aBe {R:Road} (hv:OK R):(bds (its 0 R.ps)).Pairwise fun x y=>x.1+x.2.len≤y.1:=(xW R.ps 0 (aEP hv)).filter _
theorem aDs {R:Road} (hv:OK R) (gap:Int):(∀g∈grp gap (bds (its 0 R.ps)),g.Pairwise fun x y=>x.1+x.2.len≤y.1) ∧
  (grp gap (bds (its 0 R.ps))).Pairwise fun g g'=>∀x∈g,∀y∈g',x.1+x.2.len≤y.1:=by
 have:=aBe hv;rw[←gH gap (bds (its 0 R.ps)),List.pairwise_flatten]at this;exact this
theorem addB_turn (gap:Int) (gs:List (List Bd)) (x:Bd) (h:∀g∈gs,∀e∈g,∀d∈g,e.2.turn=d.2.turn):∀g∈addB gap gs x,∀e∈g,∀d∈g,e.2.turn=d.2.turn:=by
 intro g hg;unfold addB at hg;have new:∀e∈[x],∀d∈[x],e.2.turn=d.2.turn:=by intro e he d hd;simp at he hd;rw[he,hd]
 split at hg
 ·rename_i y hy
  split at hg
  ·rename_i ht
   rcases List.mem_append.1 hg with h1|h1
   ·exact h g (List.dropLast_subset _ h1)
   ·simp at h1
    cases hl:gs.getLast? with
    |none=>rw[hl]at hy;cases hy
    |some G=>
     rw[hl]at hy h1;simp only[Option.bind_some]at hy;simp only[Option.getD_some]at h1;subst h1;have hG:G∈gs:=List.mem_of_getLast? hl;have hyG:y∈G:=List.mem_of_getLast? hy;simp only[tog,Bool.and_eq_true,decide_eq_true_eq]at ht;intro e he d hd;rcases List.mem_append.1 he with h1|h1<;>rcases List.mem_append.1 hd with h2|h2
     ·exact h G hG e h1 d h2
     ·simp at h2;rw[h2];exact(h G hG e h1 y hyG).trans ht.1
     ·simp at h1;rw[h1];exact ht.1.symm.trans (h G hG y hyG d h2)
     ·simp at h1 h2;rw[h1,h2]
  ·rcases List.mem_append.1 hg with h1|h1
   ·exact h g h1
   ·simp at h1;subst h1;exact new
 ·rcases List.mem_append.1 hg with h1|h1
  ·exact h g h1
  ·simp at h1;subst h1;exact new
theorem aBf (gap:Int) (l:List Bd):∀g∈grp gap l,∀e∈g,∀d∈g,e.2.turn=d.2.turn:=by
 have key:∀(l:List Bd) (gs:List (List Bd)),(∀g∈gs,∀e∈g,∀d∈g,e.2.turn=d.2.turn)→∀g∈l.foldl (addB gap) gs,∀e∈g,∀d∈g,e.2.turn=d.2.turn:=by
  intro l
  induction l with
  |nil=>intro gs h;exact h
  |cons x l ih=>intro gs h;exact ih _ (addB_turn gap gs x h)
 exact key l [] (by simp)
theorem aBg (b:Int) (g:List Bd):iR b g≤b:=by
 have h:=uN b b g;rw[show min b b=b by omega]at h
 omega
theorem rP {t:Int}:∀(g:List Bd),(∀e∈g,e.2.turn=t)→(∀e∈g,pOk e.2=true)→∃s,0≤s∧cT g=t*s
 | [],_,_=>⟨0,by omega,by simp[cT]⟩
 |e::g,h,hp=>by
  obtain⟨s,h0,h1⟩:=rP g (fun d hd=>h d (List.mem_cons_of_mem _ hd)) (fun d hd=>hp d (List.mem_cons_of_mem _ hd))
  have he:=h e (List.mem_cons_self ..);have hl:=aP (hp e (List.mem_cons_self ..));have ht:=fQ (hp e (List.mem_cons_self ..));have e1:cT (e::g)=trn e.2 e.2.len+cT g:=by simp[cT]
  by_cases h2:e.2.turn=0
  ·refine⟨s,h0,?_⟩
   rw[e1,h1,trn,if_pos h2];omega
  ·have hr:=ht.2.2 h2
   have hq:0≤rnd (1000*e.2.len) e.2.rad:=by
    unfold rnd;rw[if_neg (by omega)]
    exact Int.ediv_nonneg (by omega) (by omega)
   refine⟨rnd (1000*e.2.len) e.2.rad+s,by omega,?_⟩
   rw[e1,h1,trn,if_neg h2,he,Int.mul_add]
theorem xX {R:Road} {x:Int} {i:Nat} (h:At R.ps x i):∃e,e∈its 0 R.ps∧R.ps[i]?=some e.2∧e.1≤x∧x<e.1+e.2.len:=by
 obtain⟨h1,h2,h3⟩:=h;have h4:=sS 0 R.ps i h1;rw[dH R.ps i h1]at h3;exact⟨_,List.mem_of_getElem? h4,List.getElem?_eq_getElem h1,by show 0+_≤x;omega,by show x<0+sumL (R.ps.take i)+R.ps[i].len;omega⟩
structure Fine (R:Road) (least:Int) (c:Corner):Prop where
 lt:c.fr<c.til
 lo:0≤c.fr
 hi:c.til≤sumL R.ps
 ang:least≤c.ang
 big:c.ang≤800000000000
 inn:c.rad≤c.inn
 out:c.rad≤c.out
 side:c.turn=1∨c.turn = -1
 tur:upt R.ps c.til-upt R.ps c.fr=c.turn*c.ang
 first:∀i p,At R.ps c.fr i→R.ps[i]?=some p→p.turn=c.turn
 last:∀i p,At R.ps (c.til-1) i→R.ps[i]?=some p→p.turn=c.turn
 none_:∀x i p,c.fr≤x→x<c.til→At R.ps x i→R.ps[i]?=some p→p.turn≠-c.turn
theorem zH {R:Road} (hv:OK R) {d e:Int×Piece} (hd:d∈its 0 R.ps) (he:e∈its 0 R.ps) {x:Int} (h1:d.1≤x) (h2:x<d.1+d.2.len) (h3:e.1≤x) (h4:x<e.1+e.2.len):d=e:=by
 obtain⟨i,hi,rfl⟩:=List.getElem_of_mem hd;obtain⟨j,hj,rfl⟩:=List.getElem_of_mem he;have hpw:=List.pairwise_iff_getElem.1 (xW R.ps 0 (aEP hv));rcases Nat.lt_trichotomy i j with h|h|h
 ·have:=hpw i j hi hj h;omega
 ·subst h;rfl
 ·have:=hpw j i hj hi h;omega
theorem pL {R:Road} (hv:OK R) {gap least:Int} {c:Corner} (h:c∈eR gap least R):Fine R least c:=by
 obtain⟨h1,h2⟩:=List.mem_filter.1 h;obtain⟨g,hg,rfl⟩:=List.mem_map.1 h1;obtain⟨x,gt,gi,y,e0,e1⟩:=aD3 (sO _ _ g hg);have hx:x∈g:=by rw[e0];simp
 have hy:y∈g:=by rw[e1];simp
 have bx:=gX hv (eZ hg hx);have bY:=gX hv (eZ hg hy);have lx:=aP bx.2.1;have ly:=aP bY.2.1;have hsame:=aBf gap _ g hg;obtain⟨s,hs0,hs1⟩:=rP (t:=y.2.turn) g (fun e he=>hsame e he y hy) (fun e he=>(gX hv (eZ hg he)).2.1)
 have htok:=fQ bY.2.1;have hside:y.2.turn=1∨y.2.turn = -1:=by have:=htok.1;have:=htok.2.1;have:=bY.2.2;omega
 have hc:=xD e0 e1;have htn:=aBC hv hg;have hpwg:=(aDs hv gap).1 g hg;have hfirst:x.1≤y.1:=by
  rcases Classical.em (g=[x]) with h|h
  ·rw[h]at hy;simp at hy;subst hy;omega
  ·cases gt with
   |nil=>exact absurd e0 h
   |cons z gt=>
    have hyg:y∈z::gt:=by
     have:(x::z::gt).getLast?=some y:=by rw[←e0,e1];simp
     rw[List.getLast?_cons_cons]at this
     exact List.mem_of_getLast? this
    rw[e0]at hpwg;have:=(List.pairwise_cons.1 hpwg).1 y hyg;omega
 have hangb:=sM g (fun e he=>(gX hv (eZ hg he)).2.1)
 have hgl:=o0 gap _ hg;have hbl:=lF R;have hp2:=hv.p2;have hxi:x∈its 0 R.ps:=(List.mem_filter.1 (eZ hg hx)).1;have hyi:y∈its 0 R.ps:=(List.mem_filter.1 (eZ hg hy)).1;rw[hc]at htn h2 ⊢;simp only[decide_eq_true_eq]at h2;simp only at htn;have hmax:max (cT g) (-(cT g))=s:=by rw[hs1];rcases hside with h|h<;>rw[h]<;>omega
 refine⟨by show x.1<y.1+y.2.len;omega,bx.1.1,by show y.1+y.2.len≤_;omega,h2,by show max _ _≤_;omega,aCY _ _ hx,aBg _ _,hside,?_,?_,?_,?_⟩
 ·show upt R.ps (y.1+y.2.len)-upt R.ps x.1=y.2.turn*max (cT g) (-(cT g))
  rw[htn,hmax,hs1]
 ·intro i p hi hp
  obtain⟨e,he,hep,h3,h4⟩:=xX hi;have:e=x:=zH hv he hxi h3 h4 (Int.le_refl _) (by show x.1<_;omega)
  subst this;rw[hp]at hep;cases hep;exact hsame _ hx _ hy
 ·intro i p hi hp
  obtain⟨e,he,hep,h3,h4⟩:=xX hi;have:e=y:=zH hv he hyi h3 h4 (by show y.1≤y.1+y.2.len-1;omega) (by show y.1+y.2.len-1<_;omega)
  subst this;rw[hp]at hep;cases hep
  rfl
 ·intro q i p hq1 hq2 hi hp
  obtain⟨e,he,hep,h3,h4⟩:=xX hi;rw[hp]at hep;cases hep;show e.2.turn≠-y.2.turn
  by_cases ht:e.2.turn=0
  ·omega
  ·have heb:e∈bds (its 0 R.ps):=List.mem_filter.2 ⟨he,by simpa using ht⟩
   obtain⟨A,B,eAB⟩:=qZ hg;have hpw:=aBe hv;rw[eAB]at heb hpw;have hq1':x.1≤q:=hq1;have hq2':q<y.1+y.2.len:=hq2;rcases List.mem_append.1 heb with h|h
   ·have:=(List.pairwise_append.1 hpw).2.2 e h x (List.mem_append_left _ hx)
    omega
   ·rcases List.mem_append.1 h with h|h
    ·have:=hsame e h y hy;omega
    ·have:=(List.pairwise_append.1 (List.pairwise_append.1 hpw).2.1).2.2 y hy e h
     omega
theorem pM (gap least:Int) (R:Road):(eR gap least R).length≤R.ps.length:=by
 have h1:=List.length_filter_le (fun c:Corner=>decide (least≤c.ang)) ((grp gap (bds (its 0 R.ps))).map crn)
 have h2:=sQ gap (bds (its 0 R.ps));have h3:=lF R;rw[List.length_map]at h1;exact Nat.le_trans h1 (Nat.le_trans h2 h3)
end Go.Proofs.YtjlkeoppppfeiaaGreat
namespace Go.Proofs.YtjlkeoppppfeiaaGreat
open Go.RowKit Go.Shelf Go.Sort Go.Proofs
theorem lV {ps:List Piece} (h:∀q∈ps,0≤q.len) {x:Int} {i:Nat} {p:Piece} (h0:0≤x) (ha:At ps x i) (hp:ps[i]?=some p):(units ps)[x.toNat]?=some (one p):=by
 obtain⟨hi,h1,h2⟩:=ha;have hpe:ps[i]=p:=by rw[List.getElem?_eq_getElem hi]at hp;exact Option.some.inj hp
 have e:=(List.take_append_drop i ps).symm;rw[List.drop_eq_getElem_cons hi,hpe]at e;have h3:(units ps)[x.toNat]?=(units (ps.take i++p::ps.drop (i+1)))[x.toNat]?:=congrArg (fun l=>(units l)[x.toNat]?) e
 have h4:=dE (ps:=ps.take i) (fun q hq=>h q (List.mem_of_mem_take hq))
 have h5:=dH ps i hi;rw[hpe]at h5;rw[h3,cM,eE,List.getElem?_append_right (by omega),List.getElem?_append_left (by rw[List.length_replicate];omega),List.getElem?_replicate,if_pos (by omega)]
end Go.Proofs.YtjlkeoppppfeiaaGreat
namespace Go.Proofs.YtjlkeoppppfeiaaGreat
open Go.RowKit Go.Shelf Go.Sort Go.Proofs
theorem fE {ps:List Piece} (h:∀q∈ps,pOk q=true):(units ps).length=(sumL ps).toNat:=by
 have:=dE (ps:=ps) (fun q hq=>by have:=(aP (h q hq)).1;omega)
 omega
theorem vH {ps:List Piece} (h:∀q∈ps,pOk q=true):∀q∈units ps,pOk q=true:=by
 intro q hq;obtain⟨p,hp,rfl⟩:=mI hq;exact sH (h p hp) rfl (by simp[one])
theorem kN {F:Fence} {n:Nat} {P:Program} {c:Code} {Q:Exit→Act→World→Prop} {a:Act} {w:World} (h:∀a0,a0=a→c.wpIn F n P Q a0 w):c.wpIn F n P Q a w:=h a rfl
end Go.Proofs.YtjlkeoppppfeiaaGreat
namespace Go.Proofs.YtjlkeoppppfeiaaGreat
open Go.RowKit Go.Shelf Go.Sort Go.Proofs
structure Dif where
 fr:Int
 til:Int
def dC (d:Dif):List Value:=[.int .i64 d.fr,.int .i64 d.til]
theorem aBh (d:Dif):(dC d).length=2:=rfl
def iF (tol:Int) (x y:Piece):Bool:=decide (x.turn=y.turn)&&(decide (x.rad-y.rad≤tol)&&(decide (-(x.rad-y.rad)≤tol)&&(decide (x.wid=y.wid)&&decide (x.sur=y.sur))))
def jD (l:List Dif) (p q:Int):List Dif:=
 match l.getLast? with
 |some d=>if d.til=p then l.dropLast++[⟨d.fr,q⟩] else l++[⟨p,q⟩]
 |none=>l++[⟨p,q⟩]
theorem lW (p q:Int):jD [] p q=[⟨p,q⟩]:=rfl
theorem fW (l:List Dif) (d:Dif) (p q:Int):jD (l++[d]) p q=if d.til=p then l++[⟨d.fr,q⟩] else l++[d]++[⟨p,q⟩]:=by simp[jD]
theorem aBi (l:List Dif) (p q:Int):(jD l p q).length≤l.length+1:=by
 rcases cJ l with rfl|⟨ds,y,rfl⟩
 ·rw[lW];simp
 ·rw[fW];split<;>simp
theorem aAa (l:List Dif) (p q r:Int):jD (jD l p q) q r=jD l p r:=by
 rcases cJ l with rfl|⟨ds,y,rfl⟩
 ·rw[lW,lW]
  show jD ([]++[_]) _ _=_
  rw[fW,if_pos rfl];rfl
 ·rw[fW,fW]
  split
  ·rw[fW,if_pos rfl]
  ·rw[fW,if_pos rfl]
def fJ (tol:Int) (xs ys:List Piece):Nat→List Dif
 |0=>[]
 |k+1=>match xs[k]?,ys[k]? with
  |some x,some y=>if iF tol x y then fJ tol xs ys k else jD (fJ tol xs ys k) k (k+1)
  |_,_=>fJ tol xs ys k
theorem rQ (tol:Int) (xs ys:List Piece) (k:Nat) {x y:Piece} (hx:xs[k]?=some x) (hy:ys[k]?=some y) :
  fJ tol xs ys (k+1)=if iF tol x y then fJ tol xs ys k else jD (fJ tol xs ys k) k (k+1):=by
 rw[fJ,hx,hy]
theorem vJ (tol:Int) (xs ys:List Piece) {x y:Piece} (k:Nat):∀m:Nat,(∀i,i<m+1→xs[k+i]?=some x∧ys[k+i]?=some y) →
  fJ tol xs ys (k+(m+1))=if iF tol x y then fJ tol xs ys k else jD (fJ tol xs ys k) k ((k:Int)+(m+1:Nat))
 |0,h=>by
  obtain⟨h1,h2⟩:=h 0 (by omega)
  exact rQ tol xs ys k h1 h2
 |m+1,h=>by
  obtain⟨h1,h2⟩:=h (m+1) (by omega)
  have ih:=vJ tol xs ys k m (fun i hi=>h i (by omega))
  show fJ tol xs ys ((k+(m+1))+1)=_
  rw[rQ tol xs ys (k+(m+1)) h1 h2,ih]
  split
  ·rfl
  ·have e:((k+(m+1):Nat):Int)=(k:Int)+(m+1:Nat):=by omega
   rw[e,aAa]
   congr 1
end Go.Proofs.YtjlkeoppppfeiaaGreat
namespace Go.Proofs.YtjlkeoppppfeiaaGreat
open Go.RowKit Go.Shelf Go.Sort Go.Proofs
structure Str where
 fr:Int
 til:Int
 p:Piece
 q:Piece
def nxI (ps:List Piece) (i:Nat) (t:Int):Nat:=if sumL (ps.take (i+1))=t then i+1 else i
def strs (ps qs:List Piece):Nat→Nat→Nat→Int→List Str
 |0,_,_,_=>[]
 |f+1,i,j,fr=>match ps[i]?,qs[j]? with
  |some p,some q=>⟨fr,min (sumL (ps.take (i+1))) (sumL (qs.take (j+1))),p,q⟩::strs ps qs f (nxI ps i (min (sumL (ps.take (i+1))) (sumL (qs.take (j+1))))) (nxI qs j (min (sumL (ps.take (i+1))) (sumL (qs.take (j+1))))) (min (sumL (ps.take (i+1))) (sumL (qs.take (j+1))))
  |_,_=>[]
def strL (ps qs:List Piece):List Str:=strs ps qs (ps.length+qs.length) 0 0 0
structure Lie (ps:List Piece) (i:Nat) (fr:Int):Prop where
 le:i≤ps.length
 lo:sumL (ps.take i)≤fr
 hi:i<ps.length→fr<sumL (ps.take (i+1))
 nn:0≤fr
 up:fr≤sumL ps
theorem zJ {ps:List Piece} (h:∀q∈ps,1≤q.len):0≤sumL ps:=by
 rw[←dE (fun q hq=>by have:=h q hq;omega)];omega
theorem xY (ps:List Piece) (k:Nat):sumL ps=sumL (ps.take k)+sumL (ps.drop k):=by rw[←uB,List.take_append_drop]
theorem iG {ps:List Piece} (h:∀q∈ps,1≤q.len) (k:Nat):sumL (ps.take k)≤sumL ps:=by
 have h1:=xY ps k;have h2:=zJ (ps:=ps.drop k) (fun q hq=>h q (List.mem_of_mem_drop hq))
 omega
theorem Lie.start {ps:List Piece} (h:∀q∈ps,1≤q.len):Lie ps 0 0:=by
 refine⟨Nat.zero_le _,by simp[sumL],fun hi=>?_,Int.le_refl 0,zJ h⟩
 have h1:=dH ps 0 hi;have h2:=h _ (List.getElem_mem hi);simp[sumL]at h1 ⊢;omega
theorem Lie.next {ps:List Piece} (h:∀q∈ps,1≤q.len) {i:Nat} {fr t:Int} (hl:Lie ps i fr) (hi:i<ps.length) (h1:fr≤t) (h2:t≤sumL (ps.take (i+1))):Lie ps (nxI ps i t) t:=by
 have h5:=iG h (i+1);unfold nxI
 split
 ·rename_i he
  refine⟨hi,by omega,fun hi'=>?_,by have:=hl.nn;omega,by omega⟩
  have h3:=dH ps (i+1) hi';have h4:=h _ (List.getElem_mem hi');omega
 ·exact⟨hl.le,by have:=hl.lo;omega,fun _=>by omega,by have:=hl.nn;omega,by omega⟩
theorem Lie.end_ {ps:List Piece} {i:Nat} {fr:Int} (hl:Lie ps i fr) (hi:¬i<ps.length):fr=sumL ps:=by
 have h1:=hl.lo;rw[List.take_of_length_le (by omega)]at h1
 have:=hl.up;omega
theorem mV (ps:List Piece) (i:Nat) (t:Int):i≤nxI ps i t:=by unfold nxI;split<;>omega
theorem Lie.both {ps qs:List Piece} {i j:Nat} {fr:Int} (h1:Lie ps i fr) (h2:Lie qs j fr) (he:sumL ps=sumL qs) (hp:∀q∈ps,1≤q.len) (hi:i<ps.length):j<qs.length:=by
 rcases Nat.lt_or_ge j qs.length with h|h
 ·exact h
 ·exfalso
  have h3:=h2.lo;rw[List.take_of_length_le h,←he]at h3;have h4:=h1.hi hi;have h5:=iG hp (i+1);omega
def stp (tol:Int) (l:List Dif) (s:Str):List Dif:=if iF tol s.p s.q then l else jD l s.fr s.til
theorem rR (tol:Int) {ps qs:List Piece} (hp:∀q∈ps,1≤q.len) (hq:∀q∈qs,1≤q.len) (he:sumL ps=sumL qs):∀(f i j:Nat) (fr:Int),Lie ps i fr→Lie qs j fr→(ps.length-i)+(qs.length-j)≤f →
  (strs ps qs f i j fr).foldl (stp tol) (fJ tol (units ps) (units qs) fr.toNat)=fJ tol (units ps) (units qs) (sumL ps).toNat
 |0,i,j,fr,h1,_,hf=>by
  rw[strs,List.foldl_nil,h1.end_ (by omega)]
 |f+1,i,j,fr,h1,h2,hf=>by
  by_cases hi:i<ps.length
  ·have hj:=h1.both h2 he hp hi
   have hpi:ps[i]?=some ps[i]:=List.getElem?_eq_getElem hi
   have hqj:qs[j]?=some qs[j]:=List.getElem?_eq_getElem hj
   rw[strs,hpi,hqj];obtain⟨t,ht⟩ : ∃t,t=min (sumL (ps.take (i+1))) (sumL (qs.take (j+1))):=⟨_,rfl⟩
   simp only;rw[←ht,List.foldl_cons];have t1:=h1.hi hi;have t2:=h2.hi hj;have hn:=h1.nn;have hlo1:=h1.lo;have hlo2:=h2.lo;obtain⟨m,hm⟩ : ∃m:Nat,t=fr+(m+1:Nat):=⟨(t-fr-1).toNat,by omega⟩
   have hrun:=vJ tol (units ps) (units qs) (x:=one ps[i]) (y:=one qs[j]) fr.toNat m (fun k hk=>by
    have e:fr.toNat+k=(fr+k).toNat:=by omega
    rw[e];exact⟨lV (fun q hq=>by have:=hp q hq;omega) (by omega) ⟨hi,by omega,by omega⟩ hpi,lV (fun q hq'=>by have:=hq q hq';omega) (by omega) ⟨hj,by omega,by omega⟩ hqj⟩)
   have hstp:stp tol (fJ tol (units ps) (units qs) fr.toNat) ⟨fr,t,ps[i],qs[j]⟩=fJ tol (units ps) (units qs) t.toNat:=by
    have e1:t.toNat=fr.toNat+(m+1):=by omega
    have e2:((fr.toNat:Nat):Int)=fr:=by omega
    rw[e1,hrun,e2,←hm]
    rfl
   rw[hstp];refine rR tol hp hq he f _ _ t (h1.next hp hi (by omega) (by omega)) (h2.next hq hj (by omega) (by omega)) ?_
   have a1:=mV ps i t;have a2:=mV qs j t;have a3:nxI ps i t=i+1∨nxI qs j t=j+1:=by
    unfold nxI;rcases Int.le_total (sumL (ps.take (i+1))) (sumL (qs.take (j+1))) with h|h
    ·exact .inl (if_pos (by omega))
    ·exact .inr (if_pos (by omega))
   omega
  ·have hn:ps[i]?=none:=List.getElem?_eq_none (by omega)
   rw[strs,hn,h1.end_ hi]
   rfl
theorem fold_strL (tol:Int) {ps qs:List Piece} (hp:∀q∈ps,1≤q.len) (hq:∀q∈qs,1≤q.len) (he:sumL ps=sumL qs):(strL ps qs).foldl (stp tol) []=fJ tol (units ps) (units qs) (sumL ps).toNat:=
 rR tol hp hq he _ 0 0 0 (Lie.start hp) (Lie.start hq) (by omega)
end Go.Proofs.YtjlkeoppppfeiaaGreat
namespace Go.Proofs.YtjlkeoppppfeiaaGreat
open Go.RowKit Go.Shelf Go.Proofs
theorem kE (g g2:Nat) (w:World) :
  Calls Tryz.prog 40 #[.pointer (some ⟨g,0,none⟩),.pointer (some ⟨g2,0,none⟩)] w fun e w'=>e = .returned (.func (.func 120) #[] #[.pointer (some ⟨w.heap.size,0,none⟩),.pointer (some ⟨w.heap.size+1,0,none⟩)]) ∧
   w'=(w.alloc (.cells #[.pointer (some ⟨g,0,none⟩)] 119)).alloc (.cells #[.pointer (some ⟨g2,0,none⟩)] 119):=by
 go_enter Tryz.func40,Tryz.ntmps40
 go_wp2
 go_ret
 exact⟨rfl,rfl⟩
abbrev BS:={ x:Str // pOk x.p=true∧pOk x.q=true∧0≤x.fr∧x.fr≤x.til∧x.til≤500000000 }
def bsV (x:BS):Array Value:=#[.agg #[.int .i64 x.1.fr,.int .i64 x.1.til,.int .i64 x.1.p.len,.int .i64 x.1.p.turn,.int .i64 x.1.p.rad,.int .i64 x.1.p.wid,.int .i64 x.1.p.sur,.int .i64 x.1.q.len,.int .i64 x.1.q.turn,.int .i64 x.1.q.rad,.int .i64 x.1.q.wid,.int .i64 x.1.q.sur]]
def KB2 (n0 b1 b2:Nat) (W W':World):Prop:=Below n0 W W'∧W'.heap[b1]?=W.heap[b1]?∧W'.heap[b2]?=W.heap[b2]?
theorem KB2.refl (n0 b1 b2:Nat) (W:World):KB2 n0 b1 b2 W W:=⟨Below.refl _ _,rfl,rfl⟩
theorem KB2.t {n0 b1 b2:Nat} {A B C:World} (h:KB2 n0 b1 b2 A B) (k:KB2 n0 b1 b2 B C):KB2 n0 b1 b2 A C:=⟨h.1.trans k.1,k.2.1.trans h.2.1,k.2.2.trans h.2.2⟩
theorem KB2.of_below {n0 b1 b2 B:Nat} {W W':World} (h:Below B W W') (hn:n0≤B) (h1:b1<B) (h2:b2<B):KB2 n0 b1 b2 W W':=⟨h.mono hn,h.block _ h1,h.block _ h2⟩
theorem KB2.setCell {n0 b1 b2:Nat} {W W':World} (h:KB2 n0 b1 b2 W W') {p:Addr} (h1:n0≤p.block) (h2:p.block≠b1) (h3:p.block≠b2) (u:Value):KB2 n0 b1 b2 W (W'.setCell p u):=
 ⟨h.1.setCell h1 u,(Below.heap_setCell _ _ _ _ (Ne.symm h2)).trans h.2.1,(Below.heap_setCell _ _ _ _ (Ne.symm h3)).trans h.2.2⟩
theorem KB2.b {n0 b1 b2:Nat} {w:World} (hn:n0≤w.heap.size) (h1:b1<w.heap.size) (h2:b2<w.heap.size) (W:World) (l:Nat) (o o':Obj) (hl:w.heap.size≤l) (h:W.heap[l]?=some o) (hc:o.isCells=false) (hw:o.isWalk=false):KB2 n0 b1 b2 W (W.putObj l o'):=
 ⟨belowK_b hn W l o o' hl h hc hw,World.putObj_heap_other (by omega),World.putObj_heap_other (by omega)⟩
end Go.Proofs.YtjlkeoppppfeiaaGreat
namespace Go.Proofs.YtjlkeoppppfeiaaGreat
open Go.RowKit
section
variable {F:Fence} {n:Nat} {P:Program}
def aBj {α:Type} (F:Fence) (n:Nat) (P:Program) (gf:Nat) (lb:Array Value) (encs:α→Array Value) (X:Nat) (Kp:World→World→Prop) (S:List α→Prop) (N:Nat) (w:World):Prop:=
 ∀(l:Nat) (J:List α→World→Prop) (W:World),Below w.heap.size w W→(∀s A B,J s A→A.grownBy B (some X)→J s B) →
  (∀pre x W1,J pre W1→pre.length<N→YieldAt F (n-1) P l (encs x) W1 fun e W'=>e = .returned (.bool true)∧J (pre++[x]) W'∧Kp W1 W')→J [] W →
  CallsIn F n P gf (#[.func (.yield l) #[] #[]]++lb) W fun e W'=>(∃v,e = .returned v)∧∃xs,S xs∧J xs W'
theorem kO {α:Type} {g:Operand} {ps:Array Tmp} {assign body:Code} {Q:Exit→Act→World→Prop} {a:Act} {w:World} (X:Nat) (hX:X<w.heap.size)
  (hro:F.round=none) (h1:1≤n) {gf:Nat} {lb:Array Value} (hg:a.eval g = .func (.func gf) #[] lb) (hFg:F.fn gf) (eg:∀args w,(callFunc gf args).run P w = .ok (.enter gf args) w)
  {encs:α→Array Value} {Kp:World→World→Prop} {S:List α→Prop} {N:Nat} (hseq:aBj F (n-1) P gf lb encs X Kp S N w)
  (hKt:∀ {A B C:World},Kp A B→Kp B C→Kp A C) (hKb:∀(W:World) (l:Nat) (o o':Obj),w.heap.size≤l→W.heap[l]?=some o→o.isCells=false→o.isWalk=false→Kp W (W.putObj l o')) (hps:∀x,(encs x).size=ps.size)
  (I:List α→World→Prop) (hI:OwnFrom w.heap.size I) (hIg:∀s A B,I s A→A.grownBy B (some X)→I s B) (h0:I [] w) (a₁:α→Act)
  (hassign:∀(l:Nat) (x:α) (W:World) (K:Act→World→Prop),K (a₁ x) W→assign.wpIn (F.inRound l) (n-1-1) P (Exit.then K (fun _ _ _=>False)) { tmps:=(ps.zip (encs x)).foldl (fun t (p,v)=>t.setIfInBounds p v) a.tmps,defers:=[] } W)
  (hbody:∀(l:Nat) (pre:List α) (x:α) (W:World),I pre W→pre.length<N→body.wpIn (F.inRound l) (n-1-1) P (fun e _ W'=>e = .normal∧KeepsFrom w.heap.size W W'∧Kp W W'∧I (pre++[x]) W') (a₁ x) W)
  (hdone:∀(D:Nat) (xs:List α) (W:World),w.heap.size≤D→S xs→I xs W→W.heap[D]?=some (.deferred (some []))→Q .normal { a with defers:={ target:=.collected D,args:=#[] }::a.defers } W) :
  (Code.rangeFunc g ps assign body).wpIn F n P Q a w:=by
 refine wpIn_rangeFunc fun fn hfn=>?_
 rw[hro];obtain⟨m,hm⟩ : ∃m,m=w.heap.size:=⟨_,rfl⟩
 rw[←hm]at hX hKb hI hbody hdone;obtain⟨R,hR⟩ : ∃R:LoopState→Loop,R=fun st=>{ state:=st,pending:=none,fn,tmps:=a.tmps,params:=ps,assign,body,defers:=m }:=⟨_,rfl⟩
 obtain⟨V,hV⟩ : ∃V,V=(w.alloc (.deferred (some []))).alloc (.loop (R .ready)):=⟨_,rfl⟩
 have vD:V.heap[m]?=some (.deferred (some [])):=by rw[hV,hm];exact(Below.heap_alloc _ _ _ (by simp)).trans (World.alloc_heap_new w _)
 have vL:V.heap[m+1]?=some (.loop (R .ready)):=by
  have h:=World.alloc_heap_new (w.alloc (.deferred (some []))) (.loop (R .ready));rw[World.size_alloc,←hm]at h;rw[hV];exact h
 have vB:Below w.heap.size w V:=by rw[hV];exact((Below.refl _ w).alloc (Nat.le_refl _) _).alloc (by simp) _
 have vI:I [] V:=by rw[hV];exact hI.alloc _ (hI.alloc _ h0)
 refine⟨m+1,[{ target:=.collected m,args:=#[] }],V,{ target:=.fn (.func gf) lb,args:=#[.func (.yield (m+1)) #[] #[]] },V,gf,#[.func (.yield (m+1)) #[] #[]]++lb,V,?_,?_,?_,?_,fun _=>h1,?_⟩
 ·rw[hV,hR,hm];exact run_enterLoop_outer _ _ _ _ _
 ·simp only[resolve,hg];simp[go_sem]
 ·intro f' hf';simp[Target.leads]at hf';subst hf';exact hFg
 ·simp[invoke,go_sem,eg]
 refine(hseq (m+1) (fun s W=>I s W∧W.heap[m+1]?=some (.loop (R .ready))∧W.heap[m]?=some (.deferred (some []))) V vB (fun s A B hs hAB=>?_) ?_ ⟨vI,vL,vD⟩).mono ?_
 ·obtain⟨s1,s2,s3⟩:=hs
  exact⟨hIg s A B s1 hAB,(hAB.block _ (Array.getElem?_eq_some_iff.1 s2).1 (by simp;omega)).trans s2,(hAB.block _ (Array.getElem?_eq_some_iff.1 s3).1 (by simp;omega)).trans s3⟩
 ·rintro pre x W ⟨i1,i2,i3⟩ hlen
  have lt2:=(Array.getElem?_eq_some_iff.1 i2).1
  have yld:=run_yield (P:=P) (args:=encs x) i2 (by rw[hR];exact hps x)
  rw[hR]at yld;refine⟨fn,_,assign,body,yld,roundIn_of_wpIn hfn (hassign _ x W _ ?_)⟩
  obtain⟨Z,hZ⟩ : ∃Z,Z=W.putObj (m+1) (.loop { R .ready with state:=.busy }):=⟨_,rfl⟩
  refine⟨Z,by rw[hZ];exact run_beginRound i2 (by rw[hR]),?_⟩
  have zL:Z.heap[m+1]?=some (.loop { R .ready with state:=.busy }):=by rw[hZ];exact World.putObj_heap_same lt2
  have zD:Z.heap[m]?=some (.deferred (some [])):=by rw[hZ];exact(World.putObj_heap_other (by omega)).trans i3
  have zK:Kp W Z:=by rw[hZ];exact hKb _ _ _ _ (by omega) i2 rfl rfl
  have zI:I pre Z:=by rw[hZ];exact hI.putObj _ i1 (by omega) i2 rfl
  refine wpIn_mono (hbody _ pre x Z zI hlen) ?_
  rintro e a3 W3 ⟨rfl,b1,b2,b3⟩;have wL:=b1.same _ _ (by omega) zL rfl
  have wD:=b1.same _ _ (Nat.le_refl _) zD rfl;have lt3:=(Array.getElem?_eq_some_iff.1 wL).1
  have er:=run_endRound (P:=P) none wL;refine⟨_,_,er,by simp,⟨hI.putObj _ b3 (by omega) wL rfl,?_,(World.putObj_heap_other (by omega)).trans wD⟩,hKt zK (hKt b2 (hKb _ _ _ _ (by omega) wL rfl rfl))⟩
  refine(World.putObj_heap_same lt3).trans ?_
  rw[hR]
  rfl
 ·rintro e W2 ⟨⟨v,rfl⟩,xs,hS,i1,i2,i3⟩
  have el:=run_endLoop (P:=P) i2 (by rw[hR];simp)
  rw[hR]at el;exact⟨none,_,el,hdone m xs _ (Nat.le_refl _) hS (hI.putObj _ i1 (by omega) i2 rfl) ((World.putObj_heap_other (by omega)).trans i3)⟩
end
end Go.Proofs.YtjlkeoppppfeiaaGreat
namespace Go.Proofs.YtjlkeoppppfeiaaGreat
open Go.RowKit Go.Shelf Go.Sort Go.Proofs
section
variable {P:Program} {ops:Array Oper} {C:World→Prop} {k:Nat} {ns ks:List Nat} {Lq:Act→Fact→Prop} {o:Oper} {rest:List Oper} {a:Act} {Φ:Fact}
theorem cH {ι:Type} (v:ι→Value) (G:ι→Fact) (h1:k∉ns) (h2:k∈ks) (hg:Region.wanted o (yielded ops a.tmps)=true) (hst:cA Φ) (hG:∀i,cA (G i))
  (hc:∀w,C w→Φ w→∃i w',(execOp a.eval o).run P w = .ok (.value (v i)) w'∧G i w'∧Below w.heap.size w w') (h:∀i,cA (fun x=>Φ x∧G i x)→wpC P ops C ns ks Lq (k+1) rest (a.put o.dst (v i)) (fun x=>Φ x∧G i x)) :
  wpC P ops C ns ks Lq k (o::rest) a Φ:=by
 unfold wpC;rw[if_neg h1,if_pos hg,if_pos h2];intro w hw hp;unfold callAt;obtain⟨i,w',hx,h3,h4⟩:=hc w hw hp;rw[hx];have hs:cA (fun x=>Φ x∧G i x):=fun x y hxy hb=>⟨hst x y hxy.1 hb,hG i x y hxy.2 hb⟩
 exact⟨h4,_,hs,fun x hx=>hx.1,⟨hst w w' hp h4,h3⟩,h i hs⟩
end
end Go.Proofs.YtjlkeoppppfeiaaGreat
