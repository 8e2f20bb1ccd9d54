/- Lemmas. -/
import Derived.StillTail
import Derived.OrdersIn
import Derived.TacticsIn
import Derived.RangeFuncCalls
import Derived.RangeFuncNested
import Derived.Lib.QuietBelow
import Derived.Test.YtjlkeoppppfeiaaGreatQBase
namespace Go.Proofs.YtjlkeoppppfeiaaGreat
open Go.RowKit Go.Sort
section
variable {P:Program} {ops:Array Oper} {md:Region.Mode} {C:World→Prop}
def iH (P:Program) (md:Region.Mode) (ops:Array Oper) (C:World→Prop) (n:Nat) (L:Array Bool→Act→Prop):Nat→Array Bool→Act→Prop
 |0,listed,a=>L listed a
 |f+1,listed,a=>
  Region.ready md ops listed≠[]∧∀i∈Region.ready md ops listed,i<n∧qOp P ops C i (iH P md ops C n L f (listed.setIfInBounds i true)) a
theorem qL {n i:Nat} {oi:Oper} {v:Value} {L:Array Bool→Act→Prop} (hi:ops[i]?=some oi) (hsel:∀(j:Nat) (o:Oper) cs b,ops[j]?=some o→o.op≠.select cs b)
  (hs:Region.sinkB md ops n=true) (hc:Region.chainB md ops n=true) (hn:n<ops.size) (hin:i<n)
  (hdone:∀listed a,L listed a→∀j∈Region.ready md ops listed,n≤j) :
  ∀(f:Nat) (listed:Array Bool) (a:Act),HeadInv md ops n listed →
   (∀j oj,ops[j]?=some oj→j≠i→listed.getD j true=false→(∀e∈oj.after,Region.binds md e=true→e.on≠i)→oi.apart ops oj=true) →
   i∈Region.ready md ops listed→YieldsIn P ops C oi v a →
   iH P md ops C n L f (listed.setIfInBounds i true) (a.put oi.dst v)→iH P md ops C n L (f+1) listed a:=by
 intro f
 induction f with
 |zero=>
  intro listed a inv _ hr hy H;have hun:=(mem_ready.1 hr).1;refine⟨fun h=>(by rw[h]at hr;cases hr),fun j hj=>?_⟩
  have hjn:j<n:=by
   rcases Nat.lt_or_ge j n with h|h
   ·exact h
   ·exact absurd hj (tail_waits hs hc hn inv _ i rfl hin hun j h)
  refine⟨hjn,?_⟩
  by_cases hji:j=i
  ·subst hji;exact hy.qOp hi H
  ·have:=hdone _ _ H j (ready_mono hj hji)
   omega
 |succ f ih=>
  intro listed a inv hfree hr hy H;have hun:=(mem_ready.1 hr).1;refine⟨fun h=>(by rw[h]at hr;cases hr),fun j hj=>?_⟩
  have hjn:j<n:=by
   rcases Nat.lt_or_ge j n with h|h
   ·exact h
   ·exact absurd hj (tail_waits hs hc hn inv _ i rfl hin hun j h)
  refine⟨hjn,?_⟩
  by_cases hji:j=i
  ·subst hji;exact hy.qOp hi H
  ·have h1:=(H.2 j (ready_mono hj hji)).2
   obtain⟨hjun,oj,hoj,hall⟩:=mem_ready.1 hj;have hnot:∀e∈oj.after,Region.binds md e=true→e.on≠i:=fun e he hb heq=>by
    have h1:=hall e he hb;rw[heq,getD_both hun]at h1;cases h1
   have h2:=qOp_put hoj (hfree j oj hoj hji hjun hnot) (fun cs b=>hsel i oi cs b hi) (fun cs b=>hsel j oj cs b hoj) hy h1
   have hfree':∀k ok,ops[k]?=some ok→k≠i→(listed.setIfInBounds j true).getD k true=false →
     (∀e∈ok.after,Region.binds md e=true→e.on≠i)→oi.apart ops ok=true:=fun k ok hk hki hun hno=>by
    refine hfree k ok hk hki ?_ hno
    by_cases hjk:j=k
    ·subst hjk;exact hjun
    ·rw[getD_set_ne true hjk]at hun;exact hun
   refine qOp_mono (fun a' h3=>ih (listed.setIfInBounds j true) a' (inv.set hj hjn) hfree' (ready_mono hr (Ne.symm hji)) h3.1 ?_) h2
   rw[Array.setIfInBounds_comm _ _ hji];exact h3.2
theorem fX {n g:Nat} {Lq:Act→Prop} (hsel:Region.noSelect ops=true) (hs:Region.sinkB md ops n=true) (hc:Region.chainB md ops n=true) (hn:n<ops.size) :
  ∀(l:List Oper) (k:Nat) (listed:Array Bool) (a:Act),(∀j,j<l.length→l[j]?=ops[k+j]?)→k+l.length=n→HeadInv md ops n listed →
  Region.lexHead md ops g l.length k listed=true→wpQuiet P ops C Lq l a →
  iH P md ops C n (fun listed' a'=>Region.seqB md ops g n listed'=true∧Lq a') l.length listed a
 | [],k,listed,a,_,hk,_,hB,h=>by
  have:k=n:=by simpa using hk
  subst this;exact⟨by simpa[Region.lexHead]using hB,h⟩
 |o::l,k,listed,a,hl,hk,inv,hB,h=>by
  have h0:ops[k]?=some o:=by simpa using (hl 0 (by simp)).symm
  simp only[List.length_cons,Region.lexHead,Bool.and_eq_true]at hB;obtain⟨⟨hr,hf⟩,hB'⟩:=hB;have hkn:k<n:=by simp only[List.length_cons]at hk;omega
  have hr':k∈Region.ready md ops listed:=by simpa using hr
  have hst:qOp P ops C k (wpQuiet P ops C Lq l) a:=by unfold qOp;simp only[h0];exact h
  obtain⟨v,hy,hK⟩:=yieldsIn_of_qOp h0 hst;exact qL h0 (Region.noSelect_spec hsel) hs hc hn hkn (fun listed' a' hL=>seqB_ready hL.1) l.length listed a inv (Region.free_spec h0 hf) hr' hy
   (fX hsel hs hc hn l (k+1) _ _ (fun j hj=>by have:=hl (j+1) (by simp;omega);simpa[Nat.add_assoc,Nat.add_comm 1 j]using this) (by simp only[List.length_cons]at hk;omega) (inv.set hr' hkn) hB' hK)
theorem gP {n g:Nat} {L:Array Bool→Act→Prop} {Q':Exit→Act→World→Prop} (hL:∀listed a w,C w→L listed a→wpAny P md ops Q' g listed a w) :
  ∀(f:Nat) (listed:Array Bool) (a:Act) (w:World),C w→iH P md ops C n L f listed a→wpAny P md ops Q' (f+g) listed a w
 |0,listed,a,w,hw,h=>by rw[Nat.zero_add];exact hL _ _ _ hw h
 |f+1,listed,a,w,hw,h=>by
  rw[show f+1+g=(f+g)+1 by omega]
  exact⟨fun h0=>absurd h0 h.1,fun i hi=>wpOp_of_qOp hw (fun a' w' hw' h'=>gP hL f _ a' w' hw' h') (h.2 i hi).2⟩
theorem wpQuiet_mono {Q Q':Act→Prop} (hq:∀a,Q a→Q' a):∀ {l:List Oper} {a:Act},wpQuiet P ops C Q l a→wpQuiet P ops C Q' l a
 | [],_,h=>hq _ h
 |o::rest,a,h=>by
  unfold wpQuiet at h ⊢
  split
  ·rename_i hw;rw[if_pos hw]at h;exact Oper.quiet_mono (fun _ h=>wpQuiet_mono hq h) h
  ·rename_i hw;rw[if_neg hw]at h;exact wpQuiet_mono hq h
theorem jF {id:Nat} {Q:Exit→Act→World→Prop} {a:Act} {w:World} {l:List Oper} (n:Nat) (hm:P.follows .mixedOrders=true) (hB:Region.lexTailB .any l.toArray n=true) (hC:C { w with drawn:=w.drawn+1 })
  (h:wpQuiet P l.toArray C (fun a'=>∀w',C w'→wpList P l.toArray Q (l.drop n) a' w') (l.take n) a):(Code.region id l.toArray true).wp P Q a w:=by
 simp only[Region.lexTailB,Bool.and_eq_true,decide_eq_true_eq]at hB;obtain⟨⟨⟨⟨hsel,hn⟩,hs⟩,hc⟩,hlex⟩:=hB;have hn':n<l.length:=by simpa using hn
 have htl:(l.take n).length=n:=by simp;omega
 have hdl:(l.drop n).length=l.toArray.size-n:=by simp
 have inv0:HeadInv .any l.toArray n (Array.replicate l.toArray.size false):=
  ⟨by simp,fun j oj _ hl=>(by rw[getD_replicate_false]at hl;cases hl),fun t _ ht=>getD_in (by simpa using ht) (getD_replicate_false _ _)⟩
 have H:=fX (md:=.any) (g:=l.toArray.size-n) hsel hs hc hn (l.take n) 0 _ a (fun j hj=>by
  have hj':j<n:=by rw[htl]at hj;exact hj
  simp[hj']) (by simpa using htl) inv0 (by rw[htl];exact hlex) h
 refine wp_region_any hm ?_
 have:=gP (Q':=Q) (g:=l.toArray.size-n) (fun listed a' w' hw' hL=>by
  have:=wpAny_of_seq (md:=.any) (Q':=Q) (l.drop n) n listed a' w' (fun j=>by simp[List.getElem?_drop]) (by rw[hdl];exact hL.1) (hL.2 w' hw')
  rwa [hdl]at this) _ _ _ _ hC H
 rw[htl,show n+(l.toArray.size-n)=l.toArray.size by omega]at this
 exact this
variable {lp m:Nat}
theorem wpIn_of_quiet {o:Oper} {a:Act} {K:Act→Prop} {K':Act→World→Prop} {Q':Exit→Act→World→Prop} {w:World} (hd:∀c,o.op≠.defer c) (hw:C w) (h:∀a w',C w'→K a→K' a w') (hh:o.quiet P a C K) :
  o.wpIn (Fence.wide.inRound lp) m P a w K' Q':=by
 obtain⟨v,h1,h2⟩:=hh;have h3:=h1 w hw;unfold Oper.quietAt at h3;refine⟨fun _ _=>trivial,?_⟩
 rw[Oper.semAt_eq _ _ _ hd]
 generalize (execOp a.eval o).run P w=r at *
 cases r with
 |ok n w'=>
  cases n<;>simp only[Oper.quietUpon]at h3<;>simp only[Oper.uponIn]
  case value u=>
   obtain⟨e1,e2⟩:=h3;rw[e1,e2];exact h _ _ hw h2
  case skip=>
   obtain⟨e1,e2⟩:=h3;rw[e1,←e2];exact h _ _ hw h2
  case enter f args=>
   obtain⟨e1,hc⟩:=h3;rw[e1];refine⟨(fun q=>by cases q),CallsIn.inRound lp (callsIn_wide.2 (hc.mono ?_))⟩
   rintro e w'' ⟨he,hw''⟩;subst he;exact h _ _ hw'' h2
 |halt x w'=>simp only[Oper.quietUpon]at h3
theorem qM {i:Nat} {a:Act} {K:Act→Prop} {K':Act→World→Prop} {Q':Exit→Act→World→Prop} {w:World} (hd:∀(j:Nat) (o:Oper) c,ops[j]?=some o→o.op≠.defer c) (hC:C w) (h:∀a w',C w'→K a→K' a w') (hh:qOp P ops C i K a) :
  wpOpIn (Fence.wide.inRound lp) m P ops Q' i K' a w:=by
 unfold qOp at hh;unfold wpOpIn
 split
 ·rename_i ho;simp only[ho]at hh;exact h _ _ hC hh
 ·rename_i o ho
  simp only[ho]at hh
  split
  ·rename_i hw;simp only[hw,if_true]at hh;exact wpIn_of_quiet (fun c=>hd i o c ho) hC h hh
  ·rename_i hw;simp only[hw]at hh;exact⟨fun _ _=>trivial,h _ _ hC hh⟩
theorem fK {n g:Nat} {L:Array Bool→Act→Prop} {Q':Exit→Act→World→Prop} (hd:∀(j:Nat) (o:Oper) c,ops[j]?=some o→o.op≠.defer c) (hL:∀listed a w,C w→L listed a→wpAnyIn (Fence.wide.inRound lp) m P md ops Q' g listed a w) :
  ∀(f:Nat) (listed:Array Bool) (a:Act) (w:World),C w→iH P md ops C n L f listed a→wpAnyIn (Fence.wide.inRound lp) m P md ops Q' (f+g) listed a w
 |0,listed,a,w,hw,h=>by rw[Nat.zero_add];exact hL _ _ _ hw h
 |f+1,listed,a,w,hw,h=>by
  rw[show f+1+g=(f+g)+1 by omega]
  exact⟨fun h0=>absurd h0 h.1,fun i hi=>qM hd hw (fun a' w' hw' h'=>fK hd hL f _ a' w' hw' h') (h.2 i hi).2⟩
theorem dB {F:Fence} {Q':Exit→Act→World→Prop}:∀(l:List Oper) (k:Nat) (listed:Array Bool) (a:Act) (w:World),(∀j,l[j]?=ops[k+j]?) →
  Region.seqB md ops l.length k listed=true→wpListIn F m P ops Q' l a w→wpAnyIn F m P md ops Q' l.length listed a w
 | [],_,_,_,_,_,hB,h=>⟨by simpa[Region.seqB]using hB,h⟩
 |o::l,k,listed,a,w,hl,hB,h=>by
  have h0:ops[k]?=some o:=by simpa using (hl 0).symm
  simp only[List.length_cons,Region.seqB,Bool.and_eq_true,decide_eq_true_eq]at hB;refine⟨fun h1=>(by rw[hB.1]at h1;cases h1),fun i hi=>?_⟩
  rw[hB.1]at hi;have hik:i=k:=by simpa using hi
  subst hik;have hw:wpOpIn F m P ops Q' i (wpListIn F m P ops Q' l) a w:=by unfold wpOpIn;simp only[h0];exact h
  exact wpOpIn_mono (fun a' w' h'=>dB l (i+1) _ a' w' (fun j=>by have:=hl (j+1);simpa[Nat.add_assoc,Nat.add_comm 1 j]using this) hB.2 h') hw
def fY (ops:Array Oper):Bool:=ops.all fun o=>match o.op with | .defer _=>false|_=>true
theorem fB (h:fY ops=true):∀(j:Nat) (o:Oper) c,ops[j]?=some o→o.op≠.defer c:=by
 intro j o c ho hc;have hmem:o∈ops:=Array.mem_of_getElem? ho;have h1:=(Array.all_eq_true_iff_forall_mem.1 h) o hmem;rw[hc]at h1;cases h1
theorem iI {id:Nat} {Q:Exit→Act→World→Prop} {a:Act} {w:World} {l:List Oper} (n:Nat) (hm:P.follows .mixedOrders=true) (hB:(Region.lexTailB .any l.toArray n&&fY l.toArray)=true) (hC:C { w with drawn:=w.drawn+1 })
  (h:wpQuiet P l.toArray C (fun a'=>∀w',C w'→wpListIn (Fence.wide.inRound lp) m P l.toArray Q (l.drop n) a' w') (l.take n) a):(Code.region id l.toArray true).wpIn (Fence.wide.inRound lp) m P Q a w:=by
 simp only[Region.lexTailB,Bool.and_eq_true,decide_eq_true_eq]at hB;obtain⟨⟨⟨⟨⟨hsel,hn⟩,hs⟩,hc⟩,hlex⟩,hnd⟩:=hB;have hn':n<l.length:=by simpa using hn
 have htl:(l.take n).length=n:=by simp;omega
 have hdl:(l.drop n).length=l.toArray.size-n:=by simp
 have inv0:HeadInv .any l.toArray n (Array.replicate l.toArray.size false):=
  ⟨by simp,fun j oj _ hl=>(by rw[getD_replicate_false]at hl;cases hl),fun t _ ht=>getD_in (by simpa using ht) (getD_replicate_false _ _)⟩
 have H:=fX (md:=.any) (g:=l.toArray.size-n) hsel hs hc hn (l.take n) 0 _ a (fun j hj=>by
  have hj':j<n:=by rw[htl]at hj;exact hj
  simp[hj']) (by simpa using htl) inv0 (by rw[htl];exact hlex) h
 refine wpIn_region_any hm ?_
 have:=fK (Q':=Q) (g:=l.toArray.size-n) (lp:=lp) (m:=m) (fB hnd) (fun listed a' w' hw' hL=>by
  have:=dB (md:=.any) (Q':=Q) (l.drop n) n listed a' w' (fun j=>by simp[List.getElem?_drop]) (by rw[hdl];exact hL.1) (hL.2 w' hw')
  rwa [hdl]at this) _ _ _ _ hC H
 rw[htl,show n+(l.toArray.size-n)=l.toArray.size by omega]at this
 exact this
theorem dW {id:Nat} {Q:Exit→Act→World→Prop} {a:Act} {w:World} {l:List Oper} (n:Nat) (hm:P.follows .mixedOrders=true) (hB:Region.lexTailB .any l.toArray n=true)
  (h:wpQuiet P l.toArray (fun w'=>∃p:Regrown,w'=grow (redrawn w p.d) p.os) (fun a'=>∀w',Below w.heap.size w w'→wpList P l.toArray Q (l.drop n) a' w') (l.take n) a):(Code.region id l.toArray true).wp P Q a w:=
 jF (C:=fun w'=>∃p:Regrown,w'=grow (redrawn w p.d) p.os) n hm hB ⟨⟨w.drawn+1,#[]⟩,by rw[grow_empty];rfl⟩ (wpQuiet_mono (fun a' h w' ⟨p,hp⟩=>h w' (by rw[hp];exact below_regrown w p.d p.os)) h)
theorem jG {id:Nat} {Q:Exit→Act→World→Prop} {a:Act} {w:World} {l:List Oper} (n:Nat) (hm:P.follows .mixedOrders=true) (hB:(Region.lexTailB .any l.toArray n&&fY l.toArray)=true)
  (h:wpQuiet P l.toArray (fun w'=>∃p:Regrown,w'=grow (redrawn w p.d) p.os) (fun a'=>∀w',Below w.heap.size w w'→wpListIn (Fence.wide.inRound lp) m P l.toArray Q (l.drop n) a' w') (l.take n) a) :
  (Code.region id l.toArray true).wpIn (Fence.wide.inRound lp) m P Q a w:=
 iI (C:=fun w'=>∃p:Regrown,w'=grow (redrawn w p.d) p.os) n hm hB ⟨⟨w.drawn+1,#[]⟩,by rw[grow_empty];rfl⟩ (wpQuiet_mono (fun a' h w' ⟨p,hp⟩=>h w' (by rw[hp];exact below_regrown w p.d p.os)) h)
end
section
variable {P:Program}
theorem cin {n:Nat} {f:FuncId} {args:Array Value} {w:World} {R:Ending→World→Prop} (h:Calls P f args w R):Fence.wide.fn f∧CallsIn Fence.wide n P f args w R:=⟨trivial,callsIn_wide.2 h⟩
theorem aEh {n l:Nat} {f:FuncId} {args:Array Value} {w:World} {R:Ending→World→Prop} (h:Calls P f args w R):(Fence.wide.inRound l).fn f∧CallsIn (Fence.wide.inRound l) n P f args w R:=⟨trivial,CallsIn.inRound l (callsIn_wide.2 h)⟩
theorem kP {β:Type} (B g:Nat) (t:TypeId) (f:β→Array Value):OwnFrom B (fun s W=>BK W g t (f s)):=by
 intro s W W' row hs hg hr;refine(hg.block g hs.lt (fun e=>?_)).trans hs
 obtain⟨_,o,ho,hc⟩:=hr g e.symm;rw[show W.heap[g]?=_ from hs]at ho
 cases ho
 cases hc
def Since (w:World) (N:Nat) (W:World):Prop:=Below w.heap.size w W∧N≤W.heap.size
theorem eP {β:Type} {B N:Nat} {w:World} (hB:w.heap.size≤B):OwnFrom B (fun(_:β) W=>Since w N W):=by
 intro s W W' row hs hg hr;exact⟨ownFrom_below (Nat.le_refl _) hB s W W' row hs.1 hg hr,Nat.le_trans hs.2 hg.size⟩
theorem Since.onto {w:World} {N:Nat} {W W':World} (h:Since w N W) (k:Below W.heap.size W W'):Since w N W':=⟨h.1.trans (k.mono h.1.size),Nat.le_trans h.2 k.size⟩
theorem Since.setCell {w:World} {N:Nat} {W:World} (h:Since w N W) {p:Addr} (hp:w.heap.size≤p.block) (u:Value):Since w N (W.setCell p u):=⟨h.1.setCell hp u,by simpa using h.2⟩
theorem dD {B:Nat} {W W':World} (h:Below W.heap.size W W'):KeepsFrom B W W':=
 ⟨h.size,fun k _ _ hk _=>(h.block k (Array.getElem?_eq_some_iff.1 hk).1).trans hk⟩
end
end Go.Proofs.YtjlkeoppppfeiaaGreat
namespace Go.Proofs.YtjlkeoppppfeiaaGreat
open Go.RowKit Go.Sort
section
variable {P:Program} {ops:Array Oper} {md:Region.Mode} {C:World→Prop}
def zP (P:Program) (w:World) (v:Value):Result Next→Prop
 | .ok (.value u) w'=>w'=w∧u=v
 | .ok .skip w'=>w'=w∧v=undef
 | .ok (.enter f args) w'=>w'=w∧Calls P f args w (fun e w''=>e = .returned v∧Below w.heap.size w w'')
 |_=>False
def tAt (P:Program) (o:Oper) (a:Act) (w:World) (v:Value):Prop:=zP P w v ((execOp a.eval o).run P w)
def tK (P:Program) (o:Oper) (a:Act) (C:World→Prop) (next:Act→Prop):Prop:=∃v,(∀w,C w→tAt P o a w v)∧next (a.put o.dst v)
def fL (P:Program) (ops:Array Oper) (C:World→Prop) (Q:Act→Prop):List Oper→Act→Prop
 | [],a=>Q a
 |o::rest,a=>if Region.wanted o (yielded ops a.tmps) then tK P o a C (fL P ops C Q rest) else fL P ops C Q rest (a.put o.dst undef)
theorem yF {Q:Act→Prop} {a:Act} (h:Q a):fL P ops C Q [] a:=h
theorem vV {Q:Act→Prop} {a:Act} {o:Oper} {rest:List Oper}
  (h:∀K:Act→Prop,(∀a,fL P ops C Q rest a→K a)→if Region.wanted o (yielded ops a.tmps) then tK P o a C K else K (a.put o.dst undef)):fL P ops C Q (o::rest) a:=
 h _ (fun _ h=>h)
def tOp (P:Program) (ops:Array Oper) (C:World→Prop) (n i:Nat) (K:Act→Prop) (a:Act):Prop:=
 if i=n then K a else
 match ops[i]? with
 |none=>K a
 |some o=>if Region.wanted o (yielded ops a.tmps) then tK P o a C K else K (a.put o.dst undef)
theorem tame_mono {o:Oper} {a:Act} {K K':Act→Prop} (h:∀a,K a→K' a) (hh:tK P o a C K):tK P o a C K':=
 let ⟨v,h1,h2⟩:=hh
 ⟨v,h1,h _ h2⟩
theorem vW {n i:Nat} {a:Act} {K K':Act→Prop} (h:∀a,K a→K' a) (hh:tOp P ops C n i K a):tOp P ops C n i K' a:=by
 unfold tOp at *;by_cases hin:i=n
 ·rw[if_pos hin]at *;exact h _ hh
 rw[if_neg hin]at *
 split
 ·exact h _ (by simpa[*]using hh)
 ·rename_i o ho
  simp only[ho]at hh
  split
  ·rename_i hw;simp only[hw,if_true]at hh;exact tame_mono h hh
  ·rename_i hw;simp only[hw]at hh;exact h _ hh
def Tyields (P:Program) (ops:Array Oper) (C:World→Prop) (o:Oper) (v:Value) (a:Act):Prop:=
 (Region.wanted o (yielded ops a.tmps)=true∧∀w,C w→tAt P o a w v) ∨
 (Region.wanted o (yielded ops a.tmps)=false∧v=undef)
theorem Tyields.tOp {n i:Nat} {o:Oper} {v:Value} {a:Act} (hin:i≠n) (hi:ops[i]?=some o) (hy:Tyields P ops C o v a) {K:Act→Prop} (h:K (a.put o.dst v)):tOp P ops C n i K a:=by
 unfold Go.Proofs.YtjlkeoppppfeiaaGreat.tOp;rw[if_neg hin];simp only[hi];rcases hy with⟨hw,hv⟩|⟨hw,rfl⟩
 ·simp only[hw,if_true];exact⟨v,hv,h⟩
 ·simp only[hw,Bool.false_eq_true,if_false];exact h
theorem Tyields.of_same {o:Oper} {v:Value} {a a':Act} (hy:Tyields P ops C o v a) (he:execOp a'.eval o=execOp a.eval o)
  (hw:Region.wanted o (yielded ops a'.tmps)=Region.wanted o (yielded ops a.tmps)):Tyields P ops C o v a':=by
 unfold Tyields tAt at *;rw[he,hw];exact hy
theorem pT {n i:Nat} {o:Oper} {a:Act} {K:Act→Prop} (hin:i≠n) (hi:ops[i]?=some o) (h:tOp P ops C n i K a):∃v,Tyields P ops C o v a∧K (a.put o.dst v):=by
 unfold tOp at h;rw[if_neg hin]at h;simp only[hi]at h;by_cases hw:Region.wanted o (yielded ops a.tmps)=true
 ·simp only[hw,if_true]at h
  obtain⟨v,h1,h2⟩:=h;exact⟨v,.inl ⟨hw,h1⟩,h2⟩
 ·simp only[hw]at h
  exact⟨undef,.inr ⟨by simpa using hw,rfl⟩,h⟩
theorem aDF {n j:Nat} {oi oj:Oper} {v:Value} (hj:ops[j]?=some oj) (hap:oi.apart ops oj=true)
  (hsi:∀cs b,oi.op≠.select cs b) (hsj:∀cs b,oj.op≠.select cs b) {K:Act→Prop} {a:Act}
  (hy:Tyields P ops C oi v a) (h:tOp P ops C n j K (a.put oi.dst v)) :
  tOp P ops C n j (fun a'=>Tyields P ops C oi v a'∧K (a'.put oi.dst v)) a:=by
 obtain⟨h1,h2,h3⟩:=Oper.apart_spec hap;have keep:∀(a:Act),Tyields P ops C oi v a→∀u,Tyields P ops C oi v (a.put oj.dst u):=fun a hy u=>
  hy.of_same (execOp_put oi hsi a oj.dst u h3) (wanted_put oi a oj.dst u h3)
 unfold tOp at *;by_cases hjn:j=n
 ·rw[if_pos hjn]at *;exact⟨hy,h⟩
 rw[if_neg hjn]at *;simp only[hj]at *;rw[wanted_put oj a oi.dst v h1]at h
 split
 ·rename_i hw
  simp only[hw,if_true]at h;obtain⟨u,hu,hn⟩:=h;refine⟨u,fun w hw'=>?_,keep a hy u,by rw[←Act.put_comm a v u h2];exact hn⟩
  have:=hu w hw';unfold tAt at *
  rwa [execOp_put oj hsj a oi.dst v h1]at this
 ·rename_i hw
  simp only[hw]at h;exact⟨keep a hy _,by rw[←Act.put_comm a v undef h2];exact h⟩
def nO (P:Program) (md:Region.Mode) (ops:Array Oper) (C:World→Prop) (n:Nat) (L:Array Bool→Act→Prop):Nat→Array Bool→Act→Prop
 |0,listed,a=>L listed a
 |f+1,listed,a=>
  Region.ready md ops listed≠[]∧∀i∈Region.ready md ops listed,i<n+1∧tOp P ops C n i (nO P md ops C n L f (listed.setIfInBounds i true)) a
theorem nP {n i:Nat} {oi:Oper} {L:Array Bool→Act→Prop} (hi:ops[i]?=some oi) (hsel:∀(j:Nat) (o:Oper) cs b,ops[j]?=some o→o.op≠.select cs b)
  (hs:Region.sinkB md ops (n+1)=true) (hc:Region.chainB md ops (n+1)=true) (hn:n+1<ops.size) (hin:i<n+1)
  (hdone:∀listed a,L listed a→∀j∈Region.ready md ops listed,n+1≤j) :
  ∀(f:Nat) (listed:Array Bool) (a:Act),HeadInv md ops (n+1) listed →
   (∀j oj,ops[j]?=some oj→j≠i→listed.getD j true=false→(∀e∈oj.after,Region.binds md e=true→e.on≠i)→oi.apart ops oj=true) →
   i∈Region.ready md ops listed →
   ((i=n∧nO P md ops C n L f (listed.setIfInBounds i true) a)∨(i≠n∧∃v,Tyields P ops C oi v a∧nO P md ops C n L f (listed.setIfInBounds i true) (a.put oi.dst v)))→nO P md ops C n L (f+1) listed a:=by
 intro f
 induction f with
 |zero=>
  intro listed a inv _ hr H;have hun:=(mem_ready.1 hr).1;refine⟨fun h=>(by rw[h]at hr;cases hr),fun j hj=>?_⟩
  have hjn:j<n+1:=by
   rcases Nat.lt_or_ge j (n+1) with h|h
   ·exact h
   ·exact absurd hj (tail_waits hs hc hn inv _ i rfl hin hun j h)
  refine⟨hjn,?_⟩
  by_cases hji:j=i
  ·subst hji
   rcases H with⟨hn',H⟩|⟨hn',v,hy,H⟩
   ·unfold tOp;rw[if_pos hn'];exact H
   ·exact hy.tOp hn' hi H
  ·rcases H with⟨hn',H⟩|⟨hn',v,hy,H⟩
   ·have:=hdone _ _ H j (ready_mono hj hji)
    omega
   ·have:=hdone _ _ H j (ready_mono hj hji)
    omega
 |succ f ih=>
  intro listed a inv hfree hr H;have hun:=(mem_ready.1 hr).1;refine⟨fun h=>(by rw[h]at hr;cases hr),fun j hj=>?_⟩
  have hjn:j<n+1:=by
   rcases Nat.lt_or_ge j (n+1) with h|h
   ·exact h
   ·exact absurd hj (tail_waits hs hc hn inv _ i rfl hin hun j h)
  refine⟨hjn,?_⟩
  by_cases hji:j=i
  ·subst hji
   rcases H with⟨hn',H⟩|⟨hn',v,hy,H⟩
   ·unfold tOp;rw[if_pos hn'];exact H
   ·exact hy.tOp hn' hi H
  ·obtain⟨hjun,oj,hoj,hall⟩:=mem_ready.1 hj
   have hnot:∀e∈oj.after,Region.binds md e=true→e.on≠i:=fun e he hb heq=>by
    have h1:=hall e he hb;rw[heq,getD_both hun]at h1;cases h1
   have hfree':∀k ok,ops[k]?=some ok→k≠i→(listed.setIfInBounds j true).getD k true=false →
     (∀e∈ok.after,Region.binds md e=true→e.on≠i)→oi.apart ops ok=true:=fun k ok hk hki hun hno=>by
    refine hfree k ok hk hki ?_ hno
    by_cases hjk:j=k
    ·subst hjk;exact hjun
    ·rw[getD_set_ne true hjk]at hun;exact hun
   rcases H with⟨hn',H⟩|⟨hn',v,hy,H⟩
   ·have h1:=(H.2 j (ready_mono hj hji)).2
    refine vW (fun a' h3=>ih (listed.setIfInBounds j true) a' (inv.set hj hjn) hfree' (ready_mono hr (Ne.symm hji)) (.inl ⟨hn',?_⟩)) h1
    rw[Array.setIfInBounds_comm _ _ hji];exact h3
   ·have h1:=(H.2 j (ready_mono hj hji)).2
    have h2:=aDF hoj (hfree j oj hoj hji hjun hnot) (fun cs b=>hsel i oi cs b hi) (fun cs b=>hsel j oj cs b hoj) hy h1
    refine vW (fun a' h3=>ih (listed.setIfInBounds j true) a' (inv.set hj hjn) hfree' (ready_mono hr (Ne.symm hji)) (.inr ⟨hn',v,h3.1,?_⟩)) h2
    rw[Array.setIfInBounds_comm _ _ hji];exact h3.2
theorem rY {n g:Nat} {Lq:Act→Prop} (hsel:Region.noSelect ops=true) (hs:Region.sinkB md ops (n+1)=true) (hc:Region.chainB md ops (n+1)=true) (hn:n+1<ops.size) :
  ∀(l:List Oper) (k:Nat) (listed:Array Bool) (a:Act),(∀j,j<l.length→l[j]?=ops[k+j]?)→k+l.length=n→HeadInv md ops (n+1) listed →
  Region.lexHead md ops g (l.length+1) k listed=true→fL P ops C Lq l a →
  nO P md ops C n (fun listed' a'=>Region.seqB md ops g (n+1) listed'=true∧Lq a') (l.length+1) listed a
 | [],k,listed,a,_,hk,inv,hB,h=>by
  have hk':k=n:=by simpa using hk
  subst hk';simp only[List.length_nil,Region.lexHead,Bool.and_eq_true]at hB;obtain⟨⟨hr,hf⟩,hB'⟩:=hB;have hr':k∈Region.ready md ops listed:=by simpa using hr
  obtain⟨o,h0⟩ : ∃o,ops[k]?=some o:=⟨ops[k]'(by omega),Array.getElem?_eq_getElem _⟩
  exact nP h0 (Region.noSelect_spec hsel) hs hc hn (by omega) (fun listed' a' hL=>seqB_ready hL.1) 0 listed a inv (Region.free_spec h0 hf) hr' (.inl ⟨rfl,hB',h⟩)
 |o::l,k,listed,a,hl,hk,inv,hB,h=>by
  have h0:ops[k]?=some o:=by simpa using (hl 0 (by simp)).symm
  rw[List.length_cons,Region.lexHead]at hB;simp only[Bool.and_eq_true]at hB;obtain⟨⟨hr,hf⟩,hB'⟩:=hB;have hkn:k<n:=by simp only[List.length_cons]at hk;omega
  have hr':k∈Region.ready md ops listed:=by simpa using hr
  have hst:tOp P ops C n k (fL P ops C Lq l) a:=by unfold tOp;rw[if_neg (by omega)];simp only[h0];exact h
  obtain⟨v,hy,hK⟩:=pT (by omega) h0 hst
  exact nP h0 (Region.noSelect_spec hsel) hs hc hn (by omega) (fun listed' a' hL=>seqB_ready hL.1) (l.length+1) listed a inv (Region.free_spec h0 hf) hr' (.inr ⟨by omega,v,hy,
   rY hsel hs hc hn l (k+1) _ _ (fun j hj=>by have:=hl (j+1) (by simp;omega);simpa[Nat.add_assoc,Nat.add_comm 1 j]using this) (by simp only[List.length_cons]at hk;omega) (inv.set hr' (by omega)) hB' hK⟩)
def aDt (n:Nat) (d:Tmp) (t:TypeId) (zs:Array Value) (B:Nat) (listed:Array Bool) (a ac:Act) (wc:World):Prop:=
 (listed.getD n false=false∧ac=a)∨(listed.getD n false=true∧∃b,B≤b∧BK wc b t zs∧ac=a.put (some d) (.pointer (some ⟨b,0,none⟩)))
theorem pU {o:Oper} {a:Act} {K:Act→Prop} {K':Act→World→Prop} {Q':Exit→Act→World→Prop} {w:World} (hw:C w) (h:∀a w',Below w.heap.size w w'→K a→K' a w') (hh:tK P o a C K):o.wp P a w K' Q':=by
 obtain⟨v,h1,h2⟩:=hh;have h3:=h1 w hw;unfold tAt at h3;unfold Oper.wp
 generalize (execOp a.eval o).run P w=r at *
 cases r with
 |ok n w'=>
  cases n<;>simp only[zP]at h3<;>simp only[Oper.upon]
  case value u=>
   obtain⟨e1,e2⟩:=h3;rw[e1,e2];exact h _ _ (Below.refl _ _) h2
  case skip=>
   obtain⟨e1,e2⟩:=h3;rw[e1,←e2];exact h _ _ (Below.refl _ _) h2
  case enter f args=>
   obtain⟨e1,hc⟩:=h3;rw[e1];exact hc.mono fun e w'' ⟨he,hw''⟩=>by subst he;exact h _ _ hw'' h2
 |halt x w'=>simp only[zP]at h3
theorem aBt {o oa:Oper} {d:Tmp} {u:Value} {a:Act} {K K':Act→Prop} (hd:oa.dst=some d) (hap:oa.apart ops o=true) (hso:∀cs b,o.op≠.select cs b) (hK:∀a,K a→K' (a.put (some d) u)) (h:tK P o a C K):tK P o (a.put (some d) u) C K':=by
 obtain⟨h1,h2,h3⟩:=Oper.apart_spec hap;rw[hd]at h1 h2;obtain⟨v,hv,hn⟩:=h;refine⟨v,fun w hw=>?_,?_⟩
 ·have:=hv w hw
  unfold tAt at *;rw[execOp_put o hso a (some d) u h1];exact this
 ·rw[Act.put_comm a u v h2]
  exact hK _ hn
variable {n:Nat} {d:Tmp} {t:TypeId} {zs:Array Value} {B:Nat} {oa:Oper}
theorem pW {g:Nat} {L:Array Bool→Act→Prop} {Q':Exit→Act→World→Prop} (hsel:∀(j:Nat) (o:Oper) cs b,ops[j]?=some o→o.op≠.select cs b)
  (hoa:ops[n]?=some oa) (hda:oa.dst=some d) (hga:oa.guard=none) (hrun:∀(a:Act) (w:World),(execOp a.eval oa).run P w = .ok (.value (.pointer (some ⟨w.heap.size,0,none⟩))) (w.alloc (.cells zs t)))
  (hap:∀j oj,ops[j]?=some oj→j<n→oa.apart ops oj=true)
  (hCl:∀w w',C w→Below w.heap.size w w'→C w') (hCB:∀w,C w→B≤w.heap.size)
  (hL:∀listed a ac w,HeadInv md ops (n+1) listed→C w→L listed a→aDt n d t zs B listed a ac w→wpAny P md ops Q' g listed ac w) :
  ∀(f:Nat) (listed:Array Bool) (a ac:Act) (w:World),HeadInv md ops (n+1) listed→C w→aDt n d t zs B listed a ac w→nO P md ops C n L f listed a→wpAny P md ops Q' (f+g) listed ac w:=by
 intro f
 induction f with
 |zero=>intro listed a ac w hsz hw hr h;rw[Nat.zero_add];exact hL _ _ _ _ hsz hw h hr
 |succ f ih=>
  intro listed a ac w hsz hw hr h;rw[show f+1+g=(f+g)+1 by omega]
  refine⟨fun h0=>absurd h0 h.1,fun i hi=>?_⟩
  obtain⟨hin,h1⟩:=h.2 i hi;have hn':n<ops.size:=(Array.getElem?_eq_some_iff.1 hoa).1
  by_cases hi':i=n
  ·subst hi'
   unfold tOp at h1;rw[if_pos rfl]at h1;have hun:=(mem_ready.1 hi).1;have hac:ac=a:=by
    rcases hr with⟨_,e⟩|⟨e,_⟩
    ·exact e
    ·rw[getD_both hun]at e;cases e
   subst hac;unfold wpOp;simp only[hoa];rw[if_pos (by simp[Region.wanted,hga])]
   refine .inl ?_
   unfold Oper.wp;rw[hrun];show wpAny P md ops Q' (f+g) (listed.setIfInBounds i true) (ac.put oa.dst (.pointer (some ⟨w.heap.size,0,none⟩))) (w.alloc (.cells zs t))
   rw[hda];exact ih _ ac _ _ (hsz.set hi hin) (hCl _ _ hw ((Below.refl _ _).alloc (Nat.le_refl _) _)) (.inr ⟨by simp[hsz.size,hn'],w.heap.size,hCB _ hw,BK.new w t zs,rfl⟩) h1
  ·unfold tOp at h1
   rw[if_neg hi']at h1;have hgd:(listed.setIfInBounds i true).getD n false=listed.getD n false:=getD_set_ne false hi';have key:∀a' w',Below w.heap.size w w'→∀ac',((listed.getD n false=false∧ac'=a')∨(listed.getD n false=true∧∃b,B≤b∧BK w b t zs∧ac'=a'.put (some d) (.pointer (some ⟨b,0,none⟩))))→nO P md ops C n L f (listed.setIfInBounds i true) a'→wpAny P md ops Q' (f+g) (listed.setIfInBounds i true) ac' w':=by
    intro a' w' hb ac' hr' h2;refine ih _ a' ac' w' (hsz.set hi hin) (hCl _ _ hw hb) ?_ h2
    unfold aDt;rw[hgd];rcases hr' with⟨e,e'⟩|⟨e,b,hb1,hb2,e'⟩
    ·exact .inl ⟨e,e'⟩
    ·exact .inr ⟨e,b,hb1,hb2.below hb hb2.lt,e'⟩
   unfold wpOp;cases ho:ops[i]? with
   |none=>
    simp only[ho]at h1 ⊢;exact key a w (Below.refl _ _) ac hr h1
   |some o=>
    simp only[ho]at h1 ⊢;have hapo:=hap i o ho (by omega)
    rcases hr with⟨e,rfl⟩|⟨e,b,hb1,hb2,rfl⟩
    ·split
     ·rename_i hw';rw[if_pos hw']at h1
      exact .inl (pU hw (fun a' w' hb h2=>key a' w' hb a' (.inl ⟨e,rfl⟩) h2) h1)
     ·rename_i hw';rw[if_neg hw']at h1
      exact key _ w (Below.refl _ _) _ (.inl ⟨e,rfl⟩) h1
    ·obtain⟨p1,p2,p3⟩:=Oper.apart_spec hapo
     rw[hda]at p1 p2;rw[wanted_put o a (some d) _ p1]
     split
     ·rename_i hw';rw[if_pos hw']at h1
      refine .inl (pU hw (K:=fun a''=>∃a',a''=a'.put (some d) (.pointer (some ⟨b,0,none⟩))∧nO P md ops C n L f (listed.setIfInBounds i true) a') (fun a'' w' hb h2=>?_) (aBt hda hapo (fun cs q=>hsel i o cs q ho) (fun a' ha'=>⟨a',rfl,ha'⟩) h1))
      obtain⟨a',rfl,h3⟩:=h2;exact key a' w' hb _ (.inr ⟨e,b,hb1,hb2,rfl⟩) h3
     ·rename_i hw';rw[if_neg hw']at h1
      rw[Act.put_comm a _ undef p2];exact key _ w (Below.refl _ _) _ (.inr ⟨e,b,hb1,hb2,rfl⟩) h1
theorem wpTame_mono {Q Q':Act→Prop} (hq:∀a,Q a→Q' a):∀ {l:List Oper} {a:Act},fL P ops C Q l a→fL P ops C Q' l a
 | [],_,h=>hq _ h
 |o::rest,a,h=>by
  unfold fL at h ⊢
  split
  ·rename_i hw;rw[if_pos hw]at h;exact tame_mono (fun _ h=>wpTame_mono hq h) h
  ·rename_i hw;rw[if_neg hw]at h;exact wpTame_mono hq h
def aBu (ops:Array Oper) (oa:Oper) (n:Nat):Bool:=(List.range n).all fun j=>match ops[j]? with|some o=>oa.apart ops o|none=>true
theorem vX (h:aBu ops oa n=true):∀j oj,ops[j]?=some oj→j<n→oa.apart ops oj=true:=by
 intro j oj hj hjn;have h1:=(List.all_eq_true.1 h) j (List.mem_range.2 hjn);simpa only[hj]using h1
theorem qN {id:Nat} {Q:Exit→Act→World→Prop} {a:Act} {w:World} {l:List Oper} (n:Nat) (t:TypeId) (zs:Array Value) (d:Tmp) (oa:Oper) (hm:P.follows .mixedOrders=true)
  (hoa:l.toArray[n]?=some oa) (hda:oa.dst=some d) (hga:oa.guard=none) (hrun:∀(a:Act) (w:World),(execOp a.eval oa).run P w = .ok (.value (.pointer (some ⟨w.heap.size,0,none⟩))) (w.alloc (.cells zs t)))
  (hB:(Region.lexTailB .any l.toArray (n+1)&&aBu l.toArray oa n)=true)
  (h:fL P l.toArray (fun w'=>∃p:Regrown,w'=grow (redrawn w p.d) p.os) (fun a'=>∀b w',Below w.heap.size w w'→w.heap.size≤b→BK w' b t zs→wpList P l.toArray Q (l.drop (n+1)) (a'.put (some d) (.pointer (some ⟨b,0,none⟩))) w') (l.take n) a) :
  (Code.region id l.toArray true).wp P Q a w:=by
 simp only[Region.lexTailB,Bool.and_eq_true,decide_eq_true_eq]at hB;obtain⟨⟨⟨⟨⟨hsel,hn⟩,hs⟩,hc⟩,hlex⟩,hap⟩:=hB;have hn':n+1<l.length:=by simpa using hn
 have htl:(l.take n).length=n:=by simp;omega
 have hdl:(l.drop (n+1)).length=l.toArray.size-(n+1):=by simp
 have inv0:HeadInv .any l.toArray (n+1) (Array.replicate l.toArray.size false):=
  ⟨by simp,fun j oj _ hl=>(by rw[getD_replicate_false]at hl;cases hl),fun t _ ht=>getD_in (by simpa using ht) (getD_replicate_false _ _)⟩
 have H:=rY (md:=.any) (g:=l.toArray.size-(n+1)) hsel hs hc hn (l.take n) 0 _ a (fun j hj=>by
  have hj':j<n:=by rw[htl]at hj;exact hj
  simp[hj']) (by simpa using htl) inv0 (by rw[htl];exact hlex) (wpTame_mono (Q':=fun a'=>(fun w'=>∃p:Regrown,w'=grow (redrawn w p.d) p.os) w∧∀b w',Below w.heap.size w w'→w.heap.size≤b→BK w' b t zs→wpList P l.toArray Q (l.drop (n+1)) (a'.put (some d) (.pointer (some ⟨b,0,none⟩))) w') (fun a' h=>⟨⟨⟨w.drawn,#[]⟩,by rw[grow_empty];rfl⟩,h⟩) h)
 refine wp_region_any hm ?_
 have:=pW (Q':=Q) (g:=l.toArray.size-(n+1)) (B:=w.heap.size) (Region.noSelect_spec hsel) hoa hda hga hrun (vX hap)
  (fun w1 w2 ⟨p,hp⟩ hb=>by subst hp;exact regrown_of_below ((below_regrown w p.d p.os).trans (hb.mono (below_regrown w p.d p.os).size)))
  (fun w1 ⟨p,hp⟩=>by subst hp;exact(below_regrown w p.d p.os).size)
  (fun listed a' ac w' inv hw' hL hr=>by
   obtain⟨hL1,_,hL2⟩:=hL;obtain⟨p,hp⟩:=hw';rcases hr with⟨e,_⟩|⟨_,b,hb1,hb2,rfl⟩
   ·exfalso
    have hun:listed.getD n true=false:=getD_in (by have:=inv.size;omega) e
    have hB1:=hL1;have hsz:l.toArray.size-(n+1)=(l.toArray.size-(n+2))+1:=by omega
    rw[hsz]at hB1;simp only[Region.seqB,Bool.and_eq_true,decide_eq_true_eq]at hB1;exact tail_waits hs hc hn inv _ n rfl (by omega) hun (n+1) (Nat.le_refl _) (by rw[hB1.1];simp)
   have:=wpAny_of_seq (md:=.any) (Q':=Q) (l.drop (n+1)) (n+1) listed (a'.put (some d) (.pointer (some ⟨b,0,none⟩))) w' (fun j=>by simp[List.getElem?_drop]) (by rw[hdl];exact hL1) (hL2 b w' (by rw[hp];exact below_regrown w p.d p.os) hb1 hb2)
   rwa [hdl]at this) _ _ _ _ _ inv0 ⟨⟨w.drawn+1,#[]⟩,by rw[grow_empty]⟩ (.inl ⟨getD_replicate_false _ _,rfl⟩) H
 rw[htl,show n+1+(l.toArray.size-(n+1))=l.toArray.size by omega]at this
 exact this
end
attribute [go_sem] tK tAt zP
end Go.Proofs.YtjlkeoppppfeiaaGreat
namespace Go.Proofs.YtjlkeoppppfeiaaGreat
open Go.RowKit Go.Sort
section
variable {P:Program} {ops:Array Oper} {md:Region.Mode} {C:World→Prop}
def nQ (w:World) (v:Value):Result Next→Prop
 | .ok (.value u) w'=>w'=w∧u=v
 | .ok .skip w'=>w'=w∧v=undef
 |_=>False
def qAt (P:Program) (o:Oper) (a:Act) (w:World) (v:Value):Prop:=nQ w v ((execOp a.eval o).run P w)
theorem aBv {o:Oper} {a:Act} {w:World} {v v':Value} (h:qAt P o a w v) (k:qAt P o a w v'):v=v':=by
 unfold qAt at h k
 generalize (execOp a.eval o).run P w=r at h k
 cases r with
 |ok n w'=>
  cases n<;>simp only[nQ]at h k
  ·exact h.2.symm.trans k.2
  ·exact h.2.trans k.2.symm
 |halt x w'=>simp only[nQ]at h
def lZ (P:Program) (w:World) (R:Value→World→Prop):Result Next→Prop
 | .ok (.enter f args) w'=>w'=w∧Calls P f args w (fun e w''=>∃v,e = .returned v∧R v w'')
 | .ok (.value u) w'=>R u w'
 |_=>False
def callAt (P:Program) (o:Oper) (a:Act) (w:World) (R:Value→World→Prop):Prop:=lZ P w R ((execOp a.eval o).run P w)
theorem callAt_mono {o:Oper} {a:Act} {w:World} {R R':Value→World→Prop} (hr:∀v w',R v w'→R' v w') (h:callAt P o a w R):callAt P o a w R':=by
 unfold callAt at *
 generalize (execOp a.eval o).run P w=r at *
 cases r with
 |ok n w'=>
  cases n<;>simp only[lZ]at h ⊢
  ·exact hr _ _ h
  ·exact⟨h.1,h.2.mono fun e w'' ⟨v,e1,h1⟩=>⟨v,e1,hr _ _ h1⟩⟩
 |halt x w'=>simp only[lZ]at h
theorem gQ {o:Oper} {a:Act} {w:World} {R:Value→World→Prop} (h:callAt P o a w R):∃v w',R v w':=by
 unfold callAt at h
 generalize (execOp a.eval o).run P w=r at *
 cases r with
 |ok n w'=>
  cases n<;>simp only[lZ]at h
  ·exact⟨_,_,h⟩
  ·obtain⟨e,w'',fr,⟨v,_,h1⟩,_⟩:=h.2 []
   exact⟨v,w'',h1⟩
 |halt x w'=>simp only[lZ]at h
abbrev Fact:=World→Prop
def cA (Φ:Fact):Prop:=∀x y,Φ x→Below x.heap.size x y→Φ y
def aBw (Φ:Fact) (w:World) (dst:Option Tmp) (a:Act) (K:Act→Fact→Prop) (v:Value) (w':World):Prop:=
 Below w.heap.size w w'∧∃Φ':Fact,cA Φ'∧(∀x,Φ' x→Φ x)∧Φ' w'∧K (a.put dst v) Φ'
def cOp (P:Program) (ops:Array Oper) (C:World→Prop) (ns:List Nat) (ks:List Nat) (i:Nat) (K:Act→Fact→Prop) (a:Act) (Φ:Fact):Prop:=
 if i∈ns then K a Φ else
 match ops[i]? with
 |none=>K a Φ
 |some o=>
  if Region.wanted o (yielded ops a.tmps) then
   if i∈ks then ∀w,C w→Φ w→callAt P o a w (aBw Φ w o.dst a K)
   else ∃v,(∀w,C w→qAt P o a w v)∧K (a.put o.dst v) Φ
  else K (a.put o.dst undef) Φ
theorem vY {ns:List Nat} {i:Nat} {ks:List Nat} (hCl:∀w w',C w→Below w.heap.size w w'→C w') {a:Act} {Φ:Fact} {K K':Act→Fact→Prop} (hst:cA Φ) (hex:∃w,C w∧Φ w)
  (h:∀a Φ,cA Φ→(∃w,C w∧Φ w)→K a Φ→K' a Φ) (hh:cOp P ops C ns ks i K a Φ):cOp P ops C ns ks i K' a Φ:=by
 unfold cOp at *;by_cases hin:i∈ns
 ·rw[if_pos hin]at *;exact h _ _ hst hex hh
 rw[if_neg hin]at *
 split
 ·exact h _ _ hst hex (by simpa[*]using hh)
 ·rename_i o ho
  simp only[ho]at hh;by_cases hw:Region.wanted o (yielded ops a.tmps)=true
  ·rw[if_pos hw]at hh ⊢
   by_cases hk:i∈ks
   ·rw[if_pos hk]at hh ⊢
    exact fun w hc hp=>callAt_mono (fun v w' ⟨h1,Φ',h2,h3,h4,h5⟩=>⟨h1,Φ',h2,h3,h4,h _ _ h2 ⟨w',hCl _ _ hc h1,h4⟩ h5⟩) (hh w hc hp)
   ·rw[if_neg hk]at hh ⊢
    obtain⟨v,h1,h2⟩:=hh;exact⟨v,h1,h _ _ hst hex h2⟩
  ·rw[if_neg hw]at hh ⊢
   exact h _ _ hst hex hh
def Qyields (P:Program) (ops:Array Oper) (C:World→Prop) (o:Oper) (v:Value) (a:Act):Prop:=
 (Region.wanted o (yielded ops a.tmps)=true∧∀w,C w→qAt P o a w v)∨(Region.wanted o (yielded ops a.tmps)=false∧v=undef)
theorem Qyields.of_same {o:Oper} {v:Value} {a a':Act} (hy:Qyields P ops C o v a) (he:execOp a'.eval o=execOp a.eval o)
  (hw:Region.wanted o (yielded ops a'.tmps)=Region.wanted o (yielded ops a.tmps)):Qyields P ops C o v a':=by
 unfold Qyields qAt at *;rw[he,hw];exact hy
theorem Qyields.uniq {o:Oper} {v v':Value} {a:Act} (hex:∃w,C w) (h:Qyields P ops C o v a) (k:Qyields P ops C o v' a):v=v':=by
 obtain⟨w,hw⟩:=hex;rcases h with⟨h1,h2⟩|⟨h1,h2⟩<;>rcases k with⟨k1,k2⟩|⟨k1,k2⟩
 ·exact aBv (h2 w hw) (k2 w hw)
 ·rw[h1]at k1;cases k1
 ·rw[h1]at k1;cases k1
 ·rw[h2,k2]
theorem Qyields.cOp {ns:List Nat} {i:Nat} {ks:List Nat} {o:Oper} {v:Value} {a:Act} {Φ:Fact} (hin:i∉ns) (hk:i∉ks) (hi:ops[i]?=some o) (hy:Qyields P ops C o v a) {K:Act→Fact→Prop} (h:K (a.put o.dst v) Φ):cOp P ops C ns ks i K a Φ:=by
 unfold Go.Proofs.YtjlkeoppppfeiaaGreat.cOp;rw[if_neg hin];simp only[hi];rcases hy with⟨hw,hv⟩|⟨hw,rfl⟩
 ·rw[if_pos hw,if_neg hk];exact⟨v,hv,h⟩
 ·rw[if_neg (by rw[hw];simp)];exact h
theorem dX {ns:List Nat} {i:Nat} {ks:List Nat} {o:Oper} {a:Act} {Φ:Fact} {K:Act→Fact→Prop} (hin:i∉ns) (hk:i∉ks) (hi:ops[i]?=some o) (h:cOp P ops C ns ks i K a Φ):∃v,Qyields P ops C o v a∧K (a.put o.dst v) Φ:=by
 unfold cOp at h;rw[if_neg hin]at h;simp only[hi]at h;by_cases hw:Region.wanted o (yielded ops a.tmps)=true
 ·rw[if_pos hw,if_neg hk]at h
  obtain⟨v,h1,h2⟩:=h;exact⟨v,.inl ⟨hw,h1⟩,h2⟩
 ·rw[if_neg hw]at h
  exact⟨undef,.inr ⟨by simpa using hw,rfl⟩,h⟩
theorem aDG {ns:List Nat} {j:Nat} {ks:List Nat} {oi oj:Oper} {v:Value} (hj:ops[j]?=some oj) (hap:oi.apart ops oj=true)
  (hsi:∀cs b,oi.op≠.select cs b) (hsj:∀cs b,oj.op≠.select cs b) {K:Act→Fact→Prop} {a:Act} {Φ:Fact}
  (hy:Qyields P ops C oi v a) (h:cOp P ops C ns ks j K (a.put oi.dst v) Φ) :
  cOp P ops C ns ks j (fun a' Φ'=>Qyields P ops C oi v a'∧K (a'.put oi.dst v) Φ') a Φ:=by
 obtain⟨h1,h2,h3⟩:=Oper.apart_spec hap;have keep:∀(a:Act),Qyields P ops C oi v a→∀u,Qyields P ops C oi v (a.put oj.dst u):=fun a hy u=>
  hy.of_same (execOp_put oi hsi a oj.dst u h3) (wanted_put oi a oj.dst u h3)
 unfold cOp at *;by_cases hjn:j∈ns
 ·rw[if_pos hjn]at *;exact⟨hy,h⟩
 rw[if_neg hjn]at *;simp only[hj]at *;rw[wanted_put oj a oi.dst v h1]at h;by_cases hw:Region.wanted oj (yielded ops a.tmps)=true
 ·rw[if_pos hw]at h ⊢
  by_cases hk:j∈ks
  ·rw[if_pos hk]at h ⊢
   intro w hc hp;have:=h w hc hp;unfold callAt at *;rw[execOp_put oj hsj a oi.dst v h1]at this;refine callAt_mono (P:=P) (o:=oj) (a:=a) (fun u w' ⟨k1,Φ',k2,k3,k4,k5⟩=>⟨k1,Φ',k2,k3,k4,keep a hy u,by rw[←Act.put_comm a v u h2];exact k5⟩) this
  ·rw[if_neg hk]at h ⊢
   obtain⟨u,hu,hn⟩:=h;refine⟨u,fun w hw'=>?_,keep a hy u,by rw[←Act.put_comm a v u h2];exact hn⟩
   have:=hu w hw';unfold qAt at *
   rwa [execOp_put oj hsj a oi.dst v h1]at this
 ·rw[if_neg hw]at h ⊢
  exact⟨keep a hy _,by rw[←Act.put_comm a v undef h2];exact h⟩
def jH (P:Program) (md:Region.Mode) (ops:Array Oper) (C:World→Prop) (ns:List Nat) (m:Nat) (ks:List Nat) (L:Array Bool→Act→Fact→Prop):Nat→Array Bool→Act→Fact→Prop
 |0,listed,a,Φ=>L listed a Φ
 |f+1,listed,a,Φ=>
  Region.ready md ops listed≠[]∧∀i∈Region.ready md ops listed,i<m∧cOp P ops C ns ks i (jH P md ops C ns m ks L f (listed.setIfInBounds i true)) a Φ
def iJ (md:Region.Mode) (ops:Array Oper):List Nat→Bool
 |i::j::l=>(match ops[j]? with|some o=>o.after.any fun e=>Region.binds md e&&e.on == i|none=>false)&&iJ md ops (j::l)
 |_=>true
theorem dY {m:Nat} {listed:Array Bool} (inv:HeadInv md ops m listed):∀(l:List Nat),iJ md ops l=true→∀(A B:List Nat) (i j:Nat),l=A++i::B→j∈B →
  (listed.getD j false=true∨j∈Region.ready md ops listed)→listed.getD i false=true
 | [],_,A,B,i,j,e,hj,_=>by simp at e
 | [x],_,A,B,i,j,e,hj,_=>by
  rcases A with _|⟨a,A⟩
  ·simp at e;obtain⟨_,rfl⟩:=e;cases hj
  ·simp at e
 |x::y::l,hc,A,B,i,j,e,hj,hor=>by
  simp only[iJ,Bool.and_eq_true]at hc;obtain⟨h1,h2⟩:=hc;rcases A with _|⟨a,A⟩
  ·simp at e
   obtain⟨rfl,rfl⟩:=e;have hy:listed.getD y false=true∨y∈Region.ready md ops listed:=by
    rcases List.mem_cons.1 hj with rfl|hj
    ·exact hor
    ·exact .inl (dY inv (y::l) h2 [] l y j rfl hj hor)
   cases ho:ops[y]? with
   |none=>simp[ho]at h1
   |some o=>
    simp only[ho]at h1;obtain⟨ed,he,hb⟩:=Array.any_eq_true'.1 h1;simp only[Bool.and_eq_true,beq_iff_eq]at hb;rw[←hb.2];rcases hy with hy|hy
    ·exact inv.closed y o ho hy ed he hb.1
    ·obtain⟨_,o',ho',hall⟩:=mem_ready.1 hy
     rw[ho]at ho';cases ho'
     exact hall ed he hb.1
  ·simp at e
   obtain⟨_,e⟩:=e;exact dY inv (y::l) h2 A B i j e hj hor
theorem vZ {ns:List Nat} {m i:Nat} {ks:List Nat} {oi:Oper} {L:Array Bool→Act→Fact→Prop} (hCl:∀w w',C w→Below w.heap.size w w'→C w') (hi:ops[i]?=some oi) (hsel:∀(j:Nat) (o:Oper) cs b,ops[j]?=some o→o.op≠.select cs b)
  (hs:Region.sinkB md ops m=true) (hc:Region.chainB md ops m=true) (hn:m<ops.size) (hin:i<m)
  (hdone:∀listed a Φ,L listed a Φ→∀j∈Region.ready md ops listed,m≤j) :
  ∀(f:Nat) (listed:Array Bool) (a:Act) (Φ:Fact),HeadInv md ops m listed→cA Φ→(∃w,C w∧Φ w) →
   (∀j oj,ops[j]?=some oj→j≠i→listed.getD j true=false→(∀e∈oj.after,Region.binds md e=true→e.on≠i)→oi.apart ops oj=true) →
   i∈Region.ready md ops listed→(i∈ks→∀j∈ks,j≠i→j∉Region.ready md ops listed) →
   (∀(L2:Array Bool),(∀q,listed.getD q false=true→L2.getD q false=true)→L2.getD i true=false→HeadInv md ops m L2→i∈ks→∀j∈ks,j≠i→j∉Region.ready md ops L2) →
   cOp P ops C ns ks i (jH P md ops C ns m ks L f (listed.setIfInBounds i true)) a Φ→jH P md ops C ns m ks L (f+1) listed a Φ:=by
 intro f
 induction f with
 |zero=>
  intro listed a Φ inv hst hex hfree hr hkr hch H;have hun:=(mem_ready.1 hr).1;refine⟨fun h=>(by rw[h]at hr;cases hr),fun j hj=>?_⟩
  have hjn:j<m:=by
   rcases Nat.lt_or_ge j m with h|h
   ·exact h
   ·exact absurd hj (tail_waits hs hc hn inv _ i rfl hin hun j h)
  refine⟨hjn,?_⟩
  by_cases hji:j=i
  ·subst hji;exact H
  ·exfalso
   have bad:∀a' Φ',jH P md ops C ns m ks L 0 (listed.setIfInBounds i true) a' Φ'→False:=fun a' Φ' h=>by
    have:=hdone _ _ _ h j (ready_mono hj hji);omega
   unfold cOp at H;by_cases hin':i∈ns
   ·rw[if_pos hin']at H;exact bad _ _ H
   rw[if_neg hin']at H;simp only[hi]at H
   split at H
   ·split at H
    ·obtain⟨w,hw1,hw2⟩:=hex
     obtain⟨v,w',_,Φ',_,_,_,h⟩:=gQ (H w hw1 hw2);exact bad _ _ h
    ·obtain⟨v,_,h⟩:=H
     exact bad _ _ h
   ·exact bad _ _ H
 |succ f ih=>
  intro listed a Φ inv hst hex hfree hr hkr hch H;have hun:=(mem_ready.1 hr).1;refine⟨fun h=>(by rw[h]at hr;cases hr),fun j hj=>?_⟩
  have hjn:j<m:=by
   rcases Nat.lt_or_ge j m with h|h
   ·exact h
   ·exact absurd hj (tail_waits hs hc hn inv _ i rfl hin hun j h)
  refine⟨hjn,?_⟩
  by_cases hji:j=i
  ·subst hji;exact H
  ·obtain⟨hjun,oj,hoj,hall⟩:=mem_ready.1 hj
   have hnot:∀e∈oj.after,Region.binds md e=true→e.on≠i:=fun e he hb heq=>by
    have h1:=hall e he hb;rw[heq,getD_both hun]at h1;cases h1
   have hap:=hfree j oj hoj hji hjun hnot;have inv':=inv.set hj hjn;have hr':=ready_mono hr (Ne.symm hji);have hfree':∀k ok,ops[k]?=some ok→k≠i→(listed.setIfInBounds j true).getD k true=false →
     (∀e∈ok.after,Region.binds md e=true→e.on≠i)→oi.apart ops ok=true:=fun k ok hk hki hun' hno=>by
    refine hfree k ok hk hki ?_ hno
    by_cases hjk:j=k
    ·subst hjk;exact hjun
    ·rw[getD_set_ne true hjk]at hun';exact hun'
   have hun2:(listed.setIfInBounds j true).getD i true=false:=by rw[getD_set_ne true hji];exact hun
   have hch':∀(L2:Array Bool),(∀q,(listed.setIfInBounds j true).getD q false=true→L2.getD q false=true)→L2.getD i true=false→HeadInv md ops m L2→i∈ks→∀j∈ks,j≠i→j∉Region.ready md ops L2:=
    fun L2 hsub=>hch L2 (fun q hq=>hsub q (getD_set_true hq))
   have hkr':i∈ks→∀j'∈ks,j'≠i→j'∉Region.ready md ops (listed.setIfInBounds j true):=hch' _ (fun q hq=>hq) hun2 inv'
   have use:=fun(a':Act) (Φ':Fact) (h1:cA Φ') (h2:∃w,C w∧Φ' w) (h3:cOp P ops C ns ks i (jH P md ops C ns m ks L f ((listed.setIfInBounds j true).setIfInBounds i true)) a' Φ')=>
    ih (listed.setIfInBounds j true) a' Φ' inv' h1 h2 hfree' hr' hkr' hch' h3
   rw[Array.setIfInBounds_comm _ _ hji]at use;have hcomp:∀a' Φ',jH P md ops C ns m ks L (f+1) (listed.setIfInBounds i true) a' Φ'→cOp P ops C ns ks j (jH P md ops C ns m ks L f ((listed.setIfInBounds i true).setIfInBounds j true)) a' Φ':=fun a' Φ' h=>(h.2 j (ready_mono hj hji)).2
   obtain⟨p1,p2,p3⟩:=Oper.apart_spec hap;by_cases hin':i∈ns
   ·
    unfold cOp at H;rw[if_pos hin']at H;refine vY hCl hst hex (fun a' Φ' h1 h2 h3=>use a' Φ' h1 h2 ?_) (hcomp _ _ H)
    unfold cOp;rw[if_pos hin'];exact h3
   ·by_cases hik:i∈ks
    ·
     have hjk:j∉ks:=fun h=>hkr hik j h hji hj
     by_cases hwi:Region.wanted oi (yielded ops a.tmps)=true
     case neg=>
      unfold cOp at H;rw[if_neg hin']at H;simp only[hi]at H;rw[if_neg hwi]at H;by_cases hjn':j∈ns
      ·unfold cOp
       rw[if_pos hjn'];refine use a Φ hst hex ?_
       unfold cOp;rw[if_neg hin'];simp only[hi];rw[if_neg hwi];have:=hcomp _ _ H;unfold cOp at this;rw[if_pos hjn']at this;exact this
      ·obtain⟨vj,hyj,hk⟩:=dX hjn' hjk hoj (hcomp _ _ H)
       have hyj':Qyields P ops C oj vj a:=hyj.of_same (execOp_put oj (fun cs b=>hsel j oj cs b hoj) a oi.dst undef p1).symm (wanted_put oj a oi.dst undef p1).symm
       refine hyj'.cOp hjn' hjk hoj (use _ Φ hst hex ?_)
       unfold cOp;rw[if_neg hin'];simp only[hi];rw[if_neg (by rw[wanted_put oi a oj.dst vj p3];exact hwi)]
       rw[←Act.put_comm a undef vj p2];exact hk
     unfold cOp at H;rw[if_neg hin']at H;simp only[hi]at H;rw[if_pos hwi,if_pos hik]at H;by_cases hjn':j∈ns
     ·unfold cOp
      rw[if_pos hjn'];refine use a Φ hst hex ?_
      unfold cOp;rw[if_neg hin'];simp only[hi];rw[if_pos hwi,if_pos hik];intro w hw1 hw2;refine callAt_mono (fun v w' ⟨k1,Φ',k2,k3,k4,k5⟩=>⟨k1,Φ',k2,k3,k4,?_⟩) (H w hw1 hw2)
      have:=hcomp _ _ k5;unfold cOp at this;rw[if_pos hjn']at this;exact this
     ·obtain⟨w0,hw1,hw2⟩:=hex
      obtain⟨v0,w0',k1,Φ0,k2,k3,k4,k5⟩:=gQ (H w0 hw1 hw2);obtain⟨vj,hyj,_⟩:=dX hjn' hjk hoj (hcomp _ _ k5);have hyj':Qyields P ops C oj vj a:=hyj.of_same (execOp_put oj (fun cs b=>hsel j oj cs b hoj) a oi.dst v0 p1).symm (wanted_put oj a oi.dst v0 p1).symm
      refine hyj'.cOp hjn' hjk hoj (use _ Φ hst ⟨w0,hw1,hw2⟩ ?_)
      unfold cOp;rw[if_neg hin'];simp only[hi];rw[if_pos (by rw[wanted_put oi a oj.dst vj p3];exact hwi),if_pos hik]
      intro w hc1 hc2;have:=H w hc1 hc2;unfold callAt;rw[execOp_put oi (fun cs b=>hsel i oi cs b hi) a oj.dst vj p3]
      refine callAt_mono (P:=P) (o:=oi) (a:=a) (fun v w' ⟨q1,Φ',q2,q3,q4,q5⟩=>⟨q1,Φ',q2,q3,q4,?_⟩) this
      obtain⟨vj',hz,hk⟩:=dX hjn' hjk hoj (hcomp _ _ q5);have hz':Qyields P ops C oj vj' a:=hz.of_same (execOp_put oj (fun cs b=>hsel j oj cs b hoj) a oi.dst v p1).symm (wanted_put oj a oi.dst v p1).symm
      obtain rfl:=hz'.uniq ⟨w,hc1⟩ hyj';rw[←Act.put_comm a v vj' p2];exact hk
    ·obtain⟨v,hy,hK⟩:=dX hin' hik hi H
     have h2:=aDG hoj hap (fun cs b=>hsel i oi cs b hi) (fun cs b=>hsel j oj cs b hoj) hy (hcomp _ _ hK)
     exact vY hCl hst hex (fun a' Φ' q1 q2 q3=>use a' Φ' q1 q2 (q3.1.cOp hin' hik hi q3.2)) h2
def wpC (P:Program) (ops:Array Oper) (C:World→Prop) (ns:List Nat) (ks:List Nat) (Lq:Act→Fact→Prop):Nat→List Oper→Act→Fact→Prop
 |_,[],a,Φ=>Lq a Φ
 |k,o::rest,a,Φ=>
  if k∈ns then wpC P ops C ns ks Lq (k+1) rest a Φ else
  if Region.wanted o (yielded ops a.tmps) then
   if k∈ks then ∀w,C w→Φ w→callAt P o a w (aBw Φ w o.dst a (wpC P ops C ns ks Lq (k+1) rest))
   else ∃v,(∀w,C w→qAt P o a w v)∧wpC P ops C ns ks Lq (k+1) rest (a.put o.dst v) Φ
  else wpC P ops C ns ks Lq (k+1) rest (a.put o.dst undef) Φ
theorem rZ {ns:List Nat} {m g:Nat} {ks:List Nat} {Lq:Act→Fact→Prop} (hCl:∀w w',C w→Below w.heap.size w w'→C w') (hsel:Region.noSelect ops=true) (hs:Region.sinkB md ops m=true) (hc:Region.chainB md ops m=true) (hn:m<ops.size)
  (hch:iJ md ops ks=true) (hnd:ks.Nodup) (hsort:∀A B i j,ks=A++i::B→j∈A→j<i) :
  ∀(l:List Oper) (k:Nat) (listed:Array Bool) (a:Act) (Φ:Fact),(∀j,j<l.length→l[j]?=ops[k+j]?)→k+l.length=m→HeadInv md ops m listed→cA Φ→(∃w,C w∧Φ w)→(∀j,j<k→listed.getD j false=true) →
  Region.lexHead md ops g l.length k listed=true→wpC P ops C ns ks Lq k l a Φ →
  jH P md ops C ns m ks (fun listed' a' Φ'=>Region.seqB md ops g m listed'=true∧Lq a' Φ') l.length listed a Φ
 | [],k,listed,a,Φ,_,hk,_,_,_,_,hB,h=>by
  have:k=m:=by simpa using hk
  subst this;exact⟨by simpa[Region.lexHead]using hB,h⟩
 |o::l,k,listed,a,Φ,hl,hk,inv,hst,hex,hpre,hB,h=>by
  have h0:ops[k]?=some o:=by simpa using (hl 0 (by simp)).symm
  rw[List.length_cons,Region.lexHead]at hB;simp only[Bool.and_eq_true]at hB;obtain⟨⟨hr,hf⟩,hB'⟩:=hB;have hkm:k<m:=by simp only[List.length_cons]at hk;omega
  have hr':k∈Region.ready md ops listed:=by simpa using hr
  have hun:=(mem_ready.1 hr').1;have late:∀(L2:Array Bool),(∀q,listed.getD q false=true→L2.getD q false=true)→L2.getD k true=false→HeadInv md ops m L2→k∈ks→∀j∈ks,j≠k→j∉Region.ready md ops L2:=by
   intro L2 hsub hk2 inv2 hkk j hj hjk hjr;obtain⟨A,B,e⟩:=List.append_of_mem hkk;rw[e]at hj;rcases List.mem_append.1 hj with hjA|hjB
   ·have hlt:=hsort A B k j e hjA
    have h1:=hsub j (hpre j hlt);have h2:=(mem_ready.1 hjr).1;rw[getD_both h2]at h1;cases h1
   ·rcases List.mem_cons.1 hjB with rfl|hjB
    ·exact hjk rfl
    ·have:=dY inv2 ks hch A B k j e hjB (.inr hjr)
     rw[getD_both hk2]at this;cases this
  have step:∀a' Φ',cA Φ'→(∃w,C w∧Φ' w)→wpC P ops C ns ks Lq (k+1) l a' Φ'→jH P md ops C ns m ks (fun listed' a' Φ'=>Region.seqB md ops g m listed'=true∧Lq a' Φ') l.length (listed.setIfInBounds k true) a' Φ':=fun a' Φ' h1 h2 h3=>
   rZ hCl hsel hs hc hn hch hnd hsort l (k+1) _ a' Φ' (fun j hj=>by have:=hl (j+1) (by simp;omega);simpa[Nat.add_assoc,Nat.add_comm 1 j]using this) (by simp only[List.length_cons]at hk;omega) (inv.set hr' hkm) h1 h2 (fun j hj=>by
    by_cases hjk:k=j
    ·subst hjk
     have:k<listed.size:=by rw[inv.size];omega
     simp[this]
    ·rw[getD_set_ne false hjk];exact hpre j (by omega)) hB' h3
  refine vZ hCl h0 (Region.noSelect_spec hsel) hs hc hn hkm (fun listed' a' Φ' hL=>seqB_ready hL.1) l.length listed a Φ inv hst hex (Region.free_spec h0 hf) hr' (late listed (fun q hq=>hq) hun inv) late ?_
  unfold wpC at h;unfold cOp;by_cases hkn:k∈ns
  ·rw[if_pos hkn]at h ⊢
   exact step a Φ hst hex h
  rw[if_neg hkn]at h ⊢;simp only[h0];by_cases hw:Region.wanted o (yielded ops a.tmps)=true
  ·rw[if_pos hw]at h ⊢
   by_cases hkk:k∈ks
   ·rw[if_pos hkk]at h ⊢
    exact fun w h1 h2=>callAt_mono (fun v w' ⟨q1,Φ',q2,q3,q4,q5⟩=>⟨q1,Φ',q2,q3,q4,step _ _ q2 ⟨w',hCl _ _ h1 q1,q4⟩ q5⟩) (h w h1 h2)
   ·rw[if_neg hkk]at h ⊢
    obtain⟨v,h1,h2⟩:=h;exact⟨v,h1,step _ _ hst hex h2⟩
  ·rw[if_neg hw]at h ⊢
   exact step _ _ hst hex h
theorem zQ {o:Oper} {a:Act} {v:Value} {K':Act→World→Prop} {Q':Exit→Act→World→Prop} {w:World} (h1:qAt P o a w v) (h:K' (a.put o.dst v) w):o.wp P a w K' Q':=by
 unfold qAt at h1;unfold Oper.wp
 generalize (execOp a.eval o).run P w=r at *
 cases r with
 |ok n w'=>
  cases n<;>simp only[nQ]at h1<;>simp only[Oper.upon]
  ·rw[h1.1,h1.2];exact h
  ·rw[h1.1,←h1.2];exact h
 |halt x w'=>simp only[nQ]at h1
theorem pX {o:Oper} {a:Act} {R:Value→World→Prop} {K':Act→World→Prop} {Q':Exit→Act→World→Prop} {w:World} (h1:callAt P o a w R) (h:∀v w',R v w'→K' (a.put o.dst v) w'):o.wp P a w K' Q':=by
 unfold callAt at h1;unfold Oper.wp
 generalize (execOp a.eval o).run P w=r at *
 cases r with
 |ok n w'=>
  cases n<;>simp only[lZ]at h1<;>simp only[Oper.upon]
  ·exact h _ _ h1
  ·obtain⟨e1,hc⟩:=h1
   rw[e1];exact hc.mono fun e w'' ⟨v,he,hr⟩=>by subst he;exact h _ _ hr
 |halt x w'=>simp only[lZ]at h1
structure FS where
 n:Nat
 d:Tmp
 t:TypeId
 zs:Array Value
def aBx (P:Program) (ops:Array Oper) (m:Nat) (f:FS):Prop:=
 f.n<m∧∃oa,ops[f.n]?=some oa∧oa.dst=some f.d∧oa.guard=none∧(∀(a:Act) (w:World),(execOp a.eval oa).run P w = .ok (.value (.pointer (some ⟨w.heap.size,0,none⟩))) (w.alloc (.cells f.zs f.t))) ∧
  ∀j oj,ops[j]?=some oj→j<m→j≠f.n→oa.apart ops oj=true
def fP:List (FS×Nat)→Act→Act
 | [],a=>a
 |(f,b)::l,a=>(fP l a).put (some f.d) (.pointer (some ⟨b,0,none⟩))
theorem wA {dst:Option Tmp} {v:Value}:∀(bs:List (FS×Nat)) (a:Act),(∀p∈bs,dst≠some p.1.d)→fP bs (a.put dst v)=(fP bs a).put dst v
 | [],_,_=>rfl
 |(f,b)::l,a,h=>by
  show (fP l (a.put dst v)).put _ _=_
  rw[wA l a (fun p hp=>h p (List.mem_cons_of_mem _ hp))]
  exact(Act.put_comm (fP l a) _ v (fun d hd=>by cases hd;exact h (f,b) (List.mem_cons_self ..))).symm
theorem sA {o:Oper} (hs:∀cs b,o.op≠.select cs b):∀(bs:List (FS×Nat)) (a:Act),(∀p∈bs,p.1.d∉o.looksAt ops)→execOp (fP bs a).eval o=execOp a.eval o
 | [],_,_=>rfl
 |(f,b)::l,a,h=>by
  show execOp ((fP l a).put _ _).eval o=_
  rw[execOp_put o hs (fP l a) (some f.d) _ (fun d hd=>by cases hd;exact h (f,b) (List.mem_cons_self ..)),sA hs l a (fun p hp=>h p (List.mem_cons_of_mem _ hp))]
theorem nR {o:Oper}:∀(bs:List (FS×Nat)) (a:Act),(∀p∈bs,p.1.d∉o.looksAt ops)→Region.wanted o (yielded ops (fP bs a).tmps)=Region.wanted o (yielded ops a.tmps)
 | [],_,_=>rfl
 |(f,b)::l,a,h=>by
  show Region.wanted o (yielded ops ((fP l a).put _ _).tmps)=_
  rw[wanted_put o (fP l a) (some f.d) _ (fun d hd=>by cases hd;exact h (f,b) (List.mem_cons_self ..)),nR l a (fun p hp=>h p (List.mem_cons_of_mem _ hp))]
def aER (fs:List FS) (B:Nat) (w:World) (bs:List (FS×Nat)):Prop:=
 (∀p∈bs,p.1∈fs∧B≤p.2∧BK w p.2 p.1.t p.1.zs)∧(bs.map (·.1.n)).Nodup∧(bs.map (·.2)).Nodup
def aDU (fs:List FS) (B:Nat) (listed:Array Bool) (a ac:Act) (w:World):Prop:=
 ∃bs,aER fs B w bs∧(∀p∈bs,listed.getD p.1.n false=true)∧(∀f∈fs,listed.getD f.n false=true→f.n∈bs.map (·.1.n))∧ac=fP bs a
theorem pY {m g B:Nat} {fs:List FS} {ks:List Nat} {L:Array Bool→Act→Fact→Prop} {Q':Exit→Act→World→Prop} (hm:m<ops.size) (hsel:∀(j:Nat) (o:Oper) cs b,ops[j]?=some o→o.op≠.select cs b)
  (hfl:∀f∈fs,aBx P ops m f) (hCl:∀w w',C w→Below w.heap.size w w'→C w') (hCB:∀w,C w→B≤w.heap.size)
  (hL:∀listed a ac w Φ,HeadInv md ops m listed→C w→Φ w→L listed a Φ→aDU fs B listed a ac w→wpAny P md ops Q' g listed ac w) :
  ∀(f:Nat) (listed:Array Bool) (a ac:Act) (w:World) (Φ:Fact),HeadInv md ops m listed→C w→cA Φ→Φ w→aDU fs B listed a ac w→jH P md ops C (fs.map (·.n)) m ks L f listed a Φ→wpAny P md ops Q' (f+g) listed ac w:=by
 intro f
 induction f with
 |zero=>intro listed a ac w Φ inv hw hst hp hr h;rw[Nat.zero_add];exact hL _ _ _ _ _ inv hw hp h hr
 |succ f ih=>
  intro listed a ac w Φ inv hw hst hp hr h;rw[show f+1+g=(f+g)+1 by omega]
  refine⟨fun h0=>absurd h0 h.1,fun i hi=>?_⟩
  obtain⟨him,h1⟩:=h.2 i hi;have hun:=(mem_ready.1 hi).1;obtain⟨bs,⟨hbs,hnd1,hnd2⟩,hlst,hall,rfl⟩:=hr;by_cases hin:i∈fs.map (·.n)
  ·unfold cOp at h1
   rw[if_pos hin]at h1;obtain⟨F,hF,rfl⟩:=List.mem_map.1 hin;obtain⟨_,oa,ho,hd,hgd,hrun,_⟩:=hfl F hF;unfold wpOp;simp only[ho];rw[if_pos (by simp[Region.wanted,hgd])]
   refine .inl ?_
   unfold Oper.wp;rw[hrun];show wpAny P md ops Q' (f+g) (listed.setIfInBounds F.n true) ((fP bs a).put oa.dst (.pointer (some ⟨w.heap.size,0,none⟩))) (w.alloc (.cells F.zs F.t))
   rw[hd];have hba:Below w.heap.size w (w.alloc (.cells F.zs F.t)):=(Below.refl _ _).alloc (Nat.le_refl _) _;refine ih _ a _ _ Φ (inv.set hi him) (hCl _ _ hw hba) hst (hst _ _ hp hba) ⟨(F,w.heap.size)::bs,⟨fun p hp'=>?_,?_,?_⟩,fun p hp'=>?_,fun f' hf' hl'=>?_,rfl⟩ h1
   ·rcases List.mem_cons.1 hp' with rfl|hp'
    ·exact⟨hF,hCB _ hw,BK.new w _ _⟩
    ·obtain⟨q1,q2,q3⟩:=hbs p hp'
     exact⟨q1,q2,q3.alloc _⟩
   ·rw[List.map_cons]
    refine List.nodup_cons.2 ⟨fun hmem=>?_,hnd1⟩
    obtain⟨p,hp',hpe⟩:=List.mem_map.1 hmem;have:=hlst p hp';rw[hpe,getD_both hun]at this;cases this
   ·rw[List.map_cons]
    refine List.nodup_cons.2 ⟨fun hmem=>?_,hnd2⟩
    obtain⟨p,hp',hpe⟩:=List.mem_map.1 hmem;have:=(hbs p hp').2.2.lt;simp only at hpe;omega
   ·rcases List.mem_cons.1 hp' with rfl|hp'
    ·simp[inv.size];omega
    ·exact getD_set_true (hlst p hp')
   ·rw[List.map_cons]
    by_cases he:F.n=f'.n
    ·rw[he];exact List.mem_cons_self ..
    ·rw[getD_set_ne false he]at hl'
     exact List.mem_cons_of_mem _ (hall f' hf' hl')
  ·have key:∀a' w' Φ',C w'→cA Φ'→Φ' w'→Below w.heap.size w w'→jH P md ops C (fs.map (·.n)) m ks L f (listed.setIfInBounds i true) a' Φ'→wpAny P md ops Q' (f+g) (listed.setIfInBounds i true) (fP bs a') w':=by
    intro a' w' Φ' hw' hst' hp' hb h2;refine ih _ a' _ w' Φ' (inv.set hi him) hw' hst' hp' ⟨bs,⟨fun p hp=>?_,hnd1,hnd2⟩,fun p hp=>getD_set_true (hlst p hp),fun f' hf' hl'=>?_,rfl⟩ h2
    ·obtain⟨q1,q2,q3⟩:=hbs p hp
     exact⟨q1,q2,q3.below hb q3.lt⟩
    ·rw[getD_set_ne false (fun e:i=f'.n=>hin (List.mem_map.2 ⟨f',hf',e.symm⟩))]at hl'
     exact hall f' hf' hl'
   unfold cOp at h1;rw[if_neg hin]at h1;unfold wpOp;cases ho:ops[i]? with
   |none=>
    simp only[ho]at h1 ⊢;exact key a w Φ hw hst hp (Below.refl _ _) h1
   |some o=>
    simp only[ho]at h1 ⊢;have hapart:∀p∈bs,p.1.d∉o.looksAt ops∧o.dst≠some p.1.d:=fun p hp=>by
     obtain⟨q1,_,_⟩:=hbs p hp;obtain⟨_,oa,_,hd,_,_,hap⟩:=hfl p.1 q1;obtain⟨p1,p2,_⟩:=Oper.apart_spec (hap i o ho him (fun e=>hin (List.mem_map.2 ⟨p.1,q1,e.symm⟩)))
     exact⟨p1 _ hd,p2 _ hd⟩
    have hpe:execOp (fP bs a).eval o=execOp a.eval o:=sA (fun cs q=>hsel i o cs q ho) bs a (fun p hp=>(hapart p hp).1)
    have hpw:Region.wanted o (yielded ops (fP bs a).tmps)=Region.wanted o (yielded ops a.tmps):=nR bs a (fun p hp=>(hapart p hp).1)
    have hpp:∀v,fP bs (a.put o.dst v)=(fP bs a).put o.dst v:=fun v=>wA bs a (fun p hp=>(hapart p hp).2)
    rw[hpw];by_cases hw':Region.wanted o (yielded ops a.tmps)=true
    ·rw[if_pos hw']at h1 ⊢
     refine .inl ?_
     by_cases hik:i∈ks
     ·rw[if_pos hik]at h1
      have h2:=h1 w hw hp;unfold callAt at h2;rw[←hpe]at h2;refine pX (P:=P) (o:=o) (a:=fP bs a) h2 (fun v w' ⟨q1,Φ',q2,q3,q4,q5⟩=>?_)
      rw[←hpp v];exact key _ w' Φ' (hCl _ _ hw q1) q2 q4 q1 q5
     ·rw[if_neg hik]at h1
      obtain⟨v,h2,h3⟩:=h1;have h4:=h2 w hw;unfold qAt at h4;rw[←hpe]at h4;refine zQ (P:=P) (o:=o) (a:=fP bs a) h4 ?_
      rw[←hpp v];exact key _ w Φ hw hst hp (Below.refl _ _) h3
    ·rw[if_neg hw']at h1 ⊢
     rw[←hpp undef];exact key _ w Φ hw hst hp (Below.refl _ _) h1
def tL:List Nat→Bool
 |i::j::l=>decide (i<j)&&tL (j::l)
 |_=>true
theorem tM:∀(l:List Nat) (i:Nat),tL (i::l)=true→∀j∈l,i<j
 | [],_,_,j,hj=>by cases hj
 |x::l,i,h,j,hj=>by
  simp only[tL,Bool.and_eq_true,decide_eq_true_eq]at h;rcases List.mem_cons.1 hj with rfl|hj
  ·exact h.1
  ·have:=tM l x h.2 j hj;omega
theorem sB (i:Nat) (l:List Nat) (h:tL (i::l)=true):tL l=true:=by
 cases l with
 |nil=>rfl
 |cons j l=>simp only[tL,Bool.and_eq_true]at h;exact h.2
theorem gS:∀(ks:List Nat),tL ks=true→∀A B i j,ks=A++i::B→j∈A→j<i
 | [],_,A,B,i,j,e,hj=>by simp at e
 |x::ks,h,A,B,i,j,e,hj=>by
  rcases A with _|⟨y,A⟩
  ·cases hj
  ·simp at e
   obtain⟨rfl,e⟩:=e;rcases List.mem_cons.1 hj with rfl|hj
   ·exact tM ks j h i (by rw[e];simp)
   ·exact gS ks (sB x ks h) A B i j e hj
theorem fM:∀(ks:List Nat),tL ks=true→ks.Nodup
 | [],_=>List.nodup_nil
 |x::ks,h=>List.nodup_cons.2 ⟨fun hm=>by have:=tM ks x h x hm;omega,fM ks (sB x ks h)⟩
def okB (md:Region.Mode) (ops:Array Oper) (m:Nat) (ks:List Nat):Bool:=Region.lexTailB md ops m&&(iJ md ops ks&&tL ks)
theorem wpC_end {ns:List Nat} {ks:List Nat} {L L':Act→Fact→Prop} (h:∀a Φ,L a Φ→L' a Φ):∀(l:List Oper) (k:Nat) (a:Act) (Φ:Fact),wpC P ops C ns ks L k l a Φ→wpC P ops C ns ks L' k l a Φ
 | [],_,a,Φ,hh=>h a Φ hh
 |o::l,k,a,Φ,hh=>by
  unfold wpC at hh ⊢
  split
  ·rename_i h1;rw[if_pos h1]at hh;exact wpC_end h l _ a Φ hh
  ·rename_i h1
   rw[if_neg h1]at hh
   split
   ·rename_i h2
    rw[if_pos h2]at hh
    split
    ·rename_i h3
     rw[if_pos h3]at hh;exact fun w q1 q2=>callAt_mono (fun v w' ⟨p1,Φ',p2,p3,p4,p5⟩=>⟨p1,Φ',p2,p3,p4,wpC_end h l _ _ _ p5⟩) (hh w q1 q2)
    ·rename_i h3
     rw[if_neg h3]at hh;obtain⟨v,p1,p2⟩:=hh;exact⟨v,p1,wpC_end h l _ _ _ p2⟩
   ·rename_i h2
    rw[if_neg h2]at hh;exact wpC_end h l _ _ _ hh
theorem kG {id:Nat} {Q:Exit→Act→World→Prop} {a:Act} {w:World} {l:List Oper} (m:Nat) (fs:List FS) (ks:List Nat) (hm:P.follows .mixedOrders=true)
  (hB:okB .any l.toArray m ks=true) (hfl:∀f∈fs,aBx P l.toArray m f)
  (h:wpC P l.toArray (fun w'=>∃p:Regrown,w'=grow (redrawn w p.d) p.os) (fs.map (·.n)) ks (fun a' Φ=>∀w',Below w.heap.size w w'→Φ w'→∀bs,aER fs w.heap.size w' bs→(∀f∈fs,f.n∈bs.map (·.1.n))→wpList P l.toArray Q (l.drop m) (fP bs a') w') 0 (l.take m) a (fun _=>True)) :
  (Code.region id l.toArray true).wp P Q a w:=by
 simp only[okB,Region.lexTailB,Bool.and_eq_true,decide_eq_true_eq]at hB;obtain⟨⟨⟨⟨⟨hsel,hn⟩,hs⟩,hc⟩,hlex⟩,hch,hin⟩:=hB;have hn':m<l.length:=by simpa using hn
 have htl:(l.take m).length=m:=by simp;omega
 have hdl:(l.drop m).length=l.toArray.size-m:=by simp
 have hCl:∀w1 w2:World,(∃p:Regrown,w1=grow (redrawn w p.d) p.os)→Below w1.heap.size w1 w2→∃p:Regrown,w2=grow (redrawn w p.d) p.os:=
  fun w1 w2 ⟨p,hp⟩ hb=>by subst hp;exact regrown_of_below ((below_regrown w p.d p.os).trans (hb.mono (below_regrown w p.d p.os).size))
 have inv0:HeadInv .any l.toArray m (Array.replicate l.toArray.size false):=
  ⟨by simp,fun j oj _ hl=>(by rw[getD_replicate_false]at hl;cases hl),fun t _ ht=>getD_in (by simpa using ht) (getD_replicate_false _ _)⟩
 have H:=rZ (md:=.any) (g:=l.toArray.size-m) hCl hsel hs hc hn hch (fM ks hin) (gS ks hin) (l.take m) 0 _ a (fun _=>True) (fun j hj=>by
  have hj':j<m:=by rw[htl]at hj;exact hj
  simp[hj']) (by simpa using htl) inv0 (fun _ _ _ _=>trivial) ⟨w,⟨⟨w.drawn,#[]⟩,by rw[grow_empty];rfl⟩,trivial⟩ (fun j hj=>by omega) (by rw[htl];exact hlex) h
 refine wp_region_any hm ?_
 have:=pY (Q':=Q) (g:=l.toArray.size-m) (B:=w.heap.size) hn (Region.noSelect_spec hsel) hfl hCl
  (fun w1 ⟨p,hp⟩=>by subst hp;exact(below_regrown w p.d p.os).size)
  (fun listed a' ac w' Φ inv hw' hp hL hr=>by
   obtain⟨hL1,hL2⟩:=hL;obtain⟨p,hp'⟩:=hw';obtain⟨bs,hmade,_,hall,rfl⟩:=hr;have hin:∀f∈fs,f.n∈bs.map (·.1.n):=fun f hf=>by
    cases e:listed.getD f.n false with
    |true=>exact hall f hf e
    |false=>
     exfalso
     have hnm:=(hfl f hf).1;have hun:listed.getD f.n true=false:=getD_in (by have:=inv.size;omega) e
     have hB1:=hL1;have hsz:l.toArray.size-m=(l.toArray.size-(m+1))+1:=by omega
     rw[hsz]at hB1;simp only[Region.seqB,Bool.and_eq_true,decide_eq_true_eq]at hB1;exact tail_waits hs hc hn inv _ f.n rfl hnm hun m (Nat.le_refl _) (by rw[hB1.1];simp)
   have:=wpAny_of_seq (md:=.any) (Q':=Q) (l.drop m) m listed (fP bs a') w' (fun j=>by simp[List.getElem?_drop]) (by rw[hdl];exact hL1) (hL2 w' (by rw[hp'];exact below_regrown w p.d p.os) hp bs hmade hin)
   rwa [hdl]at this) _ _ _ _ _ (fun _=>True) inv0 ⟨⟨w.drawn+1,#[]⟩,by rw[grow_empty]⟩ (fun _ _ _ _=>trivial) trivial ⟨[],⟨fun p hp=>(by cases hp),List.nodup_nil,List.nodup_nil⟩,fun p hp=>(by cases hp),fun f _ hl=>(by rw[getD_replicate_false]at hl;cases hl),rfl⟩ H
 rw[htl,show m+(l.toArray.size-m)=l.toArray.size by omega]at this
 exact this
theorem aM {id:Nat} {Q:Exit→Act→World→Prop} {a:Act} {w:World} {l:List Oper} (m:Nat) (ks:List Nat) (hm:P.follows .mixedOrders=true) (hB:okB .any l.toArray m ks=true)
  (h:wpC P l.toArray (fun w'=>∃p:Regrown,w'=grow (redrawn w p.d) p.os) [] ks (fun a' Φ=>∀w',Below w.heap.size w w'→Φ w'→wpList P l.toArray Q (l.drop m) a' w') 0 (l.take m) a (fun _=>True)) :
  (Code.region id l.toArray true).wp P Q a w:=by
 refine kG m [] ks hm hB (fun f hf=>(by cases hf)) ?_
 refine wpC_end (fun a' Φ h w' h1 h2 bs h3 _=>?_) _ _ _ _ h
 have:bs=[]:=by
  cases bs with
  |nil=>rfl
  |cons p bs=>exact absurd (h3.1 p (List.mem_cons_self ..)).1 (by simp)
 subst this;exact h w' h1 h2
def aBy (ops:Array Oper) (m n:Nat) (oa:Oper):Bool:=(List.range m).all fun j=>j == n||(match ops[j]? with|some o=>oa.apart ops o|none=>true)
theorem wB {m n:Nat} {oa:Oper} (h:aBy ops m n oa=true):∀j oj,ops[j]?=some oj→j<m→j≠n→oa.apart ops oj=true:=fun j oj hj hjm hjn=>by
 have:=(List.all_eq_true.1 h) j (List.mem_range.2 hjm);simpa[hjn,hj]using this
theorem qO {id:Nat} {Q:Exit→Act→World→Prop} {a:Act} {w:World} {l:List Oper} (m n:Nat) (ks:List Nat) (t:TypeId) (zs:Array Value) (d:Tmp) (oa:Oper) (hm:P.follows .mixedOrders=true) (hnm:n<m)
  (hoa:l.toArray[n]?=some oa) (hda:oa.dst=some d) (hga:oa.guard=none) (hrun:∀(a:Act) (w:World),(execOp a.eval oa).run P w = .ok (.value (.pointer (some ⟨w.heap.size,0,none⟩))) (w.alloc (.cells zs t)))
  (hB:(okB .any l.toArray m ks&&aBy l.toArray m n oa)=true)
  (h:wpC P l.toArray (fun w'=>∃p:Regrown,w'=grow (redrawn w p.d) p.os) [n] ks (fun a' Φ=>∀b w',Below w.heap.size w w'→Φ w'→w.heap.size≤b→BK w' b t zs→wpList P l.toArray Q (l.drop m) (a'.put (some d) (.pointer (some ⟨b,0,none⟩))) w') 0 (l.take m) a (fun _=>True)) :
  (Code.region id l.toArray true).wp P Q a w:=by
 simp only[Bool.and_eq_true]at hB;refine kG m [⟨n,d,t,zs⟩] ks hm hB.1 (fun f hf=>?_) ?_
 ·simp only[List.mem_singleton]at hf
  subst hf;exact⟨hnm,oa,hoa,hda,hga,hrun,wB hB.2⟩
 ·refine wpC_end (fun a' Φ h w' h1 h2 bs h3 h4=>?_) _ _ _ _ h
  obtain⟨h5,h6,h7⟩:=h3
  match bs,h4,h5,h6,h7 with
  | [],h4,_,_,_=>exact absurd (h4 _ (List.mem_cons_self ..)) (by simp)
  | [(f,b)],_,h5,_,_=>
   obtain⟨q1,q2,q3⟩:=h5 _ (List.mem_cons_self ..);simp only[List.mem_singleton]at q1;subst q1;exact h b w' h1 h2 q2 q3
  |p::q::bs,_,h5,h6,_=>
   exfalso
   have e1:=(h5 p (by simp)).1
   have e2:=(h5 q (by simp)).1
   simp only[List.mem_singleton]at e1 e2;simp[e1,e2]at h6
variable {k:Nat} {ns ks:List Nat} {Lq:Act→Fact→Prop} {o:Oper} {rest:List Oper} {a:Act} {Φ:Fact}
theorem bI (h:Lq a Φ):wpC P ops C ns ks Lq k [] a Φ:=h
theorem aH (h1:k∉ns) (h2:k∉ks) (h:∀K:Act→Prop,(∀a,wpC P ops C ns ks Lq (k+1) rest a Φ→K a)→if Region.wanted o (yielded ops a.tmps) then (∃v,(∀w,C w→qAt P o a w v)∧K (a.put o.dst v)) else K (a.put o.dst undef)) :
  wpC P ops C ns ks Lq k (o::rest) a Φ:=by
 unfold wpC;rw[if_neg h1];have:=h _ (fun _ h=>h)
 by_cases hw:Region.wanted o (yielded ops a.tmps)=true
 ·rw[if_pos hw]at this
  rw[if_pos hw,if_neg h2];exact this
 ·rw[if_neg hw]at this
  rw[if_neg hw];exact this
theorem aES (h1:k∈ns) (h:wpC P ops C ns ks Lq (k+1) rest a Φ):wpC P ops C ns ks Lq k (o::rest) a Φ:=by
 unfold wpC;rw[if_pos h1];exact h
theorem fZ {ι:Type} (f:FuncId) (args:Array Value) (v:ι→Value) (G:ι→Fact) (h1:k∉ns) (h2:k∈ks) (hg:o.guard=none) (hx:∀w,(execOp a.eval o).run P w = .ok (.enter f args) w) (hst:cA Φ) (hG:∀i,cA (G i))
  (hc:∀w,C w→Φ w→Calls P f args w (fun e w'=>∃i,e = .returned (v i)∧G i w'∧Below w.heap.size w w')) (h:∀i,cA (fun x=>Φ x∧G i x)→wpC P ops C ns ks Lq (k+1) rest (a.put o.dst (v i)) (fun x=>Φ x∧G i x)) :
  wpC P ops C ns ks Lq k (o::rest) a Φ:=by
 unfold wpC;rw[if_neg h1,if_pos (by simp[Region.wanted,hg]),if_pos h2]
 intro w hw hp;unfold callAt;rw[hx];refine⟨rfl,(hc w hw hp).mono ?_⟩
 rintro e w' ⟨i,rfl,h3,h4⟩;have hs:cA (fun x=>Φ x∧G i x):=fun x y hxy hb=>⟨hst x y hxy.1 hb,hG i x y hxy.2 hb⟩
 exact⟨_,rfl,h4,_,hs,fun x hx=>hx.1,⟨hst w w' hp h4,h3⟩,h i hs⟩
theorem bF {ι:Type} (f:FuncId) (args:Array Value) (v:ι→Value) (G:ι→Fact) (h1:k∉ns) (h2:k∈ks) (hg:Region.wanted o (yielded ops a.tmps)=true) (hx:∀w,(execOp a.eval o).run P w = .ok (.enter f args) w) (hst:cA Φ) (hG:∀i,cA (G i))
  (hc:∀w,C w→Φ w→Calls P f args w (fun e w'=>∃i,e = .returned (v i)∧G i w'∧Below w.heap.size w w')) (h:∀i,cA (fun x=>Φ x∧G i x)→wpC P ops C ns ks Lq (k+1) rest (a.put o.dst (v i)) (fun x=>Φ x∧G i x)) :
  wpC P ops C ns ks Lq k (o::rest) a Φ:=by
 unfold wpC;rw[if_neg h1,if_pos hg,if_pos h2];intro w hw hp;unfold callAt;rw[hx];refine⟨rfl,(hc w hw hp).mono ?_⟩
 rintro e w' ⟨i,rfl,h3,h4⟩;have hs:cA (fun x=>Φ x∧G i x):=fun x y hxy hb=>⟨hst x y hxy.1 hb,hG i x y hxy.2 hb⟩
 exact⟨_,rfl,h4,_,hs,fun x hx=>hx.1,⟨hst w w' hp h4,h3⟩,h i hs⟩
theorem aDV {ι:Type} (v:ι→Value) (G:ι→Fact) (h1:k∉ns) (h2:k∈ks) (hg:o.guard=none) (hst:cA Φ) (hG:∀i,cA (G i))
  (hc:∀w,C w→Φ w→∃i w',(execOp a.eval o).run P w = .ok (.value (v i)) w'∧G i w'∧Below w.heap.size w w') (h:∀i,cA (fun x=>Φ x∧G i x)→wpC P ops C ns ks Lq (k+1) rest (a.put o.dst (v i)) (fun x=>Φ x∧G i x)) :
  wpC P ops C ns ks Lq k (o::rest) a Φ:=by
 unfold wpC;rw[if_neg h1,if_pos (by simp[Region.wanted,hg]),if_pos h2]
 intro w hw hp;unfold callAt;obtain⟨i,w',hx,h3,h4⟩:=hc w hw hp;rw[hx];have hs:cA (fun x=>Φ x∧G i x):=fun x y hxy hb=>⟨hst x y hxy.1 hb,hG i x y hxy.2 hb⟩
 exact⟨h4,_,hs,fun x hx=>hx.1,⟨hst w w' hp h4,h3⟩,h i hs⟩
theorem aB:cA (fun _=>True):=fun _ _ _ _=>trivial
theorem mY {α:Type} (f:α→List Value) (sz:Nat) (e:TypeId) (base:Nat) (A:Option Addr) (n c:Nat) (xs:List α):cA (fun w=>OW f sz e base w A n c xs):=fun _ _ h hb=>h.call hb
end
attribute [go_sem] qAt nQ
end Go.Proofs.YtjlkeoppppfeiaaGreat
namespace Go.Proofs.YtjlkeoppppfeiaaGreat
open Go.RowKit Go.Sort
section
variable {P:Program} {ops:Array Oper} {md:Region.Mode} {C:World→Prop} {lp mr:Nat}
theorem wC {o:Oper} {a:Act} {v:Value} {K':Act→World→Prop} {Q':Exit→Act→World→Prop} {w w':World} (hd:∀c,o.op≠.defer c) (h1:(execOp a.eval o).run P w = .ok (.value v) w') (h:K' (a.put o.dst v) w'):o.wpIn (Fence.wide.inRound lp) mr P a w K' Q':=by
 refine⟨fun _ _=>trivial,?_⟩
 rw[Oper.semAt_eq _ _ _ hd,h1];exact h
theorem sC {o:Oper} {a:Act} {v:Value} {K':Act→World→Prop} {Q':Exit→Act→World→Prop} {w:World} (hd:∀c,o.op≠.defer c) (h1:qAt P o a w v) (h:K' (a.put o.dst v) w):o.wpIn (Fence.wide.inRound lp) mr P a w K' Q':=by
 refine⟨fun _ _=>trivial,?_⟩
 rw[Oper.semAt_eq _ _ _ hd];unfold qAt at h1
 generalize (execOp a.eval o).run P w=r at *
 cases r with
 |ok n w'=>
  cases n<;>simp only[nQ]at h1<;>simp only[Oper.uponIn]
  ·rw[h1.1,h1.2];exact h
  ·rw[h1.1,←h1.2];exact h
 |halt x w'=>simp only[nQ]at h1
theorem tN {o:Oper} {a:Act} {R:Value→World→Prop} {K':Act→World→Prop} {Q':Exit→Act→World→Prop} {w:World} (hd:∀c,o.op≠.defer c) (h1:callAt P o a w R) (h:∀v w',R v w'→K' (a.put o.dst v) w'):o.wpIn (Fence.wide.inRound lp) mr P a w K' Q':=by
 refine⟨fun _ _=>trivial,?_⟩
 rw[Oper.semAt_eq _ _ _ hd];unfold callAt at h1
 generalize (execOp a.eval o).run P w=r at *
 cases r with
 |ok n w'=>
  cases n<;>simp only[lZ]at h1<;>simp only[Oper.uponIn]
  case value=>exact h _ _ h1
  case enter f args=>
   obtain⟨e1,hc⟩:=h1;rw[e1];refine⟨(fun q=>by cases q),CallsIn.inRound lp (callsIn_wide.2 (hc.mono ?_))⟩
   rintro e w'' ⟨v,he,hr⟩;subst he;exact h _ _ hr
 |halt x w'=>simp only[lZ]at h1
end
section
variable {P:Program} {ops:Array Oper} {md:Region.Mode} {C:World→Prop} {m:Nat}
theorem wpWIn_of_quiet {o:Oper} {a:Act} {K:Act→Prop} {K':Act→World→Prop} {Q':Exit→Act→World→Prop} {w:World} (hd:∀c,o.op≠.defer c) (hw:C w) (h:∀a w',C w'→K a→K' a w') (hh:o.quiet P a C K) :
  o.wpIn Fence.wide m P a w K' Q':=by
 obtain⟨v,h1,h2⟩:=hh;have h3:=h1 w hw;unfold Oper.quietAt at h3;refine⟨fun _ _=>trivial,?_⟩
 rw[Oper.semAt_eq _ _ _ hd]
 generalize (execOp a.eval o).run P w=r at *
 cases r with
 |ok n w'=>
  cases n<;>simp only[Oper.quietUpon]at h3<;>simp only[Oper.uponIn]
  case value u=>
   obtain⟨e1,e2⟩:=h3;rw[e1,e2];exact h _ _ hw h2
  case skip=>
   obtain⟨e1,e2⟩:=h3;rw[e1,←e2];exact h _ _ hw h2
  case enter f args=>
   obtain⟨e1,hc⟩:=h3;rw[e1];refine⟨(fun q=>by cases q),callsIn_wide.2 (hc.mono ?_)⟩
   rintro e w'' ⟨he,hw''⟩;subst he;exact h _ _ hw'' h2
 |halt x w'=>simp only[Oper.quietUpon]at h3
theorem pZ {i:Nat} {a:Act} {K:Act→Prop} {K':Act→World→Prop} {Q':Exit→Act→World→Prop} {w:World} (hd:∀(j:Nat) (o:Oper) c,ops[j]?=some o→o.op≠.defer c) (hC:C w) (h:∀a w',C w'→K a→K' a w') (hh:qOp P ops C i K a) :
  wpOpIn Fence.wide m P ops Q' i K' a w:=by
 unfold qOp at hh;unfold wpOpIn
 split
 ·rename_i ho;simp only[ho]at hh;exact h _ _ hC hh
 ·rename_i o ho
  simp only[ho]at hh
  split
  ·rename_i hw;simp only[hw,if_true]at hh;exact wpWIn_of_quiet (fun c=>hd i o c ho) hC h hh
  ·rename_i hw;simp only[hw]at hh;exact⟨fun _ _=>trivial,h _ _ hC hh⟩
theorem eV {n g:Nat} {L:Array Bool→Act→Prop} {Q':Exit→Act→World→Prop} (hd:∀(j:Nat) (o:Oper) c,ops[j]?=some o→o.op≠.defer c) (hL:∀listed a w,C w→L listed a→wpAnyIn Fence.wide m P md ops Q' g listed a w) :
  ∀(f:Nat) (listed:Array Bool) (a:Act) (w:World),C w→iH P md ops C n L f listed a→wpAnyIn Fence.wide m P md ops Q' (f+g) listed a w
 |0,listed,a,w,hw,h=>by rw[Nat.zero_add];exact hL _ _ _ hw h
 |f+1,listed,a,w,hw,h=>by
  rw[show f+1+g=(f+g)+1 by omega]
  exact⟨fun h0=>absurd h0 h.1,fun i hi=>pZ hd hw (fun a' w' hw' h'=>eV hd hL f _ a' w' hw' h') (h.2 i hi).2⟩
theorem gU {id:Nat} {Q:Exit→Act→World→Prop} {a:Act} {w:World} {l:List Oper} (n:Nat) (hm:P.follows .mixedOrders=true) (hB:(Region.lexTailB .any l.toArray n&&fY l.toArray)=true) (hC:C { w with drawn:=w.drawn+1 })
  (h:wpQuiet P l.toArray C (fun a'=>∀w',C w'→wpListIn Fence.wide m P l.toArray Q (l.drop n) a' w') (l.take n) a):(Code.region id l.toArray true).wpIn Fence.wide m P Q a w:=by
 simp only[Region.lexTailB,Bool.and_eq_true,decide_eq_true_eq]at hB;obtain⟨⟨⟨⟨⟨hsel,hn⟩,hs⟩,hc⟩,hlex⟩,hnd⟩:=hB;have hn':n<l.length:=by simpa using hn
 have htl:(l.take n).length=n:=by simp;omega
 have hdl:(l.drop n).length=l.toArray.size-n:=by simp
 have inv0:HeadInv .any l.toArray n (Array.replicate l.toArray.size false):=
  ⟨by simp,fun j oj _ hl=>(by rw[getD_replicate_false]at hl;cases hl),fun t _ ht=>getD_in (by simpa using ht) (getD_replicate_false _ _)⟩
 have H:=fX (md:=.any) (g:=l.toArray.size-n) hsel hs hc hn (l.take n) 0 _ a (fun j hj=>by
  have hj':j<n:=by rw[htl]at hj;exact hj
  simp[hj']) (by simpa using htl) inv0 (by rw[htl];exact hlex) h
 refine wpIn_region_any hm ?_
 have:=eV (Q':=Q) (g:=l.toArray.size-n) (m:=m) (fB hnd) (fun listed a' w' hw' hL=>by
  have:=dB (md:=.any) (Q':=Q) (l.drop n) n listed a' w' (fun j=>by simp[List.getElem?_drop]) (by rw[hdl];exact hL.1) (hL.2 w' hw')
  rwa [hdl]at this) _ _ _ _ hC H
 rw[htl,show n+(l.toArray.size-n)=l.toArray.size by omega]at this
 exact this
theorem iP {id:Nat} {Q:Exit→Act→World→Prop} {a:Act} {w:World} {l:List Oper} (n:Nat) (hm:P.follows .mixedOrders=true) (hB:(Region.lexTailB .any l.toArray n&&fY l.toArray)=true)
  (h:wpQuiet P l.toArray (fun w'=>∃p:Regrown,w'=grow (redrawn w p.d) p.os) (fun a'=>∀w',Below w.heap.size w w'→wpListIn Fence.wide m P l.toArray Q (l.drop n) a' w') (l.take n) a) :
  (Code.region id l.toArray true).wpIn Fence.wide m P Q a w:=
 gU (C:=fun w'=>∃p:Regrown,w'=grow (redrawn w p.d) p.os) n hm hB ⟨⟨w.drawn+1,#[]⟩,by rw[grow_empty];rfl⟩ (wpQuiet_mono (fun a' h w' ⟨p,hp⟩=>h w' (by rw[hp];exact below_regrown w p.d p.os)) h)
end
theorem gV {w w':World} (h:Below w.heap.size w w'):w.grownBy w' none:=⟨h.os,h.tape,h.output,h.size,fun i hi _=>h.block i hi⟩
end Go.Proofs.YtjlkeoppppfeiaaGreat
namespace Go.Proofs.YtjlkeoppppfeiaaGreat
open Go.RowKit Go.Sort
section
variable {P:Program} {ops:Array Oper} {md:Region.Mode} {C:World→Prop} {st:Fact→Prop} {G:Nat→Act→Prop}
def zR (st:Fact→Prop) (Φ:Fact) (w:World) (dst:Option Tmp) (a:Act) (K:Act→Fact→Prop) (v:Value) (w':World):Prop:=
 Below w.heap.size w w'∧∃Φ':Fact,st Φ'∧(∀x,Φ' x→Φ x)∧Φ' w'∧K (a.put dst v) Φ'
def cOpG (P:Program) (ops:Array Oper) (C:World→Prop) (st:Fact→Prop) (G:Nat→Act→Prop) (ns:List Nat) (ks:List Nat) (i:Nat) (K:Act→Fact→Prop) (a:Act) (Φ:Fact):Prop:=
 if i∈ns then G i a∧K a Φ else
 match ops[i]? with
 |none=>K a Φ
 |some o=>
  if Region.wanted o (yielded ops a.tmps) then
   if i∈ks then ∀w,C w→Φ w→callAt P o a w (zR st Φ w o.dst a K)
   else ∃v,(∀w,C w→qAt P o a w v)∧K (a.put o.dst v) Φ
  else K (a.put o.dst undef) Φ
theorem sD {ns:List Nat} {i:Nat} {ks:List Nat} (hCl:∀w w',C w→Below w.heap.size w w'→C w') {a:Act} {Φ:Fact} {K K':Act→Fact→Prop} (hst:st Φ) (hex:∃w,C w∧Φ w)
  (h:∀a Φ,st Φ→(∃w,C w∧Φ w)→K a Φ→K' a Φ) (hh:cOpG P ops C st G ns ks i K a Φ):cOpG P ops C st G ns ks i K' a Φ:=by
 unfold cOpG at *;by_cases hin:i∈ns
 ·rw[if_pos hin]at *;exact⟨hh.1,h _ _ hst hex hh.2⟩
 rw[if_neg hin]at *
 split
 ·exact h _ _ hst hex (by simpa[*]using hh)
 ·rename_i o ho
  simp only[ho]at hh;by_cases hw:Region.wanted o (yielded ops a.tmps)=true
  ·rw[if_pos hw]at hh ⊢
   by_cases hk:i∈ks
   ·rw[if_pos hk]at hh ⊢
    exact fun w hc hp=>callAt_mono (fun v w' ⟨h1,Φ',h2,h3,h4,h5⟩=>⟨h1,Φ',h2,h3,h4,h _ _ h2 ⟨w',hCl _ _ hc h1,h4⟩ h5⟩) (hh w hc hp)
   ·rw[if_neg hk]at hh ⊢
    obtain⟨v,h1,h2⟩:=hh;exact⟨v,h1,h _ _ hst hex h2⟩
  ·rw[if_neg hw]at hh ⊢
   exact h _ _ hst hex hh
theorem Qyields.cOpG {ns:List Nat} {i:Nat} {ks:List Nat} {o:Oper} {v:Value} {a:Act} {Φ:Fact} (hin:i∉ns) (hk:i∉ks) (hi:ops[i]?=some o) (hy:Qyields P ops C o v a) {K:Act→Fact→Prop} (h:K (a.put o.dst v) Φ):cOpG P ops C st G ns ks i K a Φ:=by
 unfold Go.Proofs.YtjlkeoppppfeiaaGreat.cOpG;rw[if_neg hin];simp only[hi];rcases hy with⟨hw,hv⟩|⟨hw,rfl⟩
 ·rw[if_pos hw,if_neg hk];exact⟨v,hv,h⟩
 ·rw[if_neg (by rw[hw];simp)];exact h
theorem dN {ns:List Nat} {i:Nat} {ks:List Nat} {o:Oper} {a:Act} {Φ:Fact} {K:Act→Fact→Prop} (hin:i∉ns) (hk:i∉ks) (hi:ops[i]?=some o) (h:cOpG P ops C st G ns ks i K a Φ):∃v,Qyields P ops C o v a∧K (a.put o.dst v) Φ:=by
 unfold cOpG at h;rw[if_neg hin]at h;simp only[hi]at h;by_cases hw:Region.wanted o (yielded ops a.tmps)=true
 ·rw[if_pos hw,if_neg hk]at h
  obtain⟨v,h1,h2⟩:=h;exact⟨v,.inl ⟨hw,h1⟩,h2⟩
 ·rw[if_neg hw]at h
  exact⟨undef,.inr ⟨by simpa using hw,rfl⟩,h⟩
theorem aBz (hG:∀i oi,ops[i]?=some oi→∀(a:Act) (d:Option Tmp) (v:Value),(∀t,d=some t→t∉oi.looksAt ops)→(G i (a.put d v)↔G i a)) {ns:List Nat} {j:Nat} {ks:List Nat} {oi oj:Oper} {v:Value} (hj:ops[j]?=some oj) (hap:oi.apart ops oj=true)
  (hsi:∀cs b,oi.op≠.select cs b) (hsj:∀cs b,oj.op≠.select cs b) {K:Act→Fact→Prop} {a:Act} {Φ:Fact}
  (hy:Qyields P ops C oi v a) (h:cOpG P ops C st G ns ks j K (a.put oi.dst v) Φ) :
  cOpG P ops C st G ns ks j (fun a' Φ'=>Qyields P ops C oi v a'∧K (a'.put oi.dst v) Φ') a Φ:=by
 obtain⟨h1,h2,h3⟩:=Oper.apart_spec hap;have keep:∀(a:Act),Qyields P ops C oi v a→∀u,Qyields P ops C oi v (a.put oj.dst u):=fun a hy u=>
  hy.of_same (execOp_put oi hsi a oj.dst u h3) (wanted_put oi a oj.dst u h3)
 unfold cOpG at *;by_cases hjn:j∈ns
 ·rw[if_pos hjn]at *;exact⟨(hG _ _ hj _ _ _ h1).1 h.1,hy,h.2⟩
 rw[if_neg hjn]at *;simp only[hj]at *;rw[wanted_put oj a oi.dst v h1]at h;by_cases hw:Region.wanted oj (yielded ops a.tmps)=true
 ·rw[if_pos hw]at h ⊢
  by_cases hk:j∈ks
  ·rw[if_pos hk]at h ⊢
   intro w hc hp;have:=h w hc hp;unfold callAt at *;rw[execOp_put oj hsj a oi.dst v h1]at this;refine callAt_mono (P:=P) (o:=oj) (a:=a) (fun u w' ⟨k1,Φ',k2,k3,k4,k5⟩=>⟨k1,Φ',k2,k3,k4,keep a hy u,by rw[←Act.put_comm a v u h2];exact k5⟩) this
  ·rw[if_neg hk]at h ⊢
   obtain⟨u,hu,hn⟩:=h;refine⟨u,fun w hw'=>?_,keep a hy u,by rw[←Act.put_comm a v u h2];exact hn⟩
   have:=hu w hw';unfold qAt at *
   rwa [execOp_put oj hsj a oi.dst v h1]at this
 ·rw[if_neg hw]at h ⊢
  exact⟨keep a hy _,by rw[←Act.put_comm a v undef h2];exact h⟩
def eM (P:Program) (md:Region.Mode) (ops:Array Oper) (C:World→Prop) (st:Fact→Prop) (G:Nat→Act→Prop) (ns:List Nat) (m:Nat) (ks:List Nat) (L:Array Bool→Act→Fact→Prop):Nat→Array Bool→Act→Fact→Prop
 |0,listed,a,Φ=>L listed a Φ
 |f+1,listed,a,Φ=>
  Region.ready md ops listed≠[]∧∀i∈Region.ready md ops listed,i<m∧cOpG P ops C st G ns ks i (eM P md ops C st G ns m ks L f (listed.setIfInBounds i true)) a Φ
theorem aAg (hG:∀i oi,ops[i]?=some oi→∀(a:Act) (d:Option Tmp) (v:Value),(∀t,d=some t→t∉oi.looksAt ops)→(G i (a.put d v)↔G i a)) {ns:List Nat} {i j:Nat} {ks:List Nat} {oi oj:Oper}
  (hi:ops[i]?=some oi) (hj:ops[j]?=some oj) (h3:∀d,oj.dst=some d→d∉oi.looksAt ops) {K:Act→Fact→Prop} {a:Act} {Φ:Fact} (hg:G i a) (h:cOpG P ops C st G ns ks j K a Φ) :
  cOpG P ops C st G ns ks j (fun a' Φ'=>G i a'∧K a' Φ') a Φ:=by
 have keep:∀(u:Value),G i (a.put oj.dst u):=fun u=>(hG i oi hi a oj.dst u h3).2 hg
 unfold cOpG at *;by_cases hjn:j∈ns
 ·rw[if_pos hjn]at *;exact⟨h.1,hg,h.2⟩
 rw[if_neg hjn]at *;simp only[hj]at *;by_cases hw:Region.wanted oj (yielded ops a.tmps)=true
 ·rw[if_pos hw]at h ⊢
  by_cases hk:j∈ks
  ·rw[if_pos hk]at h ⊢
   intro w hc hp;exact callAt_mono (P:=P) (o:=oj) (a:=a) (fun u w' ⟨k1,Φ',k2,k3,k4,k5⟩=>⟨k1,Φ',k2,k3,k4,keep u,k5⟩) (h w hc hp)
  ·rw[if_neg hk]at h ⊢
   obtain⟨u,hu,hn⟩:=h;exact⟨u,hu,keep u,hn⟩
 ·rw[if_neg hw]at h ⊢
  exact⟨keep _,h⟩
theorem tO (hG:∀i oi,ops[i]?=some oi→∀(a:Act) (d:Option Tmp) (v:Value),(∀t,d=some t→t∉oi.looksAt ops)→(G i (a.put d v)↔G i a)) {ns:List Nat} {m i:Nat} {ks:List Nat} {oi:Oper} {L:Array Bool→Act→Fact→Prop} (hCl:∀w w',C w→Below w.heap.size w w'→C w') (hi:ops[i]?=some oi) (hsel:∀(j:Nat) (o:Oper) cs b,ops[j]?=some o→o.op≠.select cs b)
  (hs:Region.sinkB md ops m=true) (hc:Region.chainB md ops m=true) (hn:m<ops.size) (hin:i<m)
  (hdone:∀listed a Φ,L listed a Φ→∀j∈Region.ready md ops listed,m≤j) :
  ∀(f:Nat) (listed:Array Bool) (a:Act) (Φ:Fact),HeadInv md ops m listed→st Φ→(∃w,C w∧Φ w) →
   (∀j oj,ops[j]?=some oj→j≠i→listed.getD j true=false→(∀e∈oj.after,Region.binds md e=true→e.on≠i)→oi.apart ops oj=true) →
   i∈Region.ready md ops listed→(i∈ks→∀j∈ks,j≠i→j∉Region.ready md ops listed) →
   (∀(L2:Array Bool),(∀q,listed.getD q false=true→L2.getD q false=true)→L2.getD i true=false→HeadInv md ops m L2→i∈ks→∀j∈ks,j≠i→j∉Region.ready md ops L2) →
   cOpG P ops C st G ns ks i (eM P md ops C st G ns m ks L f (listed.setIfInBounds i true)) a Φ→eM P md ops C st G ns m ks L (f+1) listed a Φ:=by
 intro f
 induction f with
 |zero=>
  intro listed a Φ inv hst hex hfree hr hkr hch H;have hun:=(mem_ready.1 hr).1;refine⟨fun h=>(by rw[h]at hr;cases hr),fun j hj=>?_⟩
  have hjn:j<m:=by
   rcases Nat.lt_or_ge j m with h|h
   ·exact h
   ·exact absurd hj (tail_waits hs hc hn inv _ i rfl hin hun j h)
  refine⟨hjn,?_⟩
  by_cases hji:j=i
  ·subst hji;exact H
  ·exfalso
   have bad:∀a' Φ',eM P md ops C st G ns m ks L 0 (listed.setIfInBounds i true) a' Φ'→False:=fun a' Φ' h=>by
    have:=hdone _ _ _ h j (ready_mono hj hji);omega
   unfold cOpG at H;by_cases hin':i∈ns
   ·rw[if_pos hin']at H;exact bad _ _ H.2
   rw[if_neg hin']at H;simp only[hi]at H
   split at H
   ·split at H
    ·obtain⟨w,hw1,hw2⟩:=hex
     obtain⟨v,w',_,Φ',_,_,_,h⟩:=gQ (H w hw1 hw2);exact bad _ _ h
    ·obtain⟨v,_,h⟩:=H
     exact bad _ _ h
   ·exact bad _ _ H
 |succ f ih=>
  intro listed a Φ inv hst hex hfree hr hkr hch H;have hun:=(mem_ready.1 hr).1;refine⟨fun h=>(by rw[h]at hr;cases hr),fun j hj=>?_⟩
  have hjn:j<m:=by
   rcases Nat.lt_or_ge j m with h|h
   ·exact h
   ·exact absurd hj (tail_waits hs hc hn inv _ i rfl hin hun j h)
  refine⟨hjn,?_⟩
  by_cases hji:j=i
  ·subst hji;exact H
  ·obtain⟨hjun,oj,hoj,hall⟩:=mem_ready.1 hj
   have hnot:∀e∈oj.after,Region.binds md e=true→e.on≠i:=fun e he hb heq=>by
    have h1:=hall e he hb;rw[heq,getD_both hun]at h1;cases h1
   have hap:=hfree j oj hoj hji hjun hnot;have inv':=inv.set hj hjn;have hr':=ready_mono hr (Ne.symm hji);have hfree':∀k ok,ops[k]?=some ok→k≠i→(listed.setIfInBounds j true).getD k true=false →
     (∀e∈ok.after,Region.binds md e=true→e.on≠i)→oi.apart ops ok=true:=fun k ok hk hki hun' hno=>by
    refine hfree k ok hk hki ?_ hno
    by_cases hjk:j=k
    ·subst hjk;exact hjun
    ·rw[getD_set_ne true hjk]at hun';exact hun'
   have hun2:(listed.setIfInBounds j true).getD i true=false:=by rw[getD_set_ne true hji];exact hun
   have hch':∀(L2:Array Bool),(∀q,(listed.setIfInBounds j true).getD q false=true→L2.getD q false=true)→L2.getD i true=false→HeadInv md ops m L2→i∈ks→∀j∈ks,j≠i→j∉Region.ready md ops L2:=
    fun L2 hsub=>hch L2 (fun q hq=>hsub q (getD_set_true hq))
   have hkr':i∈ks→∀j'∈ks,j'≠i→j'∉Region.ready md ops (listed.setIfInBounds j true):=hch' _ (fun q hq=>hq) hun2 inv'
   have use:=fun(a':Act) (Φ':Fact) (h1:st Φ') (h2:∃w,C w∧Φ' w) (h3:cOpG P ops C st G ns ks i (eM P md ops C st G ns m ks L f ((listed.setIfInBounds j true).setIfInBounds i true)) a' Φ')=>
    ih (listed.setIfInBounds j true) a' Φ' inv' h1 h2 hfree' hr' hkr' hch' h3
   rw[Array.setIfInBounds_comm _ _ hji]at use;have hcomp:∀a' Φ',eM P md ops C st G ns m ks L (f+1) (listed.setIfInBounds i true) a' Φ'→cOpG P ops C st G ns ks j (eM P md ops C st G ns m ks L f ((listed.setIfInBounds i true).setIfInBounds j true)) a' Φ':=fun a' Φ' h=>(h.2 j (ready_mono hj hji)).2
   obtain⟨p1,p2,p3⟩:=Oper.apart_spec hap;by_cases hin':i∈ns
   ·
    unfold cOpG at H;rw[if_pos hin']at H;refine sD hCl hst hex (fun a' Φ' h1 h2 h3=>use a' Φ' h1 h2 ?_) (aAg hG hi hoj p3 H.1 (hcomp _ _ H.2))
    unfold cOpG;rw[if_pos hin'];exact h3
   ·by_cases hik:i∈ks
    ·
     have hjk:j∉ks:=fun h=>hkr hik j h hji hj
     by_cases hwi:Region.wanted oi (yielded ops a.tmps)=true
     case neg=>
      unfold cOpG at H;rw[if_neg hin']at H;simp only[hi]at H;rw[if_neg hwi]at H;by_cases hjn':j∈ns
      ·unfold cOpG
       rw[if_pos hjn'];have:=hcomp _ _ H;unfold cOpG at this;rw[if_pos hjn']at this;refine⟨(hG _ _ hoj _ _ _ p1).1 this.1,use a Φ hst hex ?_⟩
       unfold cOpG;rw[if_neg hin'];simp only[hi];rw[if_neg hwi];exact this.2
      ·obtain⟨vj,hyj,hk⟩:=dN hjn' hjk hoj (hcomp _ _ H)
       have hyj':Qyields P ops C oj vj a:=hyj.of_same (execOp_put oj (fun cs b=>hsel j oj cs b hoj) a oi.dst undef p1).symm (wanted_put oj a oi.dst undef p1).symm
       refine hyj'.cOpG hjn' hjk hoj (use _ Φ hst hex ?_)
       unfold cOpG;rw[if_neg hin'];simp only[hi];rw[if_neg (by rw[wanted_put oi a oj.dst vj p3];exact hwi)]
       rw[←Act.put_comm a undef vj p2];exact hk
     unfold cOpG at H;rw[if_neg hin']at H;simp only[hi]at H;rw[if_pos hwi,if_pos hik]at H;by_cases hjn':j∈ns
     ·unfold cOpG
      rw[if_pos hjn'];refine⟨?_,use a Φ hst hex ?_⟩
      ·obtain⟨w0,hw1,hw2⟩:=hex
       obtain⟨v0,w0',k1,Φ0,k2,k3,k4,k5⟩:=gQ (H w0 hw1 hw2);have:=hcomp _ _ k5;unfold cOpG at this;rw[if_pos hjn']at this;exact(hG _ _ hoj _ _ _ p1).1 this.1
      unfold cOpG;rw[if_neg hin'];simp only[hi];rw[if_pos hwi,if_pos hik];intro w hw1 hw2;refine callAt_mono (fun v w' ⟨k1,Φ',k2,k3,k4,k5⟩=>⟨k1,Φ',k2,k3,k4,?_⟩) (H w hw1 hw2)
      have:=hcomp _ _ k5;unfold cOpG at this;rw[if_pos hjn']at this;exact this.2
     ·obtain⟨w0,hw1,hw2⟩:=hex
      obtain⟨v0,w0',k1,Φ0,k2,k3,k4,k5⟩:=gQ (H w0 hw1 hw2);obtain⟨vj,hyj,_⟩:=dN hjn' hjk hoj (hcomp _ _ k5);have hyj':Qyields P ops C oj vj a:=hyj.of_same (execOp_put oj (fun cs b=>hsel j oj cs b hoj) a oi.dst v0 p1).symm (wanted_put oj a oi.dst v0 p1).symm
      refine hyj'.cOpG hjn' hjk hoj (use _ Φ hst ⟨w0,hw1,hw2⟩ ?_)
      unfold cOpG;rw[if_neg hin'];simp only[hi];rw[if_pos (by rw[wanted_put oi a oj.dst vj p3];exact hwi),if_pos hik]
      intro w hc1 hc2;have:=H w hc1 hc2;unfold callAt;rw[execOp_put oi (fun cs b=>hsel i oi cs b hi) a oj.dst vj p3]
      refine callAt_mono (P:=P) (o:=oi) (a:=a) (fun v w' ⟨q1,Φ',q2,q3,q4,q5⟩=>⟨q1,Φ',q2,q3,q4,?_⟩) this
      obtain⟨vj',hz,hk⟩:=dN hjn' hjk hoj (hcomp _ _ q5);have hz':Qyields P ops C oj vj' a:=hz.of_same (execOp_put oj (fun cs b=>hsel j oj cs b hoj) a oi.dst v p1).symm (wanted_put oj a oi.dst v p1).symm
      obtain rfl:=hz'.uniq ⟨w,hc1⟩ hyj';rw[←Act.put_comm a v vj' p2];exact hk
    ·obtain⟨v,hy,hK⟩:=dN hin' hik hi H
     have h2:=aBz hG hoj hap (fun cs b=>hsel i oi cs b hi) (fun cs b=>hsel j oj cs b hoj) hy (hcomp _ _ hK)
     exact sD hCl hst hex (fun a' Φ' q1 q2 q3=>use a' Φ' q1 q2 (q3.1.cOpG hin' hik hi q3.2)) h2
def eS (P:Program) (ops:Array Oper) (C:World→Prop) (st:Fact→Prop) (G:Nat→Act→Prop) (ns:List Nat) (ks:List Nat) (Lq:Act→Fact→Prop):Nat→List Oper→Act→Fact→Prop
 |_,[],a,Φ=>Lq a Φ
 |k,o::rest,a,Φ=>
  if k∈ns then G k a∧eS P ops C st G ns ks Lq (k+1) rest a Φ else
  if Region.wanted o (yielded ops a.tmps) then
   if k∈ks then ∀w,C w→Φ w→callAt P o a w (zR st Φ w o.dst a (eS P ops C st G ns ks Lq (k+1) rest))
   else ∃v,(∀w,C w→qAt P o a w v)∧eS P ops C st G ns ks Lq (k+1) rest (a.put o.dst v) Φ
  else eS P ops C st G ns ks Lq (k+1) rest (a.put o.dst undef) Φ
theorem kQ (hG:∀i oi,ops[i]?=some oi→∀(a:Act) (d:Option Tmp) (v:Value),(∀t,d=some t→t∉oi.looksAt ops)→(G i (a.put d v)↔G i a)) {ns:List Nat} {m g:Nat} {ks:List Nat} {Lq:Act→Fact→Prop} (hCl:∀w w',C w→Below w.heap.size w w'→C w') (hsel:Region.noSelect ops=true) (hs:Region.sinkB md ops m=true) (hc:Region.chainB md ops m=true) (hn:m<ops.size)
  (hch:iJ md ops ks=true) (hnd:ks.Nodup) (hsort:∀A B i j,ks=A++i::B→j∈A→j<i) :
  ∀(l:List Oper) (k:Nat) (listed:Array Bool) (a:Act) (Φ:Fact),(∀j,j<l.length→l[j]?=ops[k+j]?)→k+l.length=m→HeadInv md ops m listed→st Φ→(∃w,C w∧Φ w)→(∀j,j<k→listed.getD j false=true) →
  Region.lexHead md ops g l.length k listed=true→eS P ops C st G ns ks Lq k l a Φ →
  eM P md ops C st G ns m ks (fun listed' a' Φ'=>Region.seqB md ops g m listed'=true∧Lq a' Φ') l.length listed a Φ
 | [],k,listed,a,Φ,_,hk,_,_,_,_,hB,h=>by
  have:k=m:=by simpa using hk
  subst this;exact⟨by simpa[Region.lexHead]using hB,h⟩
 |o::l,k,listed,a,Φ,hl,hk,inv,hst,hex,hpre,hB,h=>by
  have h0:ops[k]?=some o:=by simpa using (hl 0 (by simp)).symm
  rw[List.length_cons,Region.lexHead]at hB;simp only[Bool.and_eq_true]at hB;obtain⟨⟨hr,hf⟩,hB'⟩:=hB;have hkm:k<m:=by simp only[List.length_cons]at hk;omega
  have hr':k∈Region.ready md ops listed:=by simpa using hr
  have hun:=(mem_ready.1 hr').1;have late:∀(L2:Array Bool),(∀q,listed.getD q false=true→L2.getD q false=true)→L2.getD k true=false→HeadInv md ops m L2→k∈ks→∀j∈ks,j≠k→j∉Region.ready md ops L2:=by
   intro L2 hsub hk2 inv2 hkk j hj hjk hjr;obtain⟨A,B,e⟩:=List.append_of_mem hkk;rw[e]at hj;rcases List.mem_append.1 hj with hjA|hjB
   ·have hlt:=hsort A B k j e hjA
    have h1:=hsub j (hpre j hlt);have h2:=(mem_ready.1 hjr).1;rw[getD_both h2]at h1;cases h1
   ·rcases List.mem_cons.1 hjB with rfl|hjB
    ·exact hjk rfl
    ·have:=dY inv2 ks hch A B k j e hjB (.inr hjr)
     rw[getD_both hk2]at this;cases this
  have step:∀a' Φ',st Φ'→(∃w,C w∧Φ' w)→eS P ops C st G ns ks Lq (k+1) l a' Φ'→eM P md ops C st G ns m ks (fun listed' a' Φ'=>Region.seqB md ops g m listed'=true∧Lq a' Φ') l.length (listed.setIfInBounds k true) a' Φ':=fun a' Φ' h1 h2 h3=>
   kQ hG hCl hsel hs hc hn hch hnd hsort l (k+1) _ a' Φ' (fun j hj=>by have:=hl (j+1) (by simp;omega);simpa[Nat.add_assoc,Nat.add_comm 1 j]using this) (by simp only[List.length_cons]at hk;omega) (inv.set hr' hkm) h1 h2 (fun j hj=>by
    by_cases hjk:k=j
    ·subst hjk
     have:k<listed.size:=by rw[inv.size];omega
     simp[this]
    ·rw[getD_set_ne false hjk];exact hpre j (by omega)) hB' h3
  refine tO hG hCl h0 (Region.noSelect_spec hsel) hs hc hn hkm (fun listed' a' Φ' hL=>seqB_ready hL.1) l.length listed a Φ inv hst hex (Region.free_spec h0 hf) hr' (late listed (fun q hq=>hq) hun inv) late ?_
  unfold eS at h;unfold cOpG;by_cases hkn:k∈ns
  ·rw[if_pos hkn]at h ⊢
   exact⟨h.1,step a Φ hst hex h.2⟩
  rw[if_neg hkn]at h ⊢;simp only[h0];by_cases hw:Region.wanted o (yielded ops a.tmps)=true
  ·rw[if_pos hw]at h ⊢
   by_cases hkk:k∈ks
   ·rw[if_pos hkk]at h ⊢
    exact fun w h1 h2=>callAt_mono (fun v w' ⟨q1,Φ',q2,q3,q4,q5⟩=>⟨q1,Φ',q2,q3,q4,step _ _ q2 ⟨w',hCl _ _ h1 q1,q4⟩ q5⟩) (h w h1 h2)
   ·rw[if_neg hkk]at h ⊢
    obtain⟨v,h1,h2⟩:=h;exact⟨v,h1,step _ _ hst hex h2⟩
  ·rw[if_neg hw]at h ⊢
   exact step _ _ hst hex h
structure FG where
 n:Nat
 d:Tmp
 t:TypeId
 zs:Array Value
 hs:Bool
 sn:Nat
 x:Tmp
 vx:Value
 cs:Array Value
def FG.now (f:FG) (listed:Array Bool):Array Value:=if (f.hs&&listed.getD f.sn false)=true then f.cs else f.zs
def mA (P:Program) (md:Region.Mode) (ops:Array Oper) (m:Nat) (f:FG):Prop:=
 f.n<m∧(∃oa,ops[f.n]?=some oa∧oa.dst=some f.d∧oa.guard=none∧(∀(a:Act) (w:World),(execOp a.eval oa).run P w = .ok (.value (.pointer (some ⟨w.heap.size,0,none⟩))) (w.alloc (.cells f.zs f.t))) ∧
  ∀j oj,ops[j]?=some oj→j<m→j≠f.n→(f.hs=true→j≠f.sn)→oa.apart ops oj=true) ∧
 (f.hs=true→f.sn<m∧f.sn≠f.n∧∃os,ops[f.sn]?=some os∧os.dst=none∧os.guard=none∧(∀cs b,os.op≠.select cs b)∧f.x∈os.looksAt ops∧(∃e∈os.after,Region.binds md e=true∧e.on=f.n) ∧
  (∀(a:Act) (w:World) (b:Nat),a.eval (.tmp f.d) = .pointer (some ⟨b,0,none⟩)→a.eval (.tmp f.x)=f.vx→BK w b f.t f.zs→∃w',(execOp a.eval os).run P w = .ok .skip w'∧BK w' b f.t f.cs∧Below b w w'∧w'.heap.size=w.heap.size∧∀k,k≠b→w'.heap[k]?=w.heap[k]?))
def wantsG (fs:List FG) (i:Nat) (a:Act):Prop:=∀f∈fs,f.hs=true→f.sn=i→a.eval (.tmp f.x)=f.vx∧f.d<a.tmps.size
structure ApartG (fs:List FG):Prop where
 n:(fs.map (·.n)).Nodup
 d:(fs.map (·.d)).Nodup
 s:∀f∈fs,∀f'∈fs,f.hs=true→f'.hs=true→f.sn=f'.sn→f=f'
 ns:∀f∈fs,∀f'∈fs,f.hs=true→f.sn≠f'.n
 x:∀f∈fs,∀f'∈fs,f.x≠f'.d
theorem cP {α β:Type} {g:α→β}:∀ {l:List α},(l.map g).Nodup→∀ {a b:α},a∈l→b∈l→g a=g b→a=b
 | [],_,_,_,ha,_,_=>by cases ha
 |y::l,h,a,b,ha,hb,e=>by
  rw[List.map_cons]at h;obtain⟨h1,h2⟩:=List.nodup_cons.1 h;rcases List.mem_cons.1 ha with e1|ha'<;>rcases List.mem_cons.1 hb with e2|hb'
  ·exact e1.trans e2.symm
  ·exact absurd (List.mem_map.2 ⟨b,hb',by rw[←e,e1]⟩) h1
  ·exact absurd (List.mem_map.2 ⟨a,ha',by rw[e,e2]⟩) h1
  ·exact cP h2 ha' hb' e
theorem wE (a:Act) (d:Option Tmp) (v:Value):(a.put d v).tmps.size=a.tmps.size:=by cases d<;>simp[Act.put]
theorem p6 {fs:List FG} {m:Nat} (hfl:∀f∈fs,mA P md ops m f):∀i oi,ops[i]?=some oi→∀(a:Act) (d:Option Tmp) (v:Value),(∀t,d=some t→t∉oi.looksAt ops)→(wantsG fs i (a.put d v)↔wantsG fs i a):=by
 intro i oi hi a d v hd;unfold wantsG;refine forall_congr' fun f=>forall_congr' fun hf=>forall_congr' fun hs=>forall_congr' fun he=>?_
 obtain⟨_,_,os,ho,_,_,_,hx,_⟩:=(hfl f hf).2.2 hs;rw[he]at ho;rw[hi]at ho;cases ho
 rw[wE,Act.eval_put (fun t ht e=>by injection e with e;subst e;exact hd _ ht hx)]
def bG:List (FG×Nat)→Act→Act
 | [],a=>a
 |(f,b)::l,a=>(bG l a).put (some f.d) (.pointer (some ⟨b,0,none⟩))
theorem mZ {dst:Option Tmp} {v:Value}:∀(bs:List (FG×Nat)) (a:Act),(∀p∈bs,dst≠some p.1.d)→bG bs (a.put dst v)=(bG bs a).put dst v
 | [],_,_=>rfl
 |(f,b)::l,a,h=>by
  show (bG l (a.put dst v)).put _ _=_
  rw[mZ l a (fun p hp=>h p (List.mem_cons_of_mem _ hp))]
  exact(Act.put_comm (bG l a) _ v (fun d hd=>by cases hd;exact h (f,b) (List.mem_cons_self ..))).symm
theorem kR {o:Oper} (hs:∀cs b,o.op≠.select cs b):∀(bs:List (FG×Nat)) (a:Act),(∀p∈bs,p.1.d∉o.looksAt ops)→execOp (bG bs a).eval o=execOp a.eval o
 | [],_,_=>rfl
 |(f,b)::l,a,h=>by
  show execOp ((bG l a).put _ _).eval o=_
  rw[execOp_put o hs (bG l a) (some f.d) _ (fun d hd=>by cases hd;exact h (f,b) (List.mem_cons_self ..)),kR hs l a (fun p hp=>h p (List.mem_cons_of_mem _ hp))]
theorem iK {o:Oper}:∀(bs:List (FG×Nat)) (a:Act),(∀p∈bs,p.1.d∉o.looksAt ops)→Region.wanted o (yielded ops (bG bs a).tmps)=Region.wanted o (yielded ops a.tmps)
 | [],_,_=>rfl
 |(f,b)::l,a,h=>by
  show Region.wanted o (yielded ops ((bG l a).put _ _).tmps)=_
  rw[wanted_put o (bG l a) (some f.d) _ (fun d hd=>by cases hd;exact h (f,b) (List.mem_cons_self ..)),iK l a (fun p hp=>h p (List.mem_cons_of_mem _ hp))]
theorem p7:∀(bs:List (FG×Nat)) (a:Act),(bG bs a).tmps.size=a.tmps.size
 | [],_=>rfl
 |(f,b)::l,a=>by
  show ((bG l a).put _ _).tmps.size=_
  rw[wE,p7 l a]
theorem putsG_x {x:Tmp}:∀(bs:List (FG×Nat)) (a:Act),(∀p∈bs,x≠p.1.d)→(bG bs a).eval (.tmp x)=a.eval (.tmp x)
 | [],_,_=>rfl
 |(f,b)::l,a,h=>by
  show ((bG l a).put _ _).eval _=_
  rw[Act.eval_put (fun t ht e=>by injection ht with ht;injection e with e;exact h (f,b) (List.mem_cons_self ..) (e.trans ht.symm)),putsG_x l a (fun p hp=>h p (List.mem_cons_of_mem _ hp))]
theorem putsG_d:∀(bs:List (FG×Nat)) (a:Act) (f:FG) (b:Nat),(bs.map (·.1.d)).Nodup→(f,b)∈bs→f.d<a.tmps.size→(bG bs a).eval (.tmp f.d) = .pointer (some ⟨b,0,none⟩)
 | [],_,_,_,_,h,_=>by cases h
 |(f',b')::l,a,f,b,hnd,h,hz=>by
  rw[List.map_cons]at hnd;obtain⟨h1,h2⟩:=List.nodup_cons.1 hnd;show ((bG l a).put _ _).eval _=_
  rcases List.mem_cons.1 h with e|h
  ·injection e with e1 e2
   subst e1;subst e2;have hz':f.d<(bG l a).tmps.size:=by rw[p7];exact hz
   simp only[Act.put,Act.eval];rw[Array.getD_eq_getD_getElem?,Array.getElem?_setIfInBounds_self_of_lt hz']
   rfl
  ·rw[Act.eval_put (fun t ht e=>by injection ht with ht;injection e with e;exact h1 (List.mem_map.2 ⟨_,h,by simp only;rw[e,ht]⟩)),putsG_d l a f b h2 h hz]
def wG (fs:List FG) (B:Nat) (listed:Array Bool) (w:World) (bs:List (FG×Nat)):Prop:=
 (∀p∈bs,p.1∈fs∧B≤p.2∧BK w p.2 p.1.t (p.1.now listed))∧(bs.map (·.1.n)).Nodup∧(bs.map (·.2)).Nodup
def zS (fs:List FG) (B:Nat) (listed:Array Bool) (a ac:Act) (w:World):Prop:=
 ∃bs,wG fs B listed w bs∧(∀p∈bs,listed.getD p.1.n false=true)∧(∀f∈fs,listed.getD f.n false=true→f.n∈bs.map (·.1.n))∧ac=bG bs a
theorem tQ {fs:List FG} {B:Nat} {listed:Array Bool} {w:World} (hA:ApartG fs):∀ {bs:List (FG×Nat)},(∀p∈bs,p.1∈fs)→(bs.map (·.1.n)).Nodup→(bs.map (·.1.d)).Nodup
 | [],_,_=>List.nodup_nil
 |p::bs,h,hn=>by
  rw[List.map_cons]at hn ⊢;obtain⟨h1,h2⟩:=List.nodup_cons.1 hn;refine List.nodup_cons.2 ⟨fun hm=>?_,tQ (B:=B) (listed:=listed) (w:=w) hA (fun q hq=>h q (List.mem_cons_of_mem _ hq)) h2⟩
  obtain⟨q,hq,he⟩:=List.mem_map.1 hm;have:=cP hA.d (h q (List.mem_cons_of_mem _ hq)) (h p (List.mem_cons_self ..)) he;exact h1 (List.mem_map.2 ⟨q,hq,by rw[this]⟩)
def nsG (fs:List FG):List Nat:=fs.map (·.n)++(fs.filter (·.hs)).map (·.sn)
theorem zT {fs:List FG} {f:FG} (h:f∈fs):f.n∈nsG fs:=List.mem_append.2 (.inl (List.mem_map.2 ⟨f,h,rfl⟩))
theorem zU {fs:List FG} {f:FG} (h:f∈fs) (hs:f.hs=true):f.sn∈nsG fs:=List.mem_append.2 (.inr (List.mem_map.2 ⟨f,List.mem_filter.2 ⟨h,hs⟩,rfl⟩))
theorem FG.now_set {f:FG} {listed:Array Bool} {i:Nat} (h:f.hs=true→f.sn≠i):f.now (listed.setIfInBounds i true)=f.now listed:=by
 unfold FG.now;cases hs:f.hs with
 |false=>rfl
 |true=>rw[getD_set_ne false (fun e=>h hs e.symm)]
theorem wpCG_end {ns:List Nat} {ks:List Nat} {G':Nat→Act→Prop} {L L':Act→Fact→Prop} (hg:∀i a,G i a→G' i a) (h:∀a Φ,L a Φ→L' a Φ):∀(l:List Oper) (k:Nat) (a:Act) (Φ:Fact),eS P ops C st G ns ks L k l a Φ→eS P ops C st G' ns ks L' k l a Φ
 | [],_,a,Φ,hh=>h a Φ hh
 |o::l,k,a,Φ,hh=>by
  unfold eS at hh ⊢
  split
  ·rename_i h1;rw[if_pos h1]at hh;exact⟨hg _ _ hh.1,wpCG_end hg h l _ a Φ hh.2⟩
  ·rename_i h1
   rw[if_neg h1]at hh
   split
   ·rename_i h2
    rw[if_pos h2]at hh
    split
    ·rename_i h3
     rw[if_pos h3]at hh;exact fun w q1 q2=>callAt_mono (fun v w' ⟨p1,Φ',p2,p3,p4,p5⟩=>⟨p1,Φ',p2,p3,p4,wpCG_end hg h l _ _ _ p5⟩) (hh w q1 q2)
    ·rename_i h3
     rw[if_neg h3]at hh;obtain⟨v,p1,p2⟩:=hh;exact⟨v,p1,wpCG_end hg h l _ _ _ p2⟩
   ·rename_i h2
    rw[if_neg h2]at hh;exact wpCG_end hg h l _ _ _ hh
def j5 (ops:Array Oper) (m n s:Nat) (oa:Oper):Bool:=(List.range m).all fun j=>j == n||(j == s||(match ops[j]? with|some o=>oa.apart ops o|none=>true))
theorem dZ {m n s:Nat} {oa:Oper} (h:j5 ops m n s oa=true):∀j oj,ops[j]?=some oj→j<m→j≠n→j≠s→oa.apart ops oj=true:=fun j oj hj hjm hjn hjs=>by
 have:=(List.all_eq_true.1 h) j (List.mem_range.2 hjm);simpa[hjn,hjs,hj]using this
theorem tS {lp mr:Nat} {o:Oper} {a:Act} {K':Act→World→Prop} {Q':Exit→Act→World→Prop} {w w':World} (hd:∀c,o.op≠.defer c) (h1:(execOp a.eval o).run P w = .ok .skip w') (h:K' (a.put o.dst undef) w'):o.wpIn (Fence.wide.inRound lp) mr P a w K' Q':=by
 refine⟨fun _ _=>trivial,?_⟩
 rw[Oper.semAt_eq _ _ _ hd,h1];exact h
theorem nW {m g B:Nat} {fs:List FG} {ks:List Nat} {L:Array Bool→Act→Fact→Prop} {Q':Exit→Act→World→Prop} (hm:m<ops.size) (hsel:∀(j:Nat) (o:Oper) cs b,ops[j]?=some o→o.op≠.select cs b)
  (hfl:∀f∈fs,mA P md ops m f) (hA:ApartG fs) (hCl:∀w w',C w→Below B w w'→C w') (hCB:∀w,C w→B≤w.heap.size) (hstB:∀Φ,st Φ→∀x y,Φ x→Below B x y→Φ y)
  (hL:∀listed a ac w Φ,HeadInv md ops m listed→C w→Φ w→L listed a Φ→zS fs B listed a ac w→wpAny P md ops Q' g listed ac w) :
  ∀(f:Nat) (listed:Array Bool) (a ac:Act) (w:World) (Φ:Fact),HeadInv md ops m listed→C w→st Φ→Φ w→zS fs B listed a ac w→eM P md ops C st (wantsG fs) (nsG fs) m ks L f listed a Φ→wpAny P md ops Q' (f+g) listed ac w:=by
 intro f
 induction f with
 |zero=>intro listed a ac w Φ inv hw hst hp hr h;rw[Nat.zero_add];exact hL _ _ _ _ _ inv hw hp h hr
 |succ f ih=>
  intro listed a ac w Φ inv hw hst hp hr h;rw[show f+1+g=(f+g)+1 by omega]
  refine⟨fun h0=>absurd h0 h.1,fun i hi=>?_⟩
  obtain⟨him,h1⟩:=h.2 i hi;have hun:=(mem_ready.1 hi).1;obtain⟨bs,⟨hbs,hnd1,hnd2⟩,hlst,hall,rfl⟩:=hr;by_cases hin:i∈nsG fs
  ·unfold cOpG at h1
   rw[if_pos hin]at h1;rcases List.mem_append.1 hin with hin1|hin2
   ·obtain⟨F,hF,rfl⟩:=List.mem_map.1 hin1
    obtain⟨_,⟨oa,ho,hd,hgd,hrun,_⟩,hfs⟩:=hfl F hF;unfold wpOp;simp only[ho];rw[if_pos (by simp[Region.wanted,hgd])]
    refine .inl ?_
    unfold Oper.wp;rw[hrun];show wpAny P md ops Q' (f+g) (listed.setIfInBounds F.n true) ((bG bs a).put oa.dst (.pointer (some ⟨w.heap.size,0,none⟩))) (w.alloc (.cells F.zs F.t))
    rw[hd];have hba:Below B w (w.alloc (.cells F.zs F.t)):=(Below.refl _ _).alloc (hCB _ hw) _;have hnow:F.now (listed.setIfInBounds F.n true)=F.zs:=by
     unfold FG.now;cases hs:F.hs with
     |false=>rfl
     |true=>
      obtain⟨_,hne,os,hos,_,_,_,_,⟨e,he,hb,hen⟩,_⟩:=hfs hs;rw[getD_set_ne false (Ne.symm hne)];cases hl:listed.getD F.sn false with
      |false=>rfl
      |true=>
       have:=inv.closed F.sn os hos hl e he hb;rw[hen,getD_both hun]at this;cases this
    refine ih _ a _ _ Φ (inv.set hi him) (hCl _ _ hw hba) hst (hstB _ hst _ _ hp hba) ⟨(F,w.heap.size)::bs,⟨fun p hp'=>?_,?_,?_⟩,fun p hp'=>?_,fun f' hf' hl'=>?_,rfl⟩ h1.2
    ·rcases List.mem_cons.1 hp' with rfl|hp'
     ·exact⟨hF,hCB _ hw,by rw[hnow];exact BK.new w _ _⟩
     ·obtain⟨q1,q2,q3⟩:=hbs p hp'
      exact⟨q1,q2,by rw[FG.now_set (fun hs=>hA.ns _ q1 _ hF hs)];exact q3.alloc _⟩
    ·rw[List.map_cons]
     refine List.nodup_cons.2 ⟨fun hmem=>?_,hnd1⟩
     obtain⟨p,hp',hpe⟩:=List.mem_map.1 hmem;have:=hlst p hp';rw[hpe,getD_both hun]at this;cases this
    ·rw[List.map_cons]
     refine List.nodup_cons.2 ⟨fun hmem=>?_,hnd2⟩
     obtain⟨p,hp',hpe⟩:=List.mem_map.1 hmem;have:=(hbs p hp').2.2.lt;simp only at hpe;omega
    ·rcases List.mem_cons.1 hp' with rfl|hp'
     ·simp[inv.size];omega
     ·exact getD_set_true (hlst p hp')
    ·rw[List.map_cons]
     by_cases he:F.n=f'.n
     ·rw[he];exact List.mem_cons_self ..
     ·rw[getD_set_ne false he]at hl'
      exact List.mem_cons_of_mem _ (hall f' hf' hl')
   ·obtain⟨F,hF,rfl⟩:=List.mem_map.1 hin2
    obtain⟨hF,hs⟩:=List.mem_filter.1 hF;obtain⟨_,hne,os,hos,hdst,hgd,hsl,hxl,⟨e,he,hb,hen⟩,hrun⟩:=(hfl F hF).2.2 hs;obtain⟨_,os',hos',hdone⟩:=mem_ready.1 hi;rw[hos]at hos';cases hos'
    have hnl:=hdone e he hb;rw[hen]at hnl;obtain⟨p,hp',hpe⟩:=List.mem_map.1 (hall F hF hnl);obtain⟨q1,q2,q3⟩:=hbs p hp';obtain⟨F',b⟩:=p;have hFF:F'=F:=cP hA.n q1 hF hpe;subst hFF;simp only at q2 q3;obtain⟨hvx,hdz⟩:=h1.1 F' hF hs rfl;have hzs:F'.now listed=F'.zs:=by
     unfold FG.now;rw[hs,getD_both hun]
     rfl
    rw[hzs]at q3;have hd1:(bG bs a).eval (.tmp F'.d) = .pointer (some ⟨b,0,none⟩):=putsG_d bs a F' b (tQ (B:=B) (listed:=listed) (w:=w) hA (fun p hp=>(hbs p hp).1) hnd1) hp' hdz
    have hd2:(bG bs a).eval (.tmp F'.x)=F'.vx:=by rw[putsG_x bs a (fun p hp=>hA.x _ hF _ (hbs p hp).1)];exact hvx
    obtain⟨w',hr1,hr2,hr3,hr4,hr5⟩:=hrun (bG bs a) w b hd1 hd2 q3;unfold wpOp;simp only[hos];rw[if_pos (by simp[Region.wanted,hgd])]
    refine .inl ?_
    unfold Oper.wp;rw[hr1];show wpAny P md ops Q' (f+g) (listed.setIfInBounds F'.sn true) ((bG bs a).put os.dst undef) w'
    rw[hdst];have hbw:Below B w w':=hr3.mono q2;refine ih _ a _ _ Φ (inv.set hi him) (hCl _ _ hw hbw) hst (hstB _ hst _ _ hp hbw) ⟨bs,⟨fun p2 hp2=>?_,hnd1,hnd2⟩,fun p2 hp2=>getD_set_true (hlst p2 hp2),fun f' hf' hl'=>?_,rfl⟩ h1.2
    ·obtain⟨r1,r2,r3⟩:=hbs p2 hp2
     refine⟨r1,r2,?_⟩
     by_cases hpb:p2.2=b
     ·have hpp:p2=(F',b):=cP hnd2 hp2 hp' hpb
      subst hpp;have hz:F'.sn<listed.size:=by rw[inv.size];omega
      have:F'.now (listed.setIfInBounds F'.sn true)=F'.cs:=by
       unfold FG.now;rw[hs];simp[hz]
      rw[this];exact hr2
     ·have hps:p2.1.hs=true→p2.1.sn≠F'.sn:=fun h1 h2=>by
       have:=hA.s _ r1 _ hF h1 hs h2;have hn:p2.1.n=(F',b).1.n:=by rw[this]
       have:=cP hnd1 hp2 hp' hn;rw[this]at hpb;exact hpb rfl
      rw[FG.now_set hps];exact r3.same (hr5 _ hpb)
    ·rw[getD_set_ne false (fun e=>hA.ns _ hF _ hf' hs e)]at hl'
     exact hall f' hf' hl'
  ·have key:∀a' w' Φ',C w'→st Φ'→Φ' w'→Below w.heap.size w w'→eM P md ops C st (wantsG fs) (nsG fs) m ks L f (listed.setIfInBounds i true) a' Φ'→wpAny P md ops Q' (f+g) (listed.setIfInBounds i true) (bG bs a') w':=by
    intro a' w' Φ' hw' hst' hp' hb h2;refine ih _ a' _ w' Φ' (inv.set hi him) hw' hst' hp' ⟨bs,⟨fun p hp=>?_,hnd1,hnd2⟩,fun p hp=>getD_set_true (hlst p hp),fun f' hf' hl'=>?_,rfl⟩ h2
    ·obtain⟨q1,q2,q3⟩:=hbs p hp
     exact⟨q1,q2,by rw[FG.now_set (fun hs e=>hin (by rw[←e];exact zU q1 hs))];exact q3.below hb q3.lt⟩
    ·rw[getD_set_ne false (fun e:i=f'.n=>hin (by rw[e];exact zT hf'))]at hl'
     exact hall f' hf' hl'
   unfold cOpG at h1;rw[if_neg hin]at h1;unfold wpOp;cases ho:ops[i]? with
   |none=>
    simp only[ho]at h1 ⊢;exact key a w Φ hw hst hp (Below.refl _ _) h1
   |some o=>
    simp only[ho]at h1 ⊢;have hapart:∀p∈bs,p.1.d∉o.looksAt ops∧o.dst≠some p.1.d:=fun p hp=>by
     obtain⟨q1,_,_⟩:=hbs p hp;obtain⟨_,⟨oa,_,hd,_,_,hap⟩,_⟩:=hfl p.1 q1;obtain⟨p1,p2,_⟩:=Oper.apart_spec (hap i o ho him (fun e=>hin (by rw[e];exact zT q1)) (fun hs e=>hin (by rw[e];exact zU q1 hs)))
     exact⟨p1 _ hd,p2 _ hd⟩
    have hpe:execOp (bG bs a).eval o=execOp a.eval o:=kR (fun cs q=>hsel i o cs q ho) bs a (fun p hp=>(hapart p hp).1)
    have hpw:Region.wanted o (yielded ops (bG bs a).tmps)=Region.wanted o (yielded ops a.tmps):=iK bs a (fun p hp=>(hapart p hp).1)
    have hpp:∀v,bG bs (a.put o.dst v)=(bG bs a).put o.dst v:=fun v=>mZ bs a (fun p hp=>(hapart p hp).2)
    rw[hpw];by_cases hw':Region.wanted o (yielded ops a.tmps)=true
    ·rw[if_pos hw']at h1 ⊢
     refine .inl ?_
     by_cases hik:i∈ks
     ·rw[if_pos hik]at h1
      have h2:=h1 w hw hp;unfold callAt at h2;rw[←hpe]at h2;refine pX (P:=P) (o:=o) (a:=bG bs a) h2 (fun v w' ⟨q1,Φ',q2,q3,q4,q5⟩=>?_)
      rw[←hpp v];exact key _ w' Φ' (hCl _ _ hw (q1.mono (hCB _ hw))) q2 q4 q1 q5
     ·rw[if_neg hik]at h1
      obtain⟨v,h2,h3⟩:=h1;have h4:=h2 w hw;unfold qAt at h4;rw[←hpe]at h4;refine zQ (P:=P) (o:=o) (a:=bG bs a) h4 ?_
      rw[←hpp v];exact key _ w Φ hw hst hp (Below.refl _ _) h3
    ·rw[if_neg hw']at h1 ⊢
     rw[←hpp undef];exact key _ w Φ hw hst hp (Below.refl _ _) h1
theorem kH {id:Nat} {Q:Exit→Act→World→Prop} {a:Act} {w:World} {l:List Oper} (m:Nat) (fs:List FG) (ks:List Nat) (hm:P.follows .mixedOrders=true)
  (hB:okB .any l.toArray m ks=true) (hfl:∀f∈fs,mA P .any l.toArray m f) (hA:ApartG fs)
  (h:eS P l.toArray (fun w'=>∃p:Regrown,w'=grow (redrawn w p.d) p.os) (fun Φ=>∀x y,Φ x→Below w.heap.size x y→Φ y) (wantsG fs) (nsG fs) ks (fun a' Φ=>∀w',Below w.heap.size w w'→Φ w'→∀bs,wG fs w.heap.size (Array.replicate l.toArray.size true) w' bs→(∀f∈fs,f.n∈bs.map (·.1.n))→wpList P l.toArray Q (l.drop m) (bG bs a') w') 0 (l.take m) a (fun _=>True)) :
  (Code.region id l.toArray true).wp P Q a w:=by
 simp only[okB,Region.lexTailB,Bool.and_eq_true,decide_eq_true_eq]at hB;obtain⟨⟨⟨⟨⟨hsel,hn⟩,hs⟩,hc⟩,hlex⟩,hch,hin⟩:=hB;have hn':m<l.length:=by simpa using hn
 have htl:(l.take m).length=m:=by simp;omega
 have hdl:(l.drop m).length=l.toArray.size-m:=by simp
 have hCl:∀w1 w2:World,(∃p:Regrown,w1=grow (redrawn w p.d) p.os)→Below w.heap.size w1 w2→∃p:Regrown,w2=grow (redrawn w p.d) p.os:=
  fun w1 w2 ⟨p,hp⟩ hb=>by subst hp;exact regrown_of_below ((below_regrown w p.d p.os).trans hb)
 have hCB:∀w1:World,(∃p:Regrown,w1=grow (redrawn w p.d) p.os)→w.heap.size≤w1.heap.size:=fun w1 ⟨p,hp⟩=>by subst hp;exact(below_regrown w p.d p.os).size
 have inv0:HeadInv .any l.toArray m (Array.replicate l.toArray.size false):=
  ⟨by simp,fun j oj _ hl=>(by rw[getD_replicate_false]at hl;cases hl),fun t _ ht=>getD_in (by simpa using ht) (getD_replicate_false _ _)⟩
 have H:=kQ (md:=.any) (g:=l.toArray.size-m) (p6 hfl) (fun w1 w2 hc hb=>hCl w1 w2 hc (hb.mono (hCB w1 hc))) hsel hs hc hn hch (fM ks hin) (gS ks hin) (l.take m) 0 _ a (fun _=>True) (fun j hj=>by
  have hj':j<m:=by rw[htl]at hj;exact hj
  simp[hj']) (by simpa using htl) inv0 (fun _ _ _ _=>trivial) ⟨w,⟨⟨w.drawn,#[]⟩,by rw[grow_empty];rfl⟩,trivial⟩ (fun j hj=>by omega) (by rw[htl];exact hlex) h
 refine wp_region_any hm ?_
 have:=nW (Q':=Q) (g:=l.toArray.size-m) (B:=w.heap.size) hn (Region.noSelect_spec hsel) hfl hA hCl hCB (fun Φ h x y=>h x y)
  (fun listed a' ac w' Φ inv hw' hp hL hr=>by
   obtain⟨hL1,hL2⟩:=hL;obtain⟨p,hp'⟩:=hw';obtain⟨bs,hmade,_,hall,rfl⟩:=hr;have hdone:∀i,i<m→listed.getD i false=true:=fun i hi=>by
    cases e:listed.getD i false with
    |true=>rfl
    |false=>
     exfalso
     have hun:listed.getD i true=false:=getD_in (by have:=inv.size;omega) e
     have hB1:=hL1;have hsz:l.toArray.size-m=(l.toArray.size-(m+1))+1:=by omega
     rw[hsz]at hB1;simp only[Region.seqB,Bool.and_eq_true,decide_eq_true_eq]at hB1;exact tail_waits hs hc hn inv _ i rfl hi hun m (Nat.le_refl _) (by rw[hB1.1];simp)
   have hin:∀f∈fs,f.n∈bs.map (·.1.n):=fun f hf=>hall f hf (hdone _ (hfl f hf).1)
   have hmade':wG fs w.heap.size (Array.replicate l.toArray.size true) w' bs:=by
    refine⟨fun p hp=>?_,hmade.2⟩
    obtain⟨q1,q2,q3⟩:=hmade.1 p hp;refine⟨q1,q2,?_⟩
    have:p.1.now (Array.replicate l.toArray.size true)=p.1.now listed:=by
     unfold FG.now;cases hs:p.1.hs with
     |false=>rfl
     |true=>
      have h1:=((hfl _ q1).2.2 hs).1;rw[hdone _ h1];have h2:p.1.sn<l.length:=by omega
      simp[h2]
    rw[this];exact q3
   have:=wpAny_of_seq (md:=.any) (Q':=Q) (l.drop m) m listed (bG bs a') w' (fun j=>by simp[List.getElem?_drop]) (by rw[hdl];exact hL1) (hL2 w' (by rw[hp'];exact below_regrown w p.d p.os) hp bs hmade' hin)
   rwa [hdl]at this) _ _ _ _ _ (fun _=>True) inv0 ⟨⟨w.drawn+1,#[]⟩,by rw[grow_empty]⟩ (fun _ _ _ _=>trivial) trivial ⟨[],⟨fun p hp=>(by cases hp),List.nodup_nil,List.nodup_nil⟩,fun p hp=>(by cases hp),fun f _ hl=>(by rw[getD_replicate_false]at hl;cases hl),rfl⟩ H
 rw[htl,show m+(l.toArray.size-m)=l.toArray.size by omega]at this
 exact this
theorem qP {id:Nat} {Q:Exit→Act→World→Prop} {a:Act} {w:World} {l:List Oper} (m n1 n2 s1:Nat) (ks:List Nat) (t1 t2:TypeId) (zs1 zs2 cs1:Array Value) (d1 d2 x1:Tmp) (vx:Value) (oa1 oa2 os1:Oper) (hm:P.follows .mixedOrders=true)
  (hlt:n1<m∧n2<m∧s1<m∧n1≠n2∧s1≠n1∧s1≠n2∧d1≠d2∧x1≠d1∧x1≠d2)
  (hoa1:l.toArray[n1]?=some oa1) (hda1:oa1.dst=some d1) (hga1:oa1.guard=none) (hrun1:∀(a:Act) (w:World),(execOp a.eval oa1).run P w = .ok (.value (.pointer (some ⟨w.heap.size,0,none⟩))) (w.alloc (.cells zs1 t1)))
  (hoa2:l.toArray[n2]?=some oa2) (hda2:oa2.dst=some d2) (hga2:oa2.guard=none) (hrun2:∀(a:Act) (w:World),(execOp a.eval oa2).run P w = .ok (.value (.pointer (some ⟨w.heap.size,0,none⟩))) (w.alloc (.cells zs2 t2)))
  (hos1:l.toArray[s1]?=some os1) (hds1:os1.dst=none) (hgs1:os1.guard=none) (hx1:(os1.looksAt l.toArray).contains x1=true) (haf:(os1.after.any fun e=>Region.binds .any e&&e.on == n1)=true)
  (hrs1:∀(a:Act) (w:World) (b:Nat),a.eval (.tmp d1) = .pointer (some ⟨b,0,none⟩)→a.eval (.tmp x1)=vx→BK w b t1 zs1→∃w',(execOp a.eval os1).run P w = .ok .skip w'∧BK w' b t1 cs1∧Below b w w'∧w'.heap.size=w.heap.size∧∀k,k≠b→w'.heap[k]?=w.heap[k]?)
  (hB:(okB .any l.toArray m ks&&(j5 l.toArray m n1 s1 oa1&&j5 l.toArray m n2 n2 oa2))=true)
  (h:eS P l.toArray (fun w'=>∃p:Regrown,w'=grow (redrawn w p.d) p.os) (fun Φ=>∀x y,Φ x→Below w.heap.size x y→Φ y) (fun i a=>s1=i→a.eval (.tmp x1)=vx∧d1<a.tmps.size) [n1,n2,s1] ks (fun a' Φ=>∀b1 b2 w',Below w.heap.size w w'→Φ w'→w.heap.size≤b1→w.heap.size≤b2→b1≠b2→BK w' b1 t1 cs1→BK w' b2 t2 zs2 →
   wpList P l.toArray Q (l.drop m) ((a'.put (some d1) (.pointer (some ⟨b1,0,none⟩))).put (some d2) (.pointer (some ⟨b2,0,none⟩))) w') 0 (l.take m) a (fun _=>True)) :
  (Code.region id l.toArray true).wp P Q a w:=by
 obtain⟨q1,q2,q3,q4,q5,q6,q7,q8,q9⟩:=hlt;obtain⟨hB1,hB23⟩:=Bool.and_eq_true_iff.1 hB;obtain⟨hB2,hB3⟩:=Bool.and_eq_true_iff.1 hB23;have hmn:m<l.length:=by
  have:=hB1;simp only[okB,Region.lexTailB,Bool.and_eq_true,decide_eq_true_eq]at this;have h2:=this.1.1.1.1.2;simpa using h2
 refine kH m [⟨n1,d1,t1,zs1,true,s1,x1,vx,cs1⟩,⟨n2,d2,t2,zs2,false,m,x1,vx,zs2⟩] ks hm hB1 (fun f hf=>?_) ⟨?_,?_,?_,?_,?_⟩ ?_
 ·simp only[List.mem_cons,List.not_mem_nil,or_false]at hf
  rcases hf with rfl|rfl
  ·refine⟨q1,⟨oa1,hoa1,hda1,hga1,hrun1,fun j oj h1 h2 h3 h4=>dZ hB2 j oj h1 h2 h3 (h4 rfl)⟩,fun _=>⟨q3,q5,os1,hos1,hds1,hgs1,fun cs b e=>?_,by simpa using hx1,?_,hrs1⟩⟩
   ·simp only[okB,Region.lexTailB,Bool.and_eq_true,decide_eq_true_eq]at hB1
    exact Region.noSelect_spec hB1.1.1.1.1.1 s1 os1 cs b hos1 e
   ·obtain⟨e,he,hb⟩:=Array.any_eq_true'.1 haf
    simp only[Bool.and_eq_true,beq_iff_eq]at hb;exact⟨e,he,hb.1,hb.2⟩
  ·exact⟨q2,⟨oa2,hoa2,hda2,hga2,hrun2,fun j oj h1 h2 h3 _=>dZ hB3 j oj h1 h2 h3 h3⟩,fun h=>by cases h⟩
 ·simp[q4]
 ·simp[q7]
 ·intro f hf f' hf' h1 h2 _
  simp only[List.mem_cons,List.not_mem_nil,or_false]at hf hf';rcases hf with rfl|rfl<;>rcases hf' with rfl|rfl<;>first|rfl|exact absurd h2 Bool.false_ne_true|exact absurd h1 Bool.false_ne_true
 ·intro f hf f' hf' h1
  simp only[List.mem_cons,List.not_mem_nil,or_false]at hf hf';rcases hf with rfl|rfl<;>rcases hf' with rfl|rfl<;>first|exact q5|exact q6|exact absurd h1 Bool.false_ne_true
 ·intro f hf f' hf'
  simp only[List.mem_cons,List.not_mem_nil,or_false]at hf hf';rcases hf with rfl|rfl<;>rcases hf' with rfl|rfl<;>first|exact q8|exact q9
 ·refine wpCG_end (fun i a h f hf hs he=>?_) (fun a' Φ h w' h1 h2 bs h3 h4=>?_) _ _ _ _ h
  ·simp only[List.mem_cons,List.not_mem_nil,or_false]at hf
   rcases hf with rfl|rfl
   ·exact h he
   ·cases hs
  obtain⟨h5,h6,h7⟩:=h3;have hs1l:s1<l.length:=by omega
  have hnow:(⟨n1,d1,t1,zs1,true,s1,x1,vx,cs1⟩ : FG).now (Array.replicate l.toArray.size true)=cs1:=by simp[FG.now,hs1l]
  match bs,h4,h5,h6,h7 with
  | [],h4,_,_,_=>exact absurd (h4 _ (List.mem_cons_self ..)) (by simp)
  | [p],h4,_,_,_=>
   exfalso
   have e1:=h4 ⟨n1,d1,t1,zs1,true,s1,x1,vx,cs1⟩ (by simp)
   have e2:=h4 ⟨n2,d2,t2,zs2,false,m,x1,vx,zs2⟩ (by simp)
   simp only[List.map_cons,List.map_nil,List.mem_singleton]at e1 e2;exact q4 (e1.trans e2.symm)
  | [(f,b),(f',b')],_,h5,h6,h7=>
   obtain⟨p1,p2,p3⟩:=h5 (f,b) (by simp)
   obtain⟨r1,r2,r3⟩:=h5 (f',b') (by simp)
   simp only[List.mem_cons,List.not_mem_nil,or_false]at p1 r1;simp only[List.map_cons,List.map_nil,List.nodup_cons,List.mem_singleton]at h6 h7;rcases p1 with rfl|rfl<;>rcases r1 with rfl|rfl
   ·exact absurd rfl h6.1
   ·have:=h b b' w' h1 h2 p2 r2 h7.1 (by rw[hnow]at p3;exact p3) r3
    show wpList P l.toArray Q (l.drop m) ((a'.put (some d2) _).put (some d1) _) w'
    rw[Act.put_comm a' _ _ (fun d hd' e=>by cases hd';cases e;exact q7 rfl)]
    exact this
   ·exact h b' b w' h1 h2 r2 p2 (fun e=>h7.1 e.symm) (by rw[hnow]at r3;exact r3) p3
   ·exact absurd rfl h6.1
  |p::q::r::bs,_,h5,h6,_=>
   exfalso
   have e1:=(h5 p (by simp)).1
   have e2:=(h5 q (by simp)).1
   have e3:=(h5 r (by simp)).1
   simp only[List.mem_cons,List.not_mem_nil,or_false]at e1 e2 e3;rcases e1 with e1|e1<;>rcases e2 with e2|e2<;>rcases e3 with e3|e3<;>simp[e1,e2,e3]at h6
section
variable {lp mr:Nat}
theorem mB {m g B:Nat} {fs:List FG} {ks:List Nat} {L:Array Bool→Act→Fact→Prop} {Q':Exit→Act→World→Prop} (hm:m<ops.size) (hsel:∀(j:Nat) (o:Oper) cs b,ops[j]?=some o→o.op≠.select cs b)
  (hfl:∀f∈fs,mA P md ops m f) (hA:ApartG fs) (hCl:∀w w',C w→Below B w w'→C w') (hCB:∀w,C w→B≤w.heap.size) (hstB:∀Φ,st Φ→∀x y,Φ x→Below B x y→Φ y)
  (hdf:∀(j:Nat) (o:Oper) c,ops[j]?=some o→o.op≠.defer c) (hL:∀listed a ac w Φ,HeadInv md ops m listed→C w→Φ w→L listed a Φ→zS fs B listed a ac w→wpAnyIn (Fence.wide.inRound lp) mr P md ops Q' g listed ac w) :
  ∀(f:Nat) (listed:Array Bool) (a ac:Act) (w:World) (Φ:Fact),HeadInv md ops m listed→C w→st Φ→Φ w→zS fs B listed a ac w→eM P md ops C st (wantsG fs) (nsG fs) m ks L f listed a Φ→wpAnyIn (Fence.wide.inRound lp) mr P md ops Q' (f+g) listed ac w:=by
 intro f
 induction f with
 |zero=>intro listed a ac w Φ inv hw hst hp hr h;rw[Nat.zero_add];exact hL _ _ _ _ _ inv hw hp h hr
 |succ f ih=>
  intro listed a ac w Φ inv hw hst hp hr h;rw[show f+1+g=(f+g)+1 by omega]
  refine⟨fun h0=>absurd h0 h.1,fun i hi=>?_⟩
  obtain⟨him,h1⟩:=h.2 i hi;have hun:=(mem_ready.1 hi).1;obtain⟨bs,⟨hbs,hnd1,hnd2⟩,hlst,hall,rfl⟩:=hr;by_cases hin:i∈nsG fs
  ·unfold cOpG at h1
   rw[if_pos hin]at h1;rcases List.mem_append.1 hin with hin1|hin2
   ·obtain⟨F,hF,rfl⟩:=List.mem_map.1 hin1
    obtain⟨_,⟨oa,ho,hd,hgd,hrun,_⟩,hfs⟩:=hfl F hF;unfold wpOpIn;simp only[ho];rw[if_pos (by simp[Region.wanted,hgd])]
    refine wC (fun c=>hdf _ _ c ho) (hrun _ _) ?_
    show wpAnyIn (Fence.wide.inRound lp) mr P md ops Q' (f+g) (listed.setIfInBounds F.n true) ((bG bs a).put oa.dst (.pointer (some ⟨w.heap.size,0,none⟩))) (w.alloc (.cells F.zs F.t))
    rw[hd];have hba:Below B w (w.alloc (.cells F.zs F.t)):=(Below.refl _ _).alloc (hCB _ hw) _;have hnow:F.now (listed.setIfInBounds F.n true)=F.zs:=by
     unfold FG.now;cases hs:F.hs with
     |false=>rfl
     |true=>
      obtain⟨_,hne,os,hos,_,_,_,_,⟨e,he,hb,hen⟩,_⟩:=hfs hs;rw[getD_set_ne false (Ne.symm hne)];cases hl:listed.getD F.sn false with
      |false=>rfl
      |true=>
       have:=inv.closed F.sn os hos hl e he hb;rw[hen,getD_both hun]at this;cases this
    refine ih _ a _ _ Φ (inv.set hi him) (hCl _ _ hw hba) hst (hstB _ hst _ _ hp hba) ⟨(F,w.heap.size)::bs,⟨fun p hp'=>?_,?_,?_⟩,fun p hp'=>?_,fun f' hf' hl'=>?_,rfl⟩ h1.2
    ·rcases List.mem_cons.1 hp' with rfl|hp'
     ·exact⟨hF,hCB _ hw,by rw[hnow];exact BK.new w _ _⟩
     ·obtain⟨q1,q2,q3⟩:=hbs p hp'
      exact⟨q1,q2,by rw[FG.now_set (fun hs=>hA.ns _ q1 _ hF hs)];exact q3.alloc _⟩
    ·rw[List.map_cons]
     refine List.nodup_cons.2 ⟨fun hmem=>?_,hnd1⟩
     obtain⟨p,hp',hpe⟩:=List.mem_map.1 hmem;have:=hlst p hp';rw[hpe,getD_both hun]at this;cases this
    ·rw[List.map_cons]
     refine List.nodup_cons.2 ⟨fun hmem=>?_,hnd2⟩
     obtain⟨p,hp',hpe⟩:=List.mem_map.1 hmem;have:=(hbs p hp').2.2.lt;simp only at hpe;omega
    ·rcases List.mem_cons.1 hp' with rfl|hp'
     ·simp[inv.size];omega
     ·exact getD_set_true (hlst p hp')
    ·rw[List.map_cons]
     by_cases he:F.n=f'.n
     ·rw[he];exact List.mem_cons_self ..
     ·rw[getD_set_ne false he]at hl'
      exact List.mem_cons_of_mem _ (hall f' hf' hl')
   ·obtain⟨F,hF,rfl⟩:=List.mem_map.1 hin2
    obtain⟨hF,hs⟩:=List.mem_filter.1 hF;obtain⟨_,hne,os,hos,hdst,hgd,hsl,hxl,⟨e,he,hb,hen⟩,hrun⟩:=(hfl F hF).2.2 hs;obtain⟨_,os',hos',hdone⟩:=mem_ready.1 hi;rw[hos]at hos';cases hos'
    have hnl:=hdone e he hb;rw[hen]at hnl;obtain⟨p,hp',hpe⟩:=List.mem_map.1 (hall F hF hnl);obtain⟨q1,q2,q3⟩:=hbs p hp';obtain⟨F',b⟩:=p;have hFF:F'=F:=cP hA.n q1 hF hpe;subst hFF;simp only at q2 q3;obtain⟨hvx,hdz⟩:=h1.1 F' hF hs rfl;have hzs:F'.now listed=F'.zs:=by
     unfold FG.now;rw[hs,getD_both hun]
     rfl
    rw[hzs]at q3;have hd1:(bG bs a).eval (.tmp F'.d) = .pointer (some ⟨b,0,none⟩):=putsG_d bs a F' b (tQ (B:=B) (listed:=listed) (w:=w) hA (fun p hp=>(hbs p hp).1) hnd1) hp' hdz
    have hd2:(bG bs a).eval (.tmp F'.x)=F'.vx:=by rw[putsG_x bs a (fun p hp=>hA.x _ hF _ (hbs p hp).1)];exact hvx
    obtain⟨w',hr1,hr2,hr3,hr4,hr5⟩:=hrun (bG bs a) w b hd1 hd2 q3;unfold wpOpIn;simp only[hos];rw[if_pos (by simp[Region.wanted,hgd])]
    refine tS (fun c=>hdf _ _ c hos) hr1 ?_
    show wpAnyIn (Fence.wide.inRound lp) mr P md ops Q' (f+g) (listed.setIfInBounds F'.sn true) ((bG bs a).put os.dst undef) w'
    rw[hdst];have hbw:Below B w w':=hr3.mono q2;refine ih _ a _ _ Φ (inv.set hi him) (hCl _ _ hw hbw) hst (hstB _ hst _ _ hp hbw) ⟨bs,⟨fun p2 hp2=>?_,hnd1,hnd2⟩,fun p2 hp2=>getD_set_true (hlst p2 hp2),fun f' hf' hl'=>?_,rfl⟩ h1.2
    ·obtain⟨r1,r2,r3⟩:=hbs p2 hp2
     refine⟨r1,r2,?_⟩
     by_cases hpb:p2.2=b
     ·have hpp:p2=(F',b):=cP hnd2 hp2 hp' hpb
      subst hpp;have hz:F'.sn<listed.size:=by rw[inv.size];omega
      have:F'.now (listed.setIfInBounds F'.sn true)=F'.cs:=by
       unfold FG.now;rw[hs];simp[hz]
      rw[this];exact hr2
     ·have hps:p2.1.hs=true→p2.1.sn≠F'.sn:=fun h1 h2=>by
       have:=hA.s _ r1 _ hF h1 hs h2;have hn:p2.1.n=(F',b).1.n:=by rw[this]
       have:=cP hnd1 hp2 hp' hn;rw[this]at hpb;exact hpb rfl
      rw[FG.now_set hps];exact r3.same (hr5 _ hpb)
    ·rw[getD_set_ne false (fun e=>hA.ns _ hF _ hf' hs e)]at hl'
     exact hall f' hf' hl'
  ·have key:∀a' w' Φ',C w'→st Φ'→Φ' w'→Below w.heap.size w w'→eM P md ops C st (wantsG fs) (nsG fs) m ks L f (listed.setIfInBounds i true) a' Φ'→wpAnyIn (Fence.wide.inRound lp) mr P md ops Q' (f+g) (listed.setIfInBounds i true) (bG bs a') w':=by
    intro a' w' Φ' hw' hst' hp' hb h2;refine ih _ a' _ w' Φ' (inv.set hi him) hw' hst' hp' ⟨bs,⟨fun p hp=>?_,hnd1,hnd2⟩,fun p hp=>getD_set_true (hlst p hp),fun f' hf' hl'=>?_,rfl⟩ h2
    ·obtain⟨q1,q2,q3⟩:=hbs p hp
     exact⟨q1,q2,by rw[FG.now_set (fun hs e=>hin (by rw[←e];exact zU q1 hs))];exact q3.below hb q3.lt⟩
    ·rw[getD_set_ne false (fun e:i=f'.n=>hin (by rw[e];exact zT hf'))]at hl'
     exact hall f' hf' hl'
   unfold cOpG at h1;rw[if_neg hin]at h1;unfold wpOpIn;cases ho:ops[i]? with
   |none=>
    simp only[ho]at h1 ⊢;exact key a w Φ hw hst hp (Below.refl _ _) h1
   |some o=>
    simp only[ho]at h1 ⊢;have hapart:∀p∈bs,p.1.d∉o.looksAt ops∧o.dst≠some p.1.d:=fun p hp=>by
     obtain⟨q1,_,_⟩:=hbs p hp;obtain⟨_,⟨oa,_,hd,_,_,hap⟩,_⟩:=hfl p.1 q1;obtain⟨p1,p2,_⟩:=Oper.apart_spec (hap i o ho him (fun e=>hin (by rw[e];exact zT q1)) (fun hs e=>hin (by rw[e];exact zU q1 hs)))
     exact⟨p1 _ hd,p2 _ hd⟩
    have hpe:execOp (bG bs a).eval o=execOp a.eval o:=kR (fun cs q=>hsel i o cs q ho) bs a (fun p hp=>(hapart p hp).1)
    have hpw:Region.wanted o (yielded ops (bG bs a).tmps)=Region.wanted o (yielded ops a.tmps):=iK bs a (fun p hp=>(hapart p hp).1)
    have hpp:∀v,bG bs (a.put o.dst v)=(bG bs a).put o.dst v:=fun v=>mZ bs a (fun p hp=>(hapart p hp).2)
    rw[hpw];by_cases hw':Region.wanted o (yielded ops a.tmps)=true
    ·rw[if_pos hw']at h1 ⊢
     skip
     by_cases hik:i∈ks
     ·rw[if_pos hik]at h1
      have h2:=h1 w hw hp;unfold callAt at h2;rw[←hpe]at h2;refine tN (P:=P) (o:=o) (a:=bG bs a) (fun c=>hdf _ _ c ho) h2 (fun v w' ⟨q1,Φ',q2,q3,q4,q5⟩=>?_)
      rw[←hpp v];exact key _ w' Φ' (hCl _ _ hw (q1.mono (hCB _ hw))) q2 q4 q1 q5
     ·rw[if_neg hik]at h1
      obtain⟨v,h2,h3⟩:=h1;have h4:=h2 w hw;unfold qAt at h4;rw[←hpe]at h4;refine sC (P:=P) (o:=o) (a:=bG bs a) (fun c=>hdf _ _ c ho) h4 ?_
      rw[←hpp v];exact key _ w Φ hw hst hp (Below.refl _ _) h3
    ·rw[if_neg hw']at h1 ⊢
     rw[←hpp undef];exact⟨fun _ _=>trivial,key _ w Φ hw hst hp (Below.refl _ _) h1⟩
theorem nX {id:Nat} {Q:Exit→Act→World→Prop} {a:Act} {w:World} {l:List Oper} (m:Nat) (fs:List FG) (ks:List Nat) (hm:P.follows .mixedOrders=true)
  (hB:(okB .any l.toArray m ks&&fY l.toArray)=true) (hfl:∀f∈fs,mA P .any l.toArray m f) (hA:ApartG fs)
  (h:eS P l.toArray (fun w'=>∃p:Regrown,w'=grow (redrawn w p.d) p.os) (fun Φ=>∀x y,Φ x→Below w.heap.size x y→Φ y) (wantsG fs) (nsG fs) ks (fun a' Φ=>∀w',Below w.heap.size w w'→Φ w'→∀bs,wG fs w.heap.size (Array.replicate l.toArray.size true) w' bs→(∀f∈fs,f.n∈bs.map (·.1.n))→wpListIn (Fence.wide.inRound lp) mr P l.toArray Q (l.drop m) (bG bs a') w') 0 (l.take m) a (fun _=>True)) :
  (Code.region id l.toArray true).wpIn (Fence.wide.inRound lp) mr P Q a w:=by
 simp only[okB,Region.lexTailB,Bool.and_eq_true,decide_eq_true_eq]at hB;obtain⟨⟨⟨⟨⟨⟨hsel,hn⟩,hs⟩,hc⟩,hlex⟩,hch,hin⟩,hndf⟩:=hB;have hn':m<l.length:=by simpa using hn
 have htl:(l.take m).length=m:=by simp;omega
 have hdl:(l.drop m).length=l.toArray.size-m:=by simp
 have hCl:∀w1 w2:World,(∃p:Regrown,w1=grow (redrawn w p.d) p.os)→Below w.heap.size w1 w2→∃p:Regrown,w2=grow (redrawn w p.d) p.os:=
  fun w1 w2 ⟨p,hp⟩ hb=>by subst hp;exact regrown_of_below ((below_regrown w p.d p.os).trans hb)
 have hCB:∀w1:World,(∃p:Regrown,w1=grow (redrawn w p.d) p.os)→w.heap.size≤w1.heap.size:=fun w1 ⟨p,hp⟩=>by subst hp;exact(below_regrown w p.d p.os).size
 have inv0:HeadInv .any l.toArray m (Array.replicate l.toArray.size false):=
  ⟨by simp,fun j oj _ hl=>(by rw[getD_replicate_false]at hl;cases hl),fun t _ ht=>getD_in (by simpa using ht) (getD_replicate_false _ _)⟩
 have H:=kQ (md:=.any) (g:=l.toArray.size-m) (p6 hfl) (fun w1 w2 hc hb=>hCl w1 w2 hc (hb.mono (hCB w1 hc))) hsel hs hc hn hch (fM ks hin) (gS ks hin) (l.take m) 0 _ a (fun _=>True) (fun j hj=>by
  have hj':j<m:=by rw[htl]at hj;exact hj
  simp[hj']) (by simpa using htl) inv0 (fun _ _ _ _=>trivial) ⟨w,⟨⟨w.drawn,#[]⟩,by rw[grow_empty];rfl⟩,trivial⟩ (fun j hj=>by omega) (by rw[htl];exact hlex) h
 refine wpIn_region_any hm ?_
 have:=mB (Q':=Q) (g:=l.toArray.size-m) (B:=w.heap.size) hn (lp:=lp) (mr:=mr) (Region.noSelect_spec hsel) hfl hA hCl hCB (fun Φ h x y=>h x y) (fB hndf)
  (fun listed a' ac w' Φ inv hw' hp hL hr=>by
   obtain⟨hL1,hL2⟩:=hL;obtain⟨p,hp'⟩:=hw';obtain⟨bs,hmade,_,hall,rfl⟩:=hr;have hdone:∀i,i<m→listed.getD i false=true:=fun i hi=>by
    cases e:listed.getD i false with
    |true=>rfl
    |false=>
     exfalso
     have hun:listed.getD i true=false:=getD_in (by have:=inv.size;omega) e
     have hB1:=hL1;have hsz:l.toArray.size-m=(l.toArray.size-(m+1))+1:=by omega
     rw[hsz]at hB1;simp only[Region.seqB,Bool.and_eq_true,decide_eq_true_eq]at hB1;exact tail_waits hs hc hn inv _ i rfl hi hun m (Nat.le_refl _) (by rw[hB1.1];simp)
   have hin:∀f∈fs,f.n∈bs.map (·.1.n):=fun f hf=>hall f hf (hdone _ (hfl f hf).1)
   have hmade':wG fs w.heap.size (Array.replicate l.toArray.size true) w' bs:=by
    refine⟨fun p hp=>?_,hmade.2⟩
    obtain⟨q1,q2,q3⟩:=hmade.1 p hp;refine⟨q1,q2,?_⟩
    have:p.1.now (Array.replicate l.toArray.size true)=p.1.now listed:=by
     unfold FG.now;cases hs:p.1.hs with
     |false=>rfl
     |true=>
      have h1:=((hfl _ q1).2.2 hs).1;rw[hdone _ h1];have h2:p.1.sn<l.length:=by omega
      simp[h2]
    rw[this];exact q3
   have:=dB (md:=.any) (Q':=Q) (l.drop m) m listed (bG bs a') w' (fun j=>by simp[List.getElem?_drop]) (by rw[hdl];exact hL1) (hL2 w' (by rw[hp'];exact below_regrown w p.d p.os) hp bs hmade' hin)
   rwa [hdl]at this) _ _ _ _ _ (fun _=>True) inv0 ⟨⟨w.drawn+1,#[]⟩,by rw[grow_empty]⟩ (fun _ _ _ _=>trivial) trivial ⟨[],⟨fun p hp=>(by cases hp),List.nodup_nil,List.nodup_nil⟩,fun p hp=>(by cases hp),fun f _ hl=>(by rw[getD_replicate_false]at hl;cases hl),rfl⟩ H
 rw[htl,show m+(l.toArray.size-m)=l.toArray.size by omega]at this
 exact this
theorem nY {id:Nat} {Q:Exit→Act→World→Prop} {a:Act} {w:World} {l:List Oper} (m n1 n2 s1:Nat) (ks:List Nat) (t1 t2:TypeId) (zs1 zs2 cs1:Array Value) (d1 d2 x1:Tmp) (vx:Value) (oa1 oa2 os1:Oper) (hm:P.follows .mixedOrders=true)
  (hlt:n1<m∧n2<m∧s1<m∧n1≠n2∧s1≠n1∧s1≠n2∧d1≠d2∧x1≠d1∧x1≠d2)
  (hoa1:l.toArray[n1]?=some oa1) (hda1:oa1.dst=some d1) (hga1:oa1.guard=none) (hrun1:∀(a:Act) (w:World),(execOp a.eval oa1).run P w = .ok (.value (.pointer (some ⟨w.heap.size,0,none⟩))) (w.alloc (.cells zs1 t1)))
  (hoa2:l.toArray[n2]?=some oa2) (hda2:oa2.dst=some d2) (hga2:oa2.guard=none) (hrun2:∀(a:Act) (w:World),(execOp a.eval oa2).run P w = .ok (.value (.pointer (some ⟨w.heap.size,0,none⟩))) (w.alloc (.cells zs2 t2)))
  (hos1:l.toArray[s1]?=some os1) (hds1:os1.dst=none) (hgs1:os1.guard=none) (hx1:(os1.looksAt l.toArray).contains x1=true) (haf:(os1.after.any fun e=>Region.binds .any e&&e.on == n1)=true)
  (hrs1:∀(a:Act) (w:World) (b:Nat),a.eval (.tmp d1) = .pointer (some ⟨b,0,none⟩)→a.eval (.tmp x1)=vx→BK w b t1 zs1→∃w',(execOp a.eval os1).run P w = .ok .skip w'∧BK w' b t1 cs1∧Below b w w'∧w'.heap.size=w.heap.size∧∀k,k≠b→w'.heap[k]?=w.heap[k]?)
  (hB:((okB .any l.toArray m ks&&fY l.toArray)&&(j5 l.toArray m n1 s1 oa1&&j5 l.toArray m n2 n2 oa2))=true)
  (h:eS P l.toArray (fun w'=>∃p:Regrown,w'=grow (redrawn w p.d) p.os) (fun Φ=>∀x y,Φ x→Below w.heap.size x y→Φ y) (fun i a=>s1=i→a.eval (.tmp x1)=vx∧d1<a.tmps.size) [n1,n2,s1] ks (fun a' Φ=>∀b1 b2 w',Below w.heap.size w w'→Φ w'→w.heap.size≤b1→w.heap.size≤b2→b1≠b2→BK w' b1 t1 cs1→BK w' b2 t2 zs2 →
   wpListIn (Fence.wide.inRound lp) mr P l.toArray Q (l.drop m) ((a'.put (some d1) (.pointer (some ⟨b1,0,none⟩))).put (some d2) (.pointer (some ⟨b2,0,none⟩))) w') 0 (l.take m) a (fun _=>True)) :
  (Code.region id l.toArray true).wpIn (Fence.wide.inRound lp) mr P Q a w:=by
 obtain⟨q1,q2,q3,q4,q5,q6,q7,q8,q9⟩:=hlt;obtain⟨hB1,hB23⟩:=Bool.and_eq_true_iff.1 hB;obtain⟨hB2,hB3⟩:=Bool.and_eq_true_iff.1 hB23;have hmn:m<l.length:=by
  have:=hB1;simp only[okB,Region.lexTailB,Bool.and_eq_true,decide_eq_true_eq]at this;have h2:=this.1.1.1.1.1.2;simpa using h2
 refine nX m [⟨n1,d1,t1,zs1,true,s1,x1,vx,cs1⟩,⟨n2,d2,t2,zs2,false,m,x1,vx,zs2⟩] ks hm hB1 (fun f hf=>?_) ⟨?_,?_,?_,?_,?_⟩ ?_
 ·simp only[List.mem_cons,List.not_mem_nil,or_false]at hf
  rcases hf with rfl|rfl
  ·refine⟨q1,⟨oa1,hoa1,hda1,hga1,hrun1,fun j oj h1 h2 h3 h4=>dZ hB2 j oj h1 h2 h3 (h4 rfl)⟩,fun _=>⟨q3,q5,os1,hos1,hds1,hgs1,fun cs b e=>?_,by simpa using hx1,?_,hrs1⟩⟩
   ·simp only[okB,Region.lexTailB,Bool.and_eq_true,decide_eq_true_eq]at hB1
    exact Region.noSelect_spec hB1.1.1.1.1.1.1 s1 os1 cs b hos1 e
   ·obtain⟨e,he,hb⟩:=Array.any_eq_true'.1 haf
    simp only[Bool.and_eq_true,beq_iff_eq]at hb;exact⟨e,he,hb.1,hb.2⟩
  ·exact⟨q2,⟨oa2,hoa2,hda2,hga2,hrun2,fun j oj h1 h2 h3 _=>dZ hB3 j oj h1 h2 h3 h3⟩,fun h=>by cases h⟩
 ·simp[q4]
 ·simp[q7]
 ·intro f hf f' hf' h1 h2 _
  simp only[List.mem_cons,List.not_mem_nil,or_false]at hf hf';rcases hf with rfl|rfl<;>rcases hf' with rfl|rfl<;>first|rfl|exact absurd h2 Bool.false_ne_true|exact absurd h1 Bool.false_ne_true
 ·intro f hf f' hf' h1
  simp only[List.mem_cons,List.not_mem_nil,or_false]at hf hf';rcases hf with rfl|rfl<;>rcases hf' with rfl|rfl<;>first|exact q5|exact q6|exact absurd h1 Bool.false_ne_true
 ·intro f hf f' hf'
  simp only[List.mem_cons,List.not_mem_nil,or_false]at hf hf';rcases hf with rfl|rfl<;>rcases hf' with rfl|rfl<;>first|exact q8|exact q9
 ·refine wpCG_end (fun i a h f hf hs he=>?_) (fun a' Φ h w' h1 h2 bs h3 h4=>?_) _ _ _ _ h
  ·simp only[List.mem_cons,List.not_mem_nil,or_false]at hf
   rcases hf with rfl|rfl
   ·exact h he
   ·cases hs
  obtain⟨h5,h6,h7⟩:=h3;have hs1l:s1<l.length:=by omega
  have hnow:(⟨n1,d1,t1,zs1,true,s1,x1,vx,cs1⟩ : FG).now (Array.replicate l.toArray.size true)=cs1:=by simp[FG.now,hs1l]
  match bs,h4,h5,h6,h7 with
  | [],h4,_,_,_=>exact absurd (h4 _ (List.mem_cons_self ..)) (by simp)
  | [p],h4,_,_,_=>
   exfalso
   have e1:=h4 ⟨n1,d1,t1,zs1,true,s1,x1,vx,cs1⟩ (by simp)
   have e2:=h4 ⟨n2,d2,t2,zs2,false,m,x1,vx,zs2⟩ (by simp)
   simp only[List.map_cons,List.map_nil,List.mem_singleton]at e1 e2;exact q4 (e1.trans e2.symm)
  | [(f,b),(f',b')],_,h5,h6,h7=>
   obtain⟨p1,p2,p3⟩:=h5 (f,b) (by simp)
   obtain⟨r1,r2,r3⟩:=h5 (f',b') (by simp)
   simp only[List.mem_cons,List.not_mem_nil,or_false]at p1 r1;simp only[List.map_cons,List.map_nil,List.nodup_cons,List.mem_singleton]at h6 h7;rcases p1 with rfl|rfl<;>rcases r1 with rfl|rfl
   ·exact absurd rfl h6.1
   ·have:=h b b' w' h1 h2 p2 r2 h7.1 (by rw[hnow]at p3;exact p3) r3
    show wpListIn (Fence.wide.inRound lp) mr P l.toArray Q (l.drop m) ((a'.put (some d2) _).put (some d1) _) w'
    rw[Act.put_comm a' _ _ (fun d hd' e=>by cases hd';cases e;exact q7 rfl)]
    exact this
   ·exact h b' b w' h1 h2 r2 p2 (fun e=>h7.1 e.symm) (by rw[hnow]at r3;exact r3) p3
   ·exact absurd rfl h6.1
  |p::q::r::bs,_,h5,h6,_=>
   exfalso
   have e1:=(h5 p (by simp)).1
   have e2:=(h5 q (by simp)).1
   have e3:=(h5 r (by simp)).1
   simp only[List.mem_cons,List.not_mem_nil,or_false]at e1 e2 e3;rcases e1 with e1|e1<;>rcases e2 with e2|e2<;>rcases e3 with e3|e3<;>simp[e1,e2,e3]at h6
end
def aAh (l:List Oper) (a:Act):Act:=l.foldl (fun a o=>a.put o.dst undef) a
theorem mC {P:Program} {ops:Array Oper} {C:World→Prop} {Q:Act→Prop} {d:Tmp} {g:Nat} {b:Bool} (hgg:(ops[g]?).bind (·.dst)=some d):∀(n:Nat) (l:List Oper) (a:Act),a.tmps[d]?=some (.bool (!b)) →
  (l.take n).all (fun q=>q.guard == some (g,b)&&q.dst != some d)=true→wpQuiet P ops C Q (l.drop n) (aAh (l.take n) a)→wpQuiet P ops C Q l a
 |0,l,a,_,_,h=>by simpa[aAh]using h
 |n+1,[],a,_,_,h=>by simpa[aAh]using h
 |n+1,o::l,a,hd,hall,h=>by
  simp only[List.take_succ_cons,List.all_cons,Bool.and_eq_true,beq_iff_eq,bne_iff_ne]at hall;obtain⟨⟨hg,hne⟩,hall⟩:=hall;have hw:Region.wanted o (yielded ops a.tmps)=false:=by
   unfold Region.wanted yielded;rw[hg];simp only[hgg,Option.bind_some,hd];cases b<;>rfl
  unfold wpQuiet;rw[if_neg (by rw[hw];simp)]
  refine mC hgg n l _ ?_ (by simpa using hall) (by simpa[aAh]using h)
  cases ho:o.dst with
  |none=>exact hd
  |some d'=>
   have hdd:d'≠d:=fun e=>hne (by rw[ho,e])
   simp only[Act.put];rw[Array.getElem?_setIfInBounds_ne hdd]
   exact hd
theorem wH {P:Program} {ops:Array Oper} {C:World→Prop} {Q:Act→Prop} {o:Oper} {rest:List Oper} {a:Act} (x:Operand) (d:Tmp) (g n:Nat) (b:Bool) (ho:o.op = .move x) (hd:o.dst=some d) (hgd:o.guard=none)
  (hv:a.eval x = .bool (!b)) (hsz:d<a.tmps.size) (hgg:(ops[g]?).bind (·.dst)=some d) (hall:(rest.take n).all (fun q=>q.guard == some (g,b)&&q.dst != some d)=true)
  (h:∀a',a'=aAh (rest.take n) (a.put (some d) (.bool (!b)))→wpQuiet P ops C Q (rest.drop n) a'):wpQuiet P ops C Q (o::rest) a:=by
 unfold wpQuiet;rw[if_pos (by simp[Region.wanted,hgd])]
 refine⟨.bool (!b),fun w _=>?_,?_⟩
 ·unfold Oper.quietAt execOp
  rw[ho];simp only[hv];exact⟨rfl,rfl⟩
 ·rw[hd]
  refine mC hgg n rest _ ?_ hall (h _ rfl)
  simp only[Act.put];rw[Array.getElem?_setIfInBounds_self_of_lt hsz]
variable {k:Nat} {ns ks:List Nat} {Lq:Act→Fact→Prop} {o:Oper} {rest:List Oper} {a:Act} {Φ:Fact}
theorem mD (h:Lq a Φ):eS P ops C st G ns ks Lq k [] a Φ:=h
theorem nB (h1:k∉ns) (h2:k∉ks) (h:∀K:Act→Prop,(∀a,eS P ops C st G ns ks Lq (k+1) rest a Φ→K a)→if Region.wanted o (yielded ops a.tmps) then (∃v,(∀w,C w→qAt P o a w v)∧K (a.put o.dst v)) else K (a.put o.dst undef)) :
  eS P ops C st G ns ks Lq k (o::rest) a Φ:=by
 unfold eS;rw[if_neg h1];have:=h _ (fun _ h=>h)
 by_cases hw:Region.wanted o (yielded ops a.tmps)=true
 ·rw[if_pos hw]at this
  rw[if_pos hw,if_neg h2];exact this
 ·rw[if_neg hw]at this
  rw[if_neg hw];exact this
theorem gD (h1:k∈ns) (hg:G k a) (h:eS P ops C st G ns ks Lq (k+1) rest a Φ):eS P ops C st G ns ks Lq k (o::rest) a Φ:=by
 unfold eS;rw[if_pos h1];exact⟨hg,h⟩
theorem aCA {ι:Type} (f:FuncId) (args:Array Value) (v:ι→Value) (h1:k∉ns) (h2:k∈ks) (hg:Region.wanted o (yielded ops a.tmps)=true) (hx:∀w,(execOp a.eval o).run P w = .ok (.enter f args) w) (hst:st Φ) (hcl:∀w w',Φ w→Below w.heap.size w w'→Φ w')
  (hc:∀w,C w→Φ w→Calls P f args w (fun e w'=>∃i,e = .returned (v i)∧Below w.heap.size w w')) (h:∀i,eS P ops C st G ns ks Lq (k+1) rest (a.put o.dst (v i)) Φ) :
  eS P ops C st G ns ks Lq k (o::rest) a Φ:=by
 unfold eS;rw[if_neg h1,if_pos hg,if_pos h2];intro w hw hp;unfold callAt;rw[hx];refine⟨rfl,(hc w hw hp).mono ?_⟩
 rintro e w' ⟨i,rfl,h4⟩;exact⟨_,rfl,h4,Φ,hst,fun _ h=>h,hcl _ _ hp h4,h i⟩
end
end Go.Proofs.YtjlkeoppppfeiaaGreat
