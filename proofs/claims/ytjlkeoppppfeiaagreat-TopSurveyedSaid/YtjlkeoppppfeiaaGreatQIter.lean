/- Lemmas. -/
import Derived.RangeFuncNested
import Derived.RangeFuncBound
import Derived.RangeFuncCalls
import Derived.RangeFuncLeaves
import Derived.Shelf.Abstract
import Derived.Shelf.RegionOpen
import Derived.OwnWalkIn
import Derived.TacticsInMore
import Derived.LoopNIn
import Derived.LoopIn
import Derived.BigRegionIn
import Derived.Test.YtjlkeoppppfeiaaGreatQLeaf
import Derived.Test.YtjlkeoppppfeiaaGreatQValid
import Derived.Test.YtjlkeoppppfeiaaGreatQReg
import Derived.BigQuiet
import Derived.Deep.CutBlock
namespace Go.Proofs.YtjlkeoppppfeiaaGreat
open Go.RowKit Go.Shelf Go.Proofs
attribute [local go_sem] Oper.semAt_some
abbrev BP:={ x:Int×Piece // pOk x.2=true∧0≤x.1∧x.1≤500000000 }
def bpV (x:BP):Array Value:=#[.int .i64 x.1.1,.agg #[.int .i64 x.1.2.len,.int .i64 x.1.2.turn,.int .i64 x.1.2.rad,.int .i64 x.1.2.wid,.int .i64 x.1.2.sur]]
def its:Int→List Piece→List (Int×Piece)
 |_,[]=>[]
 |b,p::ps=>(b,p)::its (b+p.len) ps
theorem lG:∀(b:Int) (ps:List Piece),(its b ps).length=ps.length
 |_,[]=>rfl
 |b,p::ps=>by simp[its,lG (b+p.len) ps]
theorem sS:∀(b:Int) (ps:List Piece) (k:Nat) (h:k<ps.length),(its b ps)[k]?=some (b+sumL (ps.take k),ps[k])
 |_,[],k,h=>by simp at h
 |b,p::ps,0,_=>by simp[its,sumL]
 |b,p::ps,k+1,h=>by
  have:=sS (b+p.len) ps k (by simpa using h)
  simp only[its,List.getElem?_cons_succ,this,List.take_succ_cons,List.getElem_cons_succ]
  simp[sumL];omega
theorem aBJ (ps:List Piece) (k:Nat) (h:k<ps.length):(its 0 ps).take (k+1)=(its 0 ps).take k++[(sumL (ps.take k),ps[k])]:=by
 have h1:=sS 0 ps k h;rw[Int.zero_add]at h1;rw[List.take_add_one,h1]
 rfl
def KB (n0 bm:Nat) (W W':World):Prop:=Below n0 W W'∧W'.heap[bm]?=W.heap[bm]?
theorem KB.refl (n0 bm:Nat) (W:World):KB n0 bm W W:=⟨Below.refl _ _,rfl⟩
theorem KB.t {n0 bm:Nat} {A B C:World} (h:KB n0 bm A B) (k:KB n0 bm B C):KB n0 bm A C:=⟨h.1.trans k.1,k.2.trans h.2⟩
theorem KB.b {n0 bm:Nat} {w:World} (hn:n0≤w.heap.size) (hm:bm<w.heap.size) (W:World) (l:Nat) (o o':Obj) (hl:w.heap.size≤l) (h:W.heap[l]?=some o) (h1:o.isCells=false) (h2:o.isWalk=false):KB n0 bm W (W.putObj l o'):=
 ⟨belowK_b hn W l o o' hl h h1 h2,World.putObj_heap_other (by omega)⟩
theorem KB.of_below {n0 bm B:Nat} {W W':World} (h:Below B W W') (hn:n0≤B) (hm:bm<B):KB n0 bm W W':=⟨h.mono hn,h.block _ hm⟩
theorem KB.setCell {n0 bm:Nat} {W W':World} (h:KB n0 bm W W') {p:Addr} (h1:n0≤p.block) (h2:p.block≠bm) (u:Value):KB n0 bm W (W'.setCell p u):=
 ⟨h.1.setCell h1 u,(Below.heap_setCell _ _ _ _ (Ne.symm h2)).trans h.2⟩
theorem KB.cell {n0 bm:Nat} {W W':World} (h:KB n0 bm W W') {o:Nat}:W'.cell? ⟨bm,o,none⟩=W.cell? ⟨bm,o,none⟩:=World.cell?_of_block h.2
set_option maxRecDepth 100000 in
set_option maxHeartbeats 2000000 in
theorem aC1 (n:Nat) (hn:1≤n) (l bm n0 g:Nat) (pa:Option Addr) (pn pc:Nat) (ca:Option Addr) (cn cc:Nat) (ja:Option Addr) (jn jc:Nat) (ba:Option Addr) (bq:Nat) (R:Road)
  (hl:pn≤100000) (hk:∀p∈R.ps,pOk p=true) (J Jx:List BP→World→Prop)
  (hJA:∀(s:List BP) (A B:World),J s A→A.grownBy B none→J s B)
  (hY:∀pre x W,J pre W→pre.length<pn→YieldAt Fence.wide (n-1) Tryz.prog l (bpV x) W fun e W'=>
   (e = .returned (.bool true)∧J (pre++[x]) W'∧KB n0 bm W W')∨(e = .returned (.bool false)∧Jx (pre++[x]) W'))
  (W:World) (hm:W.cell? ⟨bm,0,none⟩=some (.pointer (some ⟨g,0,none⟩))) (hbm:bm<W.heap.size) (hn0:n0≤W.heap.size) (h:MS W n0 g pa pn pc ca cn cc ja jn jc ba bq R) (h0:J [] W) :
  CallsIn Fence.wide n Tryz.prog 191 #[.func (.yield l) #[] #[],.pointer (some ⟨bm,0,none⟩)] W fun e W'=>(∃v,e = .returned v) ∧
   ((∃ys:List BP,ys.map (·.1)=its 0 R.ps∧J ys W')∨(∃pre:List BP,(∃k,k≤pn∧pre.map (·.1)=(its 0 R.ps).take k)∧Jx pre W')):=by
 have hlp:=Lib.hid h.r.p.1;have hM:=Lib.hid h;have g0:=h.c0;have g1:=h.lt;have hk':=Lib.hid hk;clear h hk;refine callsIn_of_wp Tryz.func191 rfl trivial ?_ rfl
 simp only[Tryz.ntmps191,List.size_toArray,List.length_cons,List.length_nil,Nat.reduceAdd,Nat.reduceSub,Array.replicate_succ,Array.replicate_zero,List.push_toArray,List.append_toArray,List.nil_append,List.cons_append]
 gi_wp2
 gi_loopw [11] (fun i wr=>∃(k:Nat) (pre:List BP),k≤pn∧i = .int .i64 k∧Hid (pre.map (·.1)=(its 0 R.ps).take k)∧J pre wr∧KB n0 bm W wr∧W.heap.size≤wr.heap.size)
  (fun i _=>pn-(intOf i).toNat)
 case atStart=>exact⟨0,[],Nat.zero_le _,rfl,rfl,h0,KB.refl _ _ _,Nat.le_refl _⟩
 case round=>
  obtain⟨k,pre,hkn,rfl,hpre,hJs,hnx,hsz⟩:=hrel;by_cases hlt:k<pn
  ·have hkl:k<R.ps.length:=by rw[←hlp.out];exact hlt
   have hMw:=hM.out.grow hnx.1 (Nat.le_refl _);have c3:=hMw.c3;have hmw:=hnx.cell.trans hm;obtain⟨b,off,hA,hbB,c0,c1,c2,c3',c4⟩:=PS.at_ hMw.r.p (k:=k) hkl;obtain⟨b2,off2,hA2,hbB2,d0⟩:=IS.at_ hMw.b (k:=k) (by rw[oG];omega)
   rw[wZ]at d0;have hpk:=hk'.out _ (List.getElem_mem hkl);have hpl:pre.length=k:=by
    have:=congrArg List.length hpre.out;rw[List.length_map,List.length_take,lG]at this;omega
   have hbd:0≤sumL (R.ps.take k)∧sumL (R.ps.take k)≤500000000:=by
    have h1:=eO (R.ps.take k) (fun p hp=>hk'.out p (List.mem_of_mem_take hp))
    have h2:(R.ps.take k).length≤k:=List.length_take_le ..;omega
   have hst:=Lib.hid (aBJ R.ps k hkl)
   generalize R.ps[k]'hkl=p at c0 c1 c2 c3' c4 hpk hst
   have X:∃x:BP,x.1=(sumL (R.ps.take k),p):=⟨⟨(sumL (R.ps.take k),p),hpk,hbd⟩,rfl⟩
   obtain⟨x,hx⟩:=X;have hbd1:=hbd.1;have hbd2:=hbd.2;have hz1:bm<wr.heap.size:=by omega
   have hz2:g<wr.heap.size:=by omega
   have hz3:b<wr.heap.size:=by omega
   have hz4:b2<wr.heap.size:=by omega
   have hi1:(0:Int)≤(k:Int):=by omega
   have hi2:(k:Int)<(pn:Int)+1:=by omega
   have hYx:=Lib.hid (fun W' hJ'=>hY pre x W' hJ' (by omega))
   have hpx:(pre++[x]).map (·.1)=(its 0 R.ps).take (k+1):=by rw[List.map_append,hpre.out,hst.out];simp[hx]
   have HPX:=Lib.hid hpx;clear hpx;clear hMw hbd hY;subst hA;subst hA2;have hmo:Tryz.prog.follows .mixedOrders=true:=by kernel_rfl
   have hJ2:J pre ((wr.alloc (.cells #[.int .i64 p.len,.int .i64 p.turn,.int .i64 p.rad,.int .i64 p.wid,.int .i64 p.sur] 112)).drew):=
    hJA pre wr _ hJs ⟨rfl,rfl,rfl,by simp,fun i hi _=>Below.heap_alloc wr _ i hi⟩
   have hy2:=hYx.out _ hJ2;have hbA:KB n0 bm wr ((wr.alloc (.cells #[.int .i64 p.len,.int .i64 p.turn,.int .i64 p.rad,.int .i64 p.wid,.int .i64 p.sur] 112)).drew):=KB.of_below ((Below.refl wr.heap.size wr).alloc (Nat.le_refl _) _).drew (by omega) (by omega)
   have hy3:=hy2.mono (R':=fun e W'=>∃b:Bool,e = .returned (.bool b)∧(b=true→J (pre++[x]) W'∧KB n0 bm wr W'∧wr.heap.size≤W'.heap.size)∧(b=false→Jx (pre++[x]) W')) (by
    rintro e W' (⟨rfl,h1,h2⟩|⟨rfl,h1⟩)
    ·exact⟨true,rfl,fun _=>⟨h1,hbA.t h2,by have:=h2.1.size;simp at this;omega⟩,(fun h=>by cases h)⟩
    ·exact⟨false,rfl,(fun h=>by cases h),fun _=>h1⟩)
   obtain⟨fn,tmps,assign,body,hy,hR⟩:=hy3;have HR:=Lib.hid hR;simp only[bpV,hx]at hy;clear hR hy2 hJ2 hYx
   gi_wp2
   gi_region_with_o ((refine HR.out.mono ?_;rintro e W3 ⟨b,rfl,hpost⟩;have hpost':=Lib.hid hpost;clear hpost))
   all_goals
    cases b
    ·gi_wp2
     refine bodyPost_ret (results_none rfl _ _ _) rfl ?_
     exact⟨⟨_,rfl⟩,.inr ⟨pre++[x],⟨k+1,by omega,HPX.out⟩,hpost'.out.2 (by trivial)⟩⟩
    ·have h1:=(hpost'.out.1 (by trivial)).1
     have h2:=(hpost'.out.1 (by trivial)).2.1
     have h3:=(hpost'.out.1 (by trivial)).2.2
     gi_wp2
     go_roundw
     case rel=>exact⟨k+1,pre++[x],by omega,by go_num,HPX,h1,hnx.t h2,by omega⟩
     case measure=>simp[intOf];omega
  ·obtain rfl:k=pn:=by omega
   have hall:Hid (pre.map (·.1)=its 0 R.ps):=by
    have:=hpre.out;rw[hlp.out,List.take_of_length_le (by rw[lG];exact Nat.le_refl _)]at this
    exact this
   gi_wp2
   go_end0
   exact⟨⟨_,rfl⟩,.inl ⟨pre,hall.out,hJs⟩⟩
theorem aAO (n:Nat) (hn:1≤n) (bm n0 g:Nat) (pa:Option Addr) (pn pc:Nat) (ca:Option Addr) (cn cc:Nat) (ja:Option Addr) (jn jc:Nat) (ba:Option Addr) (bq:Nat) (R:Road)
  (hl:pn≤100000) (hk:∀p∈R.ps,pOk p=true) (w:World) (hm:w.cell? ⟨bm,0,none⟩=some (.pointer (some ⟨g,0,none⟩))) (hbm:bm<w.heap.size) (hn0:n0≤w.heap.size)
  (h:MS w n0 g pa pn pc ca cn cc ja jn jc ba bq R) :
  SeqStopsK Fence.wide n Tryz.prog 191 #[.pointer (some ⟨bm,0,none⟩)] bpV (KB n0 bm) (fun ys=>ys.map (·.1)=its 0 R.ps) (fun pre=>∃k,k≤pn∧pre.map (·.1)=(its 0 R.ps).take k) pn w:=by
 intro l J Jx W hW hJ hJx hY h0;have hb:=hW.mono hn0;exact aC1 n hn l bm n0 g pa pn pc ca cn cc ja jn jc ba bq R hl hk J Jx (fun s A B hs hg=>hJ s A B none hs hg (fun r e=>by cases e)) hY W ((bc hW hbm).trans hm) (Nat.lt_of_lt_of_le hbm hW.size) (Nat.le_trans hn0 hW.size) (h.grow hb (Nat.le_refl _)) h0
theorem aC2 (g:Nat) (w:World) :
  Calls Tryz.prog 132 #[.pointer (some ⟨g,0,none⟩)] w fun e w'=>e = .returned (.func (.func 191) #[] #[.pointer (some ⟨w.heap.size,0,none⟩)])∧w'=w.alloc (.cells #[.pointer (some ⟨g,0,none⟩)] 119):=by
 go_enter Tryz.func132,Tryz.ntmps132
 go_wp2
 go_ret
 exact⟨rfl,rfl⟩
end Go.Proofs.YtjlkeoppppfeiaaGreat
namespace Go.Proofs.YtjlkeoppppfeiaaGreat
open Go.RowKit Go.Proofs
def At (ps:List Piece) (x:Int) (i:Nat):Prop:=i<ps.length∧sumL (ps.take i)≤x∧x<sumL (ps.take (i+1))
end Go.Proofs.YtjlkeoppppfeiaaGreat
namespace Go.Proofs.YtjlkeoppppfeiaaGreat
open Go.RowKit Go.Proofs
theorem OK.len {R:Road} (h:OK R):1≤sumL R.ps∧sumL R.ps≤100000:=by
 have:=(eO R.ps h.pk).1;have h1:=h.p1;exact⟨by omega,h.n1⟩
end Go.Proofs.YtjlkeoppppfeiaaGreat
namespace Go.Proofs.YtjlkeoppppfeiaaGreat
open Go.RowKit Go.Shelf Go.Sort Go.Proofs
attribute [local go_sem] Oper.semAt_some
def upt:List Piece→Int→Int
 | [],_=>0
 |p::ps,x=>if x≤0 then 0 else trn p (min x p.len)+upt ps (x-p.len)
theorem yU (ps:List Piece) (x:Int) (h:x≤0):upt ps x=0:=by
 cases ps with
 |nil=>rfl
 |cons p ps=>simp[upt,h]
theorem o6:∀(l m:List Piece) (x:Int),(∀p∈l,pOk p=true)→upt (l++m) x=upt l x+upt m (x-sumL l)
 | [],m,x,_=>by simp[upt,sumL]
 |p::l,m,x,h=>by
  have hp:=(aP (h p (List.mem_cons_self ..))).1;have ih:=o6 l m (x-p.len) (fun q hq=>h q (List.mem_cons_of_mem _ hq))
  have e:sumL (p::l)=p.len+sumL l:=by simp[sumL]
  have hs:=(eO l (fun q hq=>h q (List.mem_cons_of_mem _ hq))).1
  rw[List.cons_append,upt,upt,ih,e]
  split
  ·rw[yU m _ (by omega)];rfl
  ·rw[show x-p.len-sumL l=x-(p.len+sumL l) by omega];omega
theorem lH:∀(ps:List Piece) (b:Int) (k:Nat),(its b ps).take k=its b (ps.take k)
 | [],_,_=>by simp[its]
 |_::_,_,0=>by simp[its]
 |p::ps,b,k+1=>by simp[its,lH ps (b+p.len) k]
end Go.Proofs.YtjlkeoppppfeiaaGreat
namespace Go.Proofs.YtjlkeoppppfeiaaGreat
open Go.RowKit Go.Shelf Go.Sort Go.Proofs
def nxt (n pl:Int):List Crest→Int
 | []=>n+1
 |c::cs=>if pl<c.pos then c.pos else nxt n pl cs
def okq (ps:List Piece) (an pl q:Int):Prop:=-an≤upt ps q-upt ps pl∧upt ps q-upt ps pl≤an
structure SI (ps:List Piece) (an pl lim r:Int):Prop where
 r0:0≤r
 r1:r≤lim
 all:∀q,pl<q→q≤pl+r→okq ps an pl q
 stop:r=lim∨¬okq ps an pl (pl+r+1)
theorem SI.uniq {ps:List Piece} {an pl lim r s:Int} (h:SI ps an pl lim r) (k:SI ps an pl lim s):r=s:=by
 rcases Int.lt_trichotomy r s with hlt|heq|hgt
 ·rcases h.stop with h1|h1
  ·have:=k.r1;omega
  ·exact absurd (k.all (pl+r+1) (by have:=h.r0;omega) (by omega)) h1
 ·exact heq
 ·rcases k.stop with h1|h1
  ·have:=h.r1;omega
  ·exact absurd (h.all (pl+s+1) (by have:=k.r0;omega) (by omega)) h1
theorem SI.more {ps:List Piece} {an an' pl lim lim' r s:Int} (h:SI ps an pl lim r) (k:SI ps an' pl lim' s) (h1:an≤an') (h2:lim≤lim'):r≤s:=by
 rcases Int.lt_or_le s r with hlt|hle
 ·rcases k.stop with h3|h3
  ·have:=h.r1;omega
  ·have:=h.all (pl+s+1) (by have:=k.r0;omega) (by omega)
   exact absurd ⟨by have:=this.1;omega,by have:=this.2;omega⟩ h3
 ·exact hle
def lim (R:Road) (mo pl:Int):Int:=min (min mo (sumL R.ps-pl)) (nxt (sumL R.ps) pl R.cs-pl)
end Go.Proofs.YtjlkeoppppfeiaaGreat
namespace Go.Proofs.YtjlkeoppppfeiaaGreat
open Go.RowKit Go.Proofs
theorem uS (p:Piece) (ht:tOk p):trn p 0=0:=by
 unfold trn
 split
 ·rfl
 ·rename_i hn
  obtain⟨h1,h2⟩:=ht.2.2 hn;have:rnd (1000*0) p.rad=0:=by
   unfold rnd;rw[if_neg (by omega)]
   exact Int.ediv_eq_zero_of_lt (by omega) (by omega)
  rw[this,Int.mul_zero]
def bfP (l:List Piece):Int:=(l.map fun p=>trn p p.len).sum
theorem rC:∀(l:List Piece) (x:Int),(∀p∈l,pOk p=true)→sumL l≤x→upt l x=bfP l
 | [],_,_,_=>rfl
 |p::l,x,h,hx=>by
  have hp:=(aP (h p (List.mem_cons_self ..))).1;have e:sumL (p::l)=p.len+sumL l:=by simp[sumL]
  have hs:=(eO l (fun q hq=>h q (List.mem_cons_of_mem _ hq))).1
  rw[e]at hx;rw[upt,if_neg (by omega),rC l (x-p.len) (fun q hq=>h q (List.mem_cons_of_mem _ hq)) (by omega),Int.min_eq_right (by omega)]
  simp[bfP]
theorem aBK (ps:List Piece) (k:Nat) (h:k<ps.length) (hk:∀p∈ps,pOk p=true) (q:Int) (h0:sumL (ps.take k)≤q) (h1:q≤sumL (ps.take k)+ps[k].len) :
  upt ps q=bfP (ps.take k)+trn ps[k] (q-sumL (ps.take k)):=by
 have e:=o6 (ps.take k) (ps.drop k) q (fun p hp=>hk p (List.mem_of_mem_take hp))
 rw[List.take_append_drop,rC _ _ (fun p hp=>hk p (List.mem_of_mem_take hp)) h0,List.drop_eq_getElem_cons h,upt]at e
 rw[e]
 split
 ·rw[show q-sumL (ps.take k)=0 by omega,uS _ (fQ (hk _ (List.getElem_mem h)))]
 ·rw[Int.min_eq_left (by omega),yU _ _ (by omega),Int.add_zero]
section
variable (pl M an bg:Int)
def bfr (pre:List (Int×Piece)):Int:=(pre.map fun e=>trn e.2 e.2.len).sum
def okL (b:Int) (e:Int×Piece) (q:Int):Prop:=-an≤b+trn e.2 (q-e.1)-bg∧b+trn e.2 (q-e.1)-bg≤an
def aEm (b:Int) (e:Int×Piece):Prop:=e.1+e.2.len≤pl∨(pl<e.1+e.2.len∧e.1+e.2.len≤pl+M∧∀q,max pl e.1≤q→q≤e.1+e.2.len→okL an bg b e q)
def aEl (b:Int) (e:Int×Piece) (s0 s:Int):Prop:=
 pl<e.1+e.2.len ∧
 ((∃q0,max pl e.1≤q0∧q0≤e.1+e.2.len∧q0≤pl+M∧¬okL an bg b e q0∧(∀q,max pl e.1≤q→q<q0→okL an bg b e q)∧s=if q0=max pl e.1 then s0 else q0-1) ∨
  (pl+M<e.1+e.2.len∧(∀q,max pl e.1≤q→q≤pl+M→okL an bg b e q)∧s=if max pl e.1≤pl+M then pl+M else s0))
end
theorem yV:∀(l:List Piece) (b:Int),bfr (its b l)=bfP l
 | [],_=>rfl
 |p::l,b=>by
  have:=yV l (b+p.len);simp only[its,bfr,bfP,List.map_cons,List.sum_cons]at this ⊢;rw[this]
section
variable {ps:List Piece} {pl M an:Int}
end
end Go.Proofs.YtjlkeoppppfeiaaGreat
namespace Go.Proofs.YtjlkeoppppfeiaaGreat
open Go.RowKit Go.Shelf Go.Sort Go.Proofs
attribute [local go_sem] Oper.semAt_some
end Go.Proofs.YtjlkeoppppfeiaaGreat
namespace Go.Proofs.YtjlkeoppppfeiaaGreat
open Go.RowKit Go.Shelf Go.Sort Go.Proofs
end Go.Proofs.YtjlkeoppppfeiaaGreat
