/- Lemmas. -/
import Derived.Test.YtjlkeoppppfeiaaGreatQIter
import Derived.Deep.AppendLies
import Derived.Deep.RegionLaw
import Derived.Maps.OwnIn
namespace Go.Proofs.YtjlkeoppppfeiaaGreat
open Go.RowKit Go.Shelf Go.Sort Go.Proofs
abbrev Bd:=Int×Piece
def bC (e:Bd):List Value:=pC e.2++[.int .i64 e.1]
def bV (e:Bd):Value:=.agg #[.int .i64 e.2.len,.int .i64 e.2.turn,.int .i64 e.2.rad,.int .i64 e.2.wid,.int .i64 e.2.sur,.int .i64 e.1]
def tog (gap:Int) (x y:Bd):Bool:=decide (x.2.turn=y.2.turn)&&decide (y.1-x.1-x.2.len≤gap)
set_option maxRecDepth 100000 in
theorem aCZ (x y:Bd) (gap:Int) (q:Nat) (w:World) (hq:w.cell? ⟨q,0,none⟩=some (.int .i64 gap)) (hx:0≤x.1∧x.1≤1000000000) (hy:0≤y.1∧y.1≤1000000000) (hl:0≤x.2.len∧x.2.len≤5000) :
  Calls Tryz.prog 134 #[bV x,bV y,.pointer (some ⟨q,0,none⟩)] w fun e w'=>e = .returned (.bool (tog gap x y))∧Below w.heap.size w w':=by
 have hql:q<w.heap.size:=block_lt_of_cell hq;obtain⟨hx1,hx2⟩:=hx;obtain⟨hy1,hy2⟩:=hy;obtain⟨hl1,hl2⟩:=hl;have hw1:IntKind.i64.wrap (y.1-x.1)=y.1-x.1:=IntWalk.i64_in _ (by omega)
 have hw2:IntKind.i64.wrap (y.1-x.1-x.2.len)=y.1-x.1-x.2.len:=IntWalk.i64_in _ (by omega)
 simp only[bV];go_enter Tryz.func134,Tryz.ntmps134
 by_cases ht:x.2.turn=y.2.turn
 ·have htog:Hid (decide (y.1-x.1-x.2.len≤gap)=tog gap x y):=by simp[Hid,tog,ht]
  go_wp2_with fail
  go_ret
  exact⟨cN htog.out,((Below.refl _ _).alloc (Nat.le_refl _) _).alloc (by simp) _⟩
 ·have htog:Hid (false=tog gap x y):=by simp[Hid,tog,ht]
  go_wp2_with fail
  go_ret
  exact⟨cN htog.out,((Below.refl _ _).alloc (Nat.le_refl _) _).alloc (by simp) _⟩
end Go.Proofs.YtjlkeoppppfeiaaGreat
namespace Go.Proofs.YtjlkeoppppfeiaaGreat
open Go.RowKit Go.Proofs
section
variable {α:Type} {P:Program} {f:α→List Value} {sz:Nat} {e:TypeId} {base:Nat} {W:World} {A:Option Addr} {n c:Nat} {xs:List α} {y:α}
structure App1 (f:α→List Value) (sz:Nat) (e:TypeId) (base:Nat) (W:World) (A:Option Addr) (n c:Nat) (xs:List α) (y:α) (g c':Nat) (w':World):Prop where
 own:OW f sz e base w' (some ⟨g,0,none⟩) (n+1) c' (xs++[y])
 bel:Below base W w'
 at_:(∃b,A=some b∧b.block=g)∨g=W.heap.size
 far:∀k,k<W.heap.size→(∀b,A=some b→b.block≠k)→w'.heap[k]?=W.heap[k]?
 size:W.heap.size≤w'.heap.size
theorem sP (hown:OW f sz e base W A n c xs) (hbase:base≤W.heap.size) {g cap:Nat} {w':World}
  (h2:w'.ownsRow base e sz (.slice (some ⟨g,0,none⟩) (n+1) cap) (n+1) (xs.flatMap f++f y)) (h3:W.grownBy w' (Value.slice A n c).ownBlock) (h4:(Value.slice A n c).ownBlock=some g∨g=W.heap.size):App1 f sz e base W A n c xs y g cap w':=by
 refine⟨⟨by rw[List.flatMap_append,List.flatMap_cons,List.flatMap_nil,List.append_nil];exact h2,by simp[hown.2]⟩,⟨h3.os,h3.tape,h3.output,h3.size,fun k hk=>h3.block k (by omega) (fun e=>?_)⟩,?_,fun k hk hne=>h3.block k hk (fun e=>?_),h3.size⟩
 ·rcases A with _|g'
  ·simp[Value.ownBlock]at e
  ·simp[Value.ownBlock]at e
   have:=(hown.lt rfl).1;omega
 ·rcases h4 with h4|h4
  ·left
   rcases A with _|g'
   ·simp[Value.ownBlock]at h4
   ·simp[Value.ownBlock]at h4
    exact⟨g',rfl,h4⟩
  ·exact .inr h4
 ·rcases A with _|g'
  ·simp[Value.ownBlock]at e
  ·simp[Value.ownBlock]at e
   exact hne g' rfl e.symm
theorem aBG {N:Nat} {ty:TypeId} {cs:Array Value} (hb:BK W N ty cs) (hcs:cs.toList=f y):∀j u,(f y)[j]?=some u→W.cell? ((⟨N,0,none⟩ : Addr).add j)=some u:=by
 intro j u hj;have e0:((⟨N,0,none⟩ : Addr).add j)=⟨N,j,none⟩:=by unfold Addr.add;split<;>simp_all
 rw[e0,hb.cell j,←Array.getElem?_toList,hcs]
 exact hj
theorem aT {ops:Array Oper} {rest:List Oper} {o:Oper} {a:Act} {Q:Exit→Act→World→Prop} (hgd:o.guard=none) (s x:Operand) (t:TypeId)
  (ho:o.op = .call { callee:=.builtin .append,args:=#[s,x],argTypes:=#[t,t] })
  (base:Nat) (e:TypeId) (z:Value) (sz bytes:Nat) (ht:P.underlying t=some (.slice e)) (hi:(P.info? e).map (fun i=>(i.zero,i.size,i.bytes))=some (some z,sz,bytes))
  (hzs:z.cells.size=sz) (hsz:0<sz) (f:α→List Value) (A:Option Addr) (n c:Nat) (xs:List α) (hs:a.eval s = .slice A n c) (hown:OW f sz e base W A n c xs)
  (y:α) (cs:Array Value) (hcs:cs.toList=f y) (hcl:(f y).length=sz) (ty:TypeId) (N:Nat) (hx:a.eval x = .slice (some ⟨N,0,none⟩) 1 1) (hN:BK W N ty cs) (h1:∀u∈f y,u.oneCell'=true)
  (hbytes:(n+1)*bytes≤140737488355328) (hby:1≤bytes) (hbase:base≤W.heap.size)
  (h:∀g c' w',App1 f sz e base W A n c xs y g c' w'→wpList P ops Q rest (a.put o.dst (.slice (some ⟨g,0,none⟩) (n+1) c')) w') :
  wpList P ops Q (o::rest) a W:=by
 obtain⟨i,hi',hz,hsize,hbytes'⟩:=info_parts hi;refine wpList_append_lies W hgd s x t ho base e i z sz bytes ht hi' hz hsize hbytes' hzs hsz _ n (xs.flatMap f) hs hown.1 ⟨N,0,none⟩ 1 1 (f y) hx (by rw[hcl,Nat.one_mul]) (aBG hN hcs) h1 (by omega) ?_ hbytes hbase W.heap.size rfl ?_
 ·unfold maxLen
  have:n+1≤(n+1)*bytes:=Nat.le_mul_of_pos_right _ (by omega)
  omega
 ·intro g cap w' h2 h3 h4 _
  exact h g cap w' (sP hown hbase h2 h3 h4)
theorem uO {ops:Array Oper} {o:Oper} {a:Act} {K:Act→World→Prop} {Q:Exit→Act→World→Prop} {E:Prop} (hgd:o.guard=none) (s x:Operand) (t:TypeId)
  (ho:o.op = .call { callee:=.builtin .append,args:=#[s,x],argTypes:=#[t,t] })
  (base:Nat) (e:TypeId) (z:Value) (sz bytes:Nat) (ht:P.underlying t=some (.slice e)) (hi:(P.info? e).map (fun i=>(i.zero,i.size,i.bytes))=some (some z,sz,bytes))
  (hzs:z.cells.size=sz) (hsz:0<sz) (f:α→List Value) (A:Option Addr) (n c:Nat) (xs:List α) (hs:a.eval s = .slice A n c) (hown:OW f sz e base W A n c xs)
  (y:α) (cs:Array Value) (hcs:cs.toList=f y) (hcl:(f y).length=sz) (ty:TypeId) (N:Nat) (hx:a.eval x = .slice (some ⟨N,0,none⟩) 1 1) (hN:BK W N ty cs) (h1:∀u∈f y,u.oneCell'=true)
  (hbytes:(n+1)*bytes≤140737488355328) (hby:1≤bytes) (hbase:base≤W.heap.size)
  (h:∀g c' w',App1 f sz e base W A n c xs y g c' w'→K (a.put o.dst (.slice (some ⟨g,0,none⟩) (n+1) c')) w') :
  if Region.wanted o (yielded ops a.tmps)=true then Oper.wp P o a W K Q else E:=by
 obtain⟨i,hi',hz,hsize,hbytes'⟩:=info_parts hi;refine step_append_lies W hgd s x t ho base e i z sz bytes ht hi' hz hsize hbytes' hzs hsz _ n (xs.flatMap f) hs hown.1 ⟨N,0,none⟩ 1 1 (f y) hx (by rw[hcl,Nat.one_mul]) (aBG hN hcs) h1 (by omega) ?_ hbytes hbase W.heap.size rfl ?_
 ·unfold maxLen
  have:n+1≤(n+1)*bytes:=Nat.le_mul_of_pos_right _ (by omega)
  omega
 ·intro g cap w' h2 h3 h4 _
  exact h g cap w' (sP hown hbase h2 h3 h4)
end
end Go.Proofs.YtjlkeoppppfeiaaGreat
namespace Go.Proofs.YtjlkeoppppfeiaaGreat
open Go.RowKit Go.Shelf Go.Sort Go.Proofs
def addB (gap:Int) (gs:List (List Bd)) (x:Bd):List (List Bd):=
 match gs.getLast?.bind List.getLast? with
 |some y=>if tog gap y x then gs.dropLast++[(gs.getLast?.getD [])++[x]] else gs++[[x]]
 |none=>gs++[[x]]
def grp (gap:Int) (l:List Bd):List (List Bd):=l.foldl (addB gap) []
theorem uP (gap:Int) (l:List Bd) (x:Bd):grp gap (l++[x])=addB gap (grp gap l) x:=by simp[grp]
theorem aC0 (gap:Int) (gs:List (List Bd)) (x:Bd):∃ds g,addB gap gs x=ds++[g++[x]]:=by
 unfold addB
 split
 ·split
  ·exact⟨_,_,rfl⟩
  ·exact⟨gs,[],rfl⟩
 ·exact⟨gs,[],rfl⟩
theorem aBH (gap:Int) (l:List Bd) (y:Bd):∃ds g,grp gap (l++[y])=ds++[g++[y]]:=by
 rw[uP];exact aC0 _ _ _
theorem addB_at (gap:Int) (ds:List (List Bd)) (g:List Bd) (y x:Bd):addB gap (ds++[g++[y]]) x=if tog gap y x then ds++[g++[y]++[x]] else ds++[g++[y]]++[[x]]:=by
 simp[addB]
structure Hdr where
 A:Option Addr
 n:Nat
 c:Nat
def hC (h:Hdr):List Value:=[.slice h.A h.n h.c]
theorem mM (h:Hdr):(hC h).length=1:=rfl
theorem xE (e:Bd):(bC e).length=6:=rfl
theorem uQ:(Tryz.prog.info? 246).map (fun i=>(i.zero,i.size,i.bytes))=some (some (.agg #[.int .i64 0,.int .i64 0,.int .i64 0,.int .i64 0,.int .i64 0,.int .i64 0]),6,48):=by kernel_rfl
theorem rA:(Tryz.prog.info? 241).map (fun i=>(i.zero,i.size,i.bytes))=some (some (.slice none 0 0),1,24):=by kernel_rfl
structure GS (w:World) (base:Nat) (A:Option Addr) (n c:Nat) (gs:List (Hdr×List Bd)):Prop where
 out:OW hC 1 241 base w A n c (gs.map (·.1))
 grp:∀p∈gs,OW bC 6 246 base w p.1.A p.1.n p.1.c p.2∧p.2≠[]
 off:∀p∈gs,∀a b,p.1.A=some a→A=some b→a.block≠b.block
 last:∀ds q,gs=ds++[q]→∀p∈ds,∀a b,p.1.A=some a→q.1.A=some b→a.block≠b.block
theorem GS.nil_ (w:World) (base:Nat):GS w base none 0 0 []:=
 ⟨OW.nil_,fun p hp=>(by cases hp),fun p hp=>(by cases hp),fun ds q e=>(by simp at e)⟩
section
variable {w w':World} {base n c:Nat} {A:Option Addr} {gs ds:List (Hdr×List Bd)} {q:Hdr×List Bd}
theorem GS.call (h:GS w base A n c gs) (hb:Below w.heap.size w w'):GS w' base A n c gs:=
 ⟨h.out.call hb,fun p hp=>⟨(h.grp p hp).1.call hb,(h.grp p hp).2⟩,h.off,h.last⟩
theorem GS.push {x:Bd} {N g c':Nat} (h:GS w base A n c gs) (hN:w.heap.size≤N) (hw:∀k,k<w.heap.size→(∀b,A=some b→b.block≠k)→w'.heap[k]?=w.heap[k]?)
  (hx:OW bC 6 246 base w' (some ⟨N,0,none⟩) 1 1 [x]) (ho:OW hC 1 241 base w' (some ⟨g,0,none⟩) (n+1) c' (gs.map (·.1)++[⟨some ⟨N,0,none⟩,1,1⟩])) (hg:(∃b,A=some b∧b.block=g)∨N<g) :
  GS w' base (some ⟨g,0,none⟩) (n+1) c' (gs++[(⟨some ⟨N,0,none⟩,1,1⟩,[x])]):=by
 have hlt:∀p∈gs,∀a,p.1.A=some a→a.block<w.heap.size:=fun p hp a ha=>((h.grp p hp).1.lt ha).2
 refine⟨by simpa using ho,fun p hp=>?_,fun p hp a b ha hb=>?_,fun ds q e p hp a b ha hb=>?_⟩
 ·rcases List.mem_append.1 hp with hp|hp
  ·exact⟨(h.grp p hp).1.keep (fun a ha=>hw _ (hlt p hp a ha) (fun b hb=>(h.off p hp a b ha hb).symm)),(h.grp p hp).2⟩
  ·simp at hp;subst hp;exact⟨hx,by simp⟩
 ·cases hb
  rcases List.mem_append.1 hp with hp|hp
  ·have h1:=hlt p hp a ha
   rcases hg with⟨b,hb,rfl⟩|hg
   ·exact h.off p hp a b ha hb
   ·show a.block≠g;omega
  ·simp at hp;subst hp
   cases ha
   show N≠g
   rcases hg with⟨b,hb,rfl⟩|hg
   ·have:=(h.out.lt hb).2;omega
   ·omega
 ·obtain⟨rfl,e2⟩:=List.append_inj' e rfl
  simp at e2;subst e2;cases hb
  have:=hlt p hp a ha;show a.block≠N;omega
theorem GS.more {x:Bd} {g c':Nat} {w1:World} (h:GS w base A n c (ds++[q])) (h1:App1 bC 6 246 base w q.1.A q.1.n q.1.c q.2 x g c' w1) (b0:Nat) (hA:A=some ⟨b0,0,none⟩)
  (ho:OW hC 1 241 base w' A n c (ds.map (·.1)++[⟨some ⟨g,0,none⟩,q.1.n+1,c'⟩])) (hw:∀k,k≠b0→w'.heap[k]?=w1.heap[k]?) :
  GS w' base A n c (ds++[(⟨some ⟨g,0,none⟩,q.1.n+1,c'⟩,q.2++[x])]):=by
 have hlt:∀p∈ds++[q],∀a,p.1.A=some a→a.block<w.heap.size:=fun p hp a ha=>((h.grp p hp).1.lt ha).2
 have hq:q∈ds++[q]:=by simp
 have hds:∀p∈ds,p∈ds++[q]:=fun p hp=>List.mem_append_left _ hp
 have hbA:=(h.out.lt hA).2;have hgb:g≠b0:=by
  rcases h1.at_ with⟨b,hb,rfl⟩|hg
  ·exact h.off q hq b _ hb hA
  ·simp at hbA;omega
 have hgd:∀p∈ds,∀a,p.1.A=some a→a.block≠g:=fun p hp a ha=>by
  rcases h1.at_ with⟨b,hb,rfl⟩|hg
  ·exact h.last ds q rfl p hp a b ha hb
  ·have:=hlt p (hds p hp) a ha;omega
 refine⟨by simpa using ho,fun p hp=>?_,fun p hp a b ha hb=>?_,fun ds' q' e p hp a b ha hb=>?_⟩
 ·rcases List.mem_append.1 hp with hp|hp
  ·refine⟨(h.grp p (hds p hp)).1.keep (fun a ha=>?_),(h.grp p (hds p hp)).2⟩
   rw[hw _ (by have:=h.off p (hds p hp) a _ ha hA;exact this)]
   exact h1.far _ (hlt p (hds p hp) a ha) (fun b hb=>(h.last ds q rfl p hp a b ha hb).symm)
  ·simp at hp;subst hp
   exact⟨h1.own.keep (fun a ha=>by cases ha;exact hw _ hgb),by simp⟩
 ·rcases List.mem_append.1 hp with hp|hp
  ·exact h.off p (hds p hp) a b ha hb
  ·simp at hp;subst hp
   cases ha
   rw[hA]at hb;cases hb
   exact hgb
 ·obtain⟨rfl,e2⟩:=List.append_inj' e rfl
  simp at e2;subst e2;cases hb
  exact hgd p hp a ha
end
end Go.Proofs.YtjlkeoppppfeiaaGreat
namespace Go.Proofs.YtjlkeoppppfeiaaGreat
open Go.RowKit Go.Shelf Go.Sort Go.Proofs
theorem addB_flat (gap:Int) (gs:List (List Bd)) (x:Bd):(addB gap gs x).flatten=gs.flatten++[x]:=by
 unfold addB
 split
 ·rename_i y hy
  split
  ·cases hg:gs.getLast? with
   |none=>rw[hg]at hy;cases hy
   |some g=>
    obtain⟨ds,rfl⟩ : ∃ds,gs=ds++[g]:=⟨gs.dropLast,by rw[List.getLast?_eq_some_iff]at hg;obtain⟨d,rfl⟩:=hg;simp⟩
    simp
  ·simp
 ·simp
theorem gH (gap:Int) (l:List Bd):(grp gap l).flatten=l:=by
 have key:∀(l:List Bd) (gs:List (List Bd)),(l.foldl (addB gap) gs).flatten=gs.flatten++l:=by
  intro l
  induction l with
  |nil=>intro gs;simp
  |cons x l ih=>intro gs;rw[List.foldl_cons,ih,addB_flat];simp
 have:=key l [];simpa[grp]using this
theorem aBI (gap:Int) (gs:List (List Bd)) (x:Bd):(addB gap gs x).length≤gs.length+1:=by
 unfold addB
 split
 ·split
  ·simp
  ·simp
 ·simp
theorem sQ (gap:Int) (l:List Bd):(grp gap l).length≤l.length:=by
 have key:∀(l:List Bd) (gs:List (List Bd)),(l.foldl (addB gap) gs).length≤gs.length+l.length:=by
  intro l
  induction l with
  |nil=>intro gs;simp
  |cons x l ih=>intro gs;rw[List.foldl_cons,List.length_cons];have:=ih (addB gap gs x);have:=aBI gap gs x;omega
 have:=key l [];simpa[grp]using this
theorem o0 (gap:Int) (l:List Bd) {g:List Bd} (h:g∈grp gap l):g.length≤l.length:=by
 rw[←gH gap l]
 conv=>rhs;rw[gH]
 have h2:g.length≤(grp gap l).flatten.length:=by
  obtain⟨s,t,e⟩:=List.append_of_mem h;rw[e];simp;omega
 rwa [gH]at h2
theorem o4 {α:Type} {f:α→List Value} (hf:∀x,(f x).length=1):∀(xs:List α) (i:Nat) (y:α) (v:Value),f y=[v]→(xs.set i y).flatMap f=(xs.flatMap f).set i v
 | [],_,_,_,_=>rfl
 |x::xs,0,y,v,h=>by
  obtain⟨u,hu⟩:=List.length_eq_one_iff.1 (hf x);simp[h,hu]
 |x::xs,i+1,y,v,h=>by
  obtain⟨u,hu⟩:=List.length_eq_one_iff.1 (hf x);simp[hu,o4 hf xs i y v h]
theorem OW.set1 {α:Type} {f:α→List Value} {e:TypeId} {base:Nat} {w:World} {b n c:Nat} {xs:List α} (h:OW f 1 e base w (some ⟨b,0,none⟩) n c xs) (hf:∀x,(f x).length=1) (i:Nat) (y:α) (v:Value) (hy:f y=[v]) :
  OW f 1 e base (w.setCell ⟨b,i,none⟩ v) (some ⟨b,0,none⟩) n c (xs.set i y):=by
 refine⟨⟨by rw[o4 hf xs i y v hy];simpa using h.1.1,?_⟩,by simpa using h.2⟩
 rcases h.1.2 with⟨h3,_⟩|⟨g,cap,cur,h3,hb,hg,hn,hc,hs,ht⟩
 ·cases h3
 ·injection h3 with h3 h4 h5
  injection h3 with h3
  injection h3 with h3
  subst h3 h5;refine .inr ⟨b,c,cur.setIfInBounds i v,rfl,hb,?_,hn,hc,by simpa using hs,?_⟩
  ·simp[World.setCell,Array.getElem?_modify,hg]
  ·rw[Array.toList_setIfInBounds,List.take_set,ht,o4 hf xs i y v hy]
theorem OW.one {α:Type} {f:α→List Value} {sz:Nat} {e:TypeId} {base:Nat} {w:World} {N:Nat} {cs:Array Value} {y:α} (hb:BK w N e cs) (hcs:cs.toList=f y) (hl:(f y).length=sz) (hN:base≤N) :
  OW f sz e base w (some ⟨N,0,none⟩) 1 1 [y]:=by
 refine⟨⟨by simp[hl],.inr ⟨N,1,cs,rfl,hN,hb,Nat.le_refl _,by unfold maxLen;omega,?_,?_⟩⟩,rfl⟩
 ·rw[←Array.length_toList,hcs,hl];omega
 ·rw[hcs,Nat.one_mul,List.take_of_length_le (by omega)];simp
set_option maxRecDepth 100000 in
set_option maxHeartbeats 4000000 in
theorem uR (gap:Int) (q:Nat) (A:Option Addr) (n c:Nat) (bs:List Bd) (w:World) (hb:SL bC 6 w w.heap.size A n bs) (hq:w.cell? ⟨q,0,none⟩=some (.int .i64 gap))
  (hbd:∀e∈bs,(0≤e.1∧e.1≤1000000000)∧0≤e.2.len∧e.2.len≤5000) (hn:n≤100000) :
  Calls Tryz.prog 133 #[.slice A n c,.func (.func 134) #[] #[.pointer (some ⟨q,0,none⟩)]] w fun e w'=>
   ∃A' n' c' gs,e = .returned (.slice A' n' c')∧GS w' w.heap.size A' n' c' gs∧gs.map (·.2)=grp gap bs∧Below w.heap.size w w':=by
 have hlb:=Lib.hid hb.1;have hbd':=Lib.hid hbd;have hql:q<w.heap.size:=block_lt_of_cell hq;have hmo:Tryz.prog.follows .mixedOrders=true:=by kernel_rfl
 clear hbd;go_enter Tryz.func133,Tryz.ntmps133
 go_wp2_with fail
 go_loopw [5,10] (fun o i wr=>∃(k:Nat) (A':Option Addr) (n' c':Nat) (gs:List (Hdr×List Bd)),k≤n∧i = .int .i64 k∧o = .slice A' n' c'∧GS wr w.heap.size A' n' c' gs∧Hid (gs.map (·.2)=grp gap (bs.take k))∧Below w.heap.size w wr)
  (fun _ i _=>n-(intOf i).toNat)
 case atStart=>exact⟨0,none,0,0,[],Nat.zero_le _,rfl,rfl,GS.nil_ _ _,rfl,Below.refl _ _⟩
 case round=>
  obtain⟨k,A',n',c',gs,hk,rfl,rfl,hG,hgs,hbr⟩:=hrel;have hsz:=hbr.size;by_cases hlt:k<n
  ·have hkl:k<bs.length:=by rw[←hlb.out];exact hlt
   obtain⟨b,off,hA,hbB,hcells⟩:=(hb.grow hbr hsz).at_ hkl;have c0:wr.cell? ⟨b,off+k*6,none⟩=some (.int .i64 bs[k].2.len):=hcells 0 _ rfl;have c1:wr.cell? ⟨b,off+k*6+1,none⟩=some (.int .i64 bs[k].2.turn):=hcells 1 _ rfl;have c2:wr.cell? ⟨b,off+k*6+2,none⟩=some (.int .i64 bs[k].2.rad):=hcells 2 _ rfl;have c3:wr.cell? ⟨b,off+k*6+3,none⟩=some (.int .i64 bs[k].2.wid):=hcells 3 _ rfl;have c4:wr.cell? ⟨b,off+k*6+4,none⟩=some (.int .i64 bs[k].2.sur):=hcells 4 _ rfl;have c5:wr.cell? ⟨b,off+k*6+5,none⟩=some (.int .i64 bs[k].1):=hcells 5 _ rfl;have hqr:wr.cell? ⟨q,0,none⟩=some (.int .i64 gap):=(bc hbr hql).trans hq;have hxb:=hbd'.out _ (List.getElem_mem hkl);have htk:bs.take (k+1)=bs.take k++[bs[k]]:=by rw[List.take_add_one,List.getElem?_eq_getElem hkl];rfl
   have hgl:gs.length≤k:=by
    have h1:=congrArg List.length hgs.out;have h2:=sQ gap (bs.take k);rw[List.length_map]at h1;have h3:(bs.take k).length≤k:=List.length_take_le ..;omega
   have hnl:n'≤k:=by have:=hG.out.len;rw[List.length_map]at this;omega
   have hprev:0<k→∃(y:Bd) (dsP:List (Hdr×List Bd)) (qq:Hdr×List Bd) (g0:List Bd),gs=dsP++[qq]∧qq.2=g0++[y]∧Hid (dsP.map (·.2)++[g0++[y]]=grp gap (bs.take k))∧((0≤y.1∧y.1≤1000000000)∧0≤y.2.len∧y.2.len≤5000) ∧
     wr.cell? ⟨b,off+(k-1)*6,none⟩=some (.int .i64 y.2.len)∧wr.cell? ⟨b,off+(k-1)*6+1,none⟩=some (.int .i64 y.2.turn)∧wr.cell? ⟨b,off+(k-1)*6+2,none⟩=some (.int .i64 y.2.rad) ∧
     wr.cell? ⟨b,off+(k-1)*6+3,none⟩=some (.int .i64 y.2.wid)∧wr.cell? ⟨b,off+(k-1)*6+4,none⟩=some (.int .i64 y.2.sur)∧wr.cell? ⟨b,off+(k-1)*6+5,none⟩=some (.int .i64 y.1):=by
    intro h0;have hk1:k-1<bs.length:=by omega
    obtain⟨b',off',hA',_,hc'⟩:=(hb.grow hbr hsz).at_ hk1;rw[hA]at hA';cases hA'
    have e1:bs.take k=bs.take (k-1)++[bs[k-1]]:=by
     have:bs.take (k-1+1)=bs.take (k-1)++[bs[k-1]]:=by rw[List.take_add_one,List.getElem?_eq_getElem hk1];rfl
     rwa [show k-1+1=k by omega]at this
    obtain⟨ds,g,e2⟩:=aBH gap (bs.take (k-1)) bs[k-1];have e3:=hgs.out;rw[e1,e2]at e3;obtain⟨dsP,q1,rfl,e4,e5⟩:=List.map_eq_append_iff.1 e3;obtain⟨qq,rfl,e6⟩:=List.map_eq_singleton_iff.1 e5;exact⟨bs[k-1],dsP,qq,g,rfl,e6,by rw[e1,e2,e4];exact rfl,hbd'.out _ (List.getElem_mem hk1),hc' 0 _ rfl,hc' 1 _ rfl,hc' 2 _ rfl,hc' 3 _ rfl,hc' 4 _ rfl,hc' 5 _ rfl⟩
   have hnew:Hid (grp gap (bs.take (k+1))=addB gap (grp gap (bs.take k)) bs[k]):=by rw[htk];exact uP _ _ _
   generalize bs[k]'hkl=x at c0 c1 c2 c3 c4 c5 hxb htk hnew
   subst hA;clear hcells htk;have hG1:=hG.call ((Below.refl wr.heap.size wr).alloc (Nat.le_refl _) (.cells #[.int .i64 x.2.len,.int .i64 x.2.turn,.int .i64 x.2.rad,.int .i64 x.2.wid,.int .i64 x.2.sur,.int .i64 x.1] 246));go_wp2_with fail
   by_cases hk0:k=0
   ·go_quiet(fail)
    obtain⟨w2,hw2⟩ : ∃w2,w2=(wr.alloc (.cells #[.int .i64 x.2.len,.int .i64 x.2.turn,.int .i64 x.2.rad,.int .i64 x.2.wid,.int .i64 x.2.sur,.int .i64 x.1] 246)).drewN nq:=⟨_,rfl⟩
    have hb2:Below wr.heap.size wr w2:=by rw[hw2];exact aD ((Below.refl _ _).alloc (Nat.le_refl _) _) _
    have HG2:Hid (GS w2 w.heap.size A' n' c' gs):=hG.call hb2;have HX2:Hid (BK w2 wr.heap.size 246 #[.int .i64 x.2.len,.int .i64 x.2.turn,.int .i64 x.2.rad,.int .i64 x.2.wid,.int .i64 x.2.sur,.int .i64 x.1]):=by rw[hw2];exact(BK.new wr _ _).drewN nq
    have HB2:Hid (Below w.heap.size w w2):=hbr.trans (hb2.mono hsz);have hsz2b:wr.heap.size<w2.heap.size:=HX2.out.lt;have Hnew7:Hid ((gs++[(⟨some ⟨w2.heap.size,0,none⟩,1,1⟩,[x])]:List (Hdr×List Bd)).map (·.2)=grp gap (bs.take (k+1))):=by
     have h1:=hgs.out;subst hk0;have:gs=[]:=by simpa[grp]using h1
     subst this;rw[hnew.out];exact rfl
    rw[←hw2];clear hw2 hprev hnew hgs hG hG1 c0 c1 c2 c3 c4 c5;have hX2:BK w2 wr.heap.size 246 #[.int .i64 x.2.len,.int .i64 x.2.turn,.int .i64 x.2.rad,.int .i64 x.2.wid,.int .i64 x.2.sur,.int .i64 x.1]:=HX2.out;have x0:=hX2.cell 0;have x1:=hX2.cell 1;have x2:=hX2.cell 2;have x3:=hX2.cell 3;have x4:=hX2.cell 4;have x5:=hX2.cell 5;simp only[List.getElem?_toArray,List.getElem?_cons_zero,List.getElem?_cons_succ]at x0 x1 x2 x3 x4 x5
    have hsz2:=HB2.out.size;have hN1:BK ((w2.alloc (.cells #[.int .i64 x.2.len,.int .i64 x.2.turn,.int .i64 x.2.rad,.int .i64 x.2.wid,.int .i64 x.2.sur,.int .i64 x.1] 246)).alloc (.cells #[.slice (some ⟨w2.heap.size,0,none⟩) 1 1] 241)) (w2.heap.size+1) 241 #[.slice (some ⟨w2.heap.size,0,none⟩) 1 1]:=by
     have:=BK.new (w2.alloc (.cells #[.int .i64 x.2.len,.int .i64 x.2.turn,.int .i64 x.2.rad,.int .i64 x.2.wid,.int .i64 x.2.sur,.int .i64 x.1] 246)) 241 #[.slice (some ⟨w2.heap.size,0,none⟩) 1 1];rw[World.size_alloc]at this;exact this
    have hN0:BK ((w2.alloc (.cells #[.int .i64 x.2.len,.int .i64 x.2.turn,.int .i64 x.2.rad,.int .i64 x.2.wid,.int .i64 x.2.sur,.int .i64 x.1] 246)).alloc (.cells #[.slice (some ⟨w2.heap.size,0,none⟩) 1 1] 241)) w2.heap.size 246 #[.int .i64 x.2.len,.int .i64 x.2.turn,.int .i64 x.2.rad,.int .i64 x.2.wid,.int .i64 x.2.sur,.int .i64 x.1]:=(BK.new w2 _ _).alloc _;have hbb:=((Below.refl w2.heap.size w2).alloc (Nat.le_refl _) (.cells #[.int .i64 x.2.len,.int .i64 x.2.turn,.int .i64 x.2.rad,.int .i64 x.2.wid,.int .i64 x.2.sur,.int .i64 x.1] 246)).alloc (by simp) (.cells #[.slice (some ⟨w2.heap.size,0,none⟩) 1 1] 241)
    have hGo:=((HG2.out).call hbb).out;go_wp2_with(at_builtin;refine aT rfl _ _ 247 rfl w.heap.size 241 _ 1 24 Tryz.underlying247 rA rfl (by decide) hC A' n' c' (gs.map (·.1)) rfl hGo ⟨some ⟨w2.heap.size,0,none⟩,1,1⟩ #[.slice (some ⟨w2.heap.size,0,none⟩) 1 1] rfl rfl 241 (w2.heap.size+1) rfl hN1 (by simp[hC,Value.oneCell']) (by omega) (by omega) (by simp;omega) ?_;intro g c'' w3 hap;have HAP:=Lib.hid hap;clear hap)
    go_roundw
    case rel=>
     have hap:=HAP.out;have hAA:∀b,A'=some b→b.block<w2.heap.size:=fun b hb=>(HG2.out.out.lt hb).2
     refine⟨k+1,_,_,_,gs++[(⟨some ⟨w2.heap.size,0,none⟩,1,1⟩,[x])],hlt,by go_num,rfl,HG2.out.push (Nat.le_refl _) (fun j hj hne=>?_) ((OW.one hN0 rfl rfl (by omega)).keep (fun g hg=>?_)) hap.own ?_,?_,(HB2.out.trans (hbb.mono hsz2)).trans hap.bel⟩
     ·rw[hap.far j (by simp;omega) hne];exact hbb.block j hj
     ·cases hg
      exact hap.far _ (by simp;omega) (fun b hb e=>by have:=hAA b hb;simp only at e;omega)
     ·rcases hap.at_ with h|h
      ·exact .inl h
      ·exact .inr (by rw[h];simp only[World.size_alloc];omega)
     ·exact Hnew7.out
    case measure=>simp[intOf];omega
   ·obtain⟨y,dsP,qq,g0,hgsE,hqq,hcat,hyb,d0,d1,d2,d3,d4,d5⟩:=hprev (by omega)
    obtain⟨w1,hw1⟩ : ∃w1,w1=wr.alloc (.cells #[.int .i64 x.2.len,.int .i64 x.2.turn,.int .i64 x.2.rad,.int .i64 x.2.wid,.int .i64 x.2.sur,.int .i64 x.1] 246):=⟨_,rfl⟩
    have hb1:Below wr.heap.size wr w1:=by rw[hw1];exact(Below.refl _ _).alloc (Nat.le_refl _) _
    have hX1:BK w1 wr.heap.size 246 #[.int .i64 x.2.len,.int .i64 x.2.turn,.int .i64 x.2.rad,.int .i64 x.2.wid,.int .i64 x.2.sur,.int .i64 x.1]:=by rw[hw1];exact BK.new wr _ _
    rw[←hw1];clear hw1;have x0:=hX1.cell 0;have x1:=hX1.cell 1;have x2:=hX1.cell 2;have x3:=hX1.cell 3;have x4:=hX1.cell 4;have x5:=hX1.cell 5;simp only[List.getElem?_toArray,List.getElem?_cons_zero,List.getElem?_cons_succ]at x0 x1 x2 x3 x4 x5
    have hq1:=(bc hb1 (b:=q) (o:=0) (by omega)).trans hqr
    have d0:=(bc hb1 hbB).trans d0;have d1:=(bc hb1 hbB).trans d1;have d2:=(bc hb1 hbB).trans d2;have d3:=(bc hb1 hbB).trans d3;have d4:=(bc hb1 hbB).trans d4;have d5:=(bc hb1 hbB).trans d5;have k0:=fun d os=>cell_regrown d0 d os
    have k1:=fun d os=>cell_regrown d1 d os
    have k2:=fun d os=>cell_regrown d2 d os
    have k3:=fun d os=>cell_regrown d3 d os
    have k4:=fun d os=>cell_regrown d4 d os
    have k5:=fun d os=>cell_regrown d5 d os
    have l0:=fun d os=>cell_regrown x0 d os
    have l1:=fun d os=>cell_regrown x1 d os
    have l2:=fun d os=>cell_regrown x2 d os
    have l3:=fun d os=>cell_regrown x3 d os
    have l4:=fun d os=>cell_regrown x4 d os
    have l5:=fun d os=>cell_regrown x5 d os
    have HT:=Lib.hid (fun(W:World) (hW:W.cell? ⟨q,0,none⟩=some (.int .i64 gap))=>aCZ y x gap q W hW hyb.1 hxb.1 hyb.2)
    have hk1:0<k:=by omega
    have hwk:IntKind.i64.wrap ((k:Int)-1)=(k:Int)-1:=IntWalk.i64_in _ (by omega)
    have hik1:(1:Int)≤(k:Int):=by omega
    have hik2:(k:Int)-1<n:=by omega
    have hik3:((k:Int)-1).toNat=k-1:=by omega
    refine dW 11 hmo (by kernel_rfl) ?_
    simp only[List.take_succ_cons,List.take_zero,List.drop_succ_cons,List.drop_zero]
    repeat (quiet_step ((go_at_call 134;exact Calls.regrown_of (HT.out _ (cell_regrown hq1 _ _)))))
    refine wpQuiet_nil ?_
    intro w2 hbw;have hbw2:Below wr.heap.size wr w2:=hb1.trans (hbw.mono hb1.size);have HG2:Hid (GS w2 w.heap.size A' n' c' gs):=hG.call hbw2;have HX2:Hid (BK w2 wr.heap.size 246 #[.int .i64 x.2.len,.int .i64 x.2.turn,.int .i64 x.2.rad,.int .i64 x.2.wid,.int .i64 x.2.sur,.int .i64 x.1]):=hX1.below hbw hX1.lt;have HB2:Hid (Below w.heap.size w w2):=hbr.trans (hbw2.mono hsz);have hsz2b:wr.heap.size<w2.heap.size:=HX2.out.lt;have HE:=Lib.hid hgsE;have HQ:=Lib.hid hqq;clear hprev hgs hG hG1 c0 c1 c2 c3 c4 c5 d0 d1 d2 d3 d4 d5 k0 k1 k2 k3 k4 k5 l0 l1 l2 l3 l4 l5 x0 x1 x2 x3 x4 x5 hwk hik1 hik2 hik3 HT hbw hb1 hX1 hq1 hgsE hqq;cases htg:tog gap y x
    ·have Hnew7:Hid ((gs++[(⟨some ⟨w2.heap.size,0,none⟩,1,1⟩,[x])]:List (Hdr×List Bd)).map (·.2)=grp gap (bs.take (k+1))):=by
      rw[hnew.out,←hcat.out,addB_at,htg,HE.out];show _=_
      simp[HQ.out]
     clear hnew hcat htg;have hX2:BK w2 wr.heap.size 246 #[.int .i64 x.2.len,.int .i64 x.2.turn,.int .i64 x.2.rad,.int .i64 x.2.wid,.int .i64 x.2.sur,.int .i64 x.1]:=HX2.out;have x0:=hX2.cell 0;have x1:=hX2.cell 1;have x2:=hX2.cell 2;have x3:=hX2.cell 3;have x4:=hX2.cell 4;have x5:=hX2.cell 5;simp only[List.getElem?_toArray,List.getElem?_cons_zero,List.getElem?_cons_succ]at x0 x1 x2 x3 x4 x5
     have hsz2:=HB2.out.size;have hN1:BK ((w2.alloc (.cells #[.int .i64 x.2.len,.int .i64 x.2.turn,.int .i64 x.2.rad,.int .i64 x.2.wid,.int .i64 x.2.sur,.int .i64 x.1] 246)).alloc (.cells #[.slice (some ⟨w2.heap.size,0,none⟩) 1 1] 241)) (w2.heap.size+1) 241 #[.slice (some ⟨w2.heap.size,0,none⟩) 1 1]:=by
      have:=BK.new (w2.alloc (.cells #[.int .i64 x.2.len,.int .i64 x.2.turn,.int .i64 x.2.rad,.int .i64 x.2.wid,.int .i64 x.2.sur,.int .i64 x.1] 246)) 241 #[.slice (some ⟨w2.heap.size,0,none⟩) 1 1];rw[World.size_alloc]at this;exact this
     have hN0:BK ((w2.alloc (.cells #[.int .i64 x.2.len,.int .i64 x.2.turn,.int .i64 x.2.rad,.int .i64 x.2.wid,.int .i64 x.2.sur,.int .i64 x.1] 246)).alloc (.cells #[.slice (some ⟨w2.heap.size,0,none⟩) 1 1] 241)) w2.heap.size 246 #[.int .i64 x.2.len,.int .i64 x.2.turn,.int .i64 x.2.rad,.int .i64 x.2.wid,.int .i64 x.2.sur,.int .i64 x.1]:=(BK.new w2 _ _).alloc _;have hbb:=((Below.refl w2.heap.size w2).alloc (Nat.le_refl _) (.cells #[.int .i64 x.2.len,.int .i64 x.2.turn,.int .i64 x.2.rad,.int .i64 x.2.wid,.int .i64 x.2.sur,.int .i64 x.1] 246)).alloc (by simp) (.cells #[.slice (some ⟨w2.heap.size,0,none⟩) 1 1] 241)
     have hGo:=((HG2.out).call hbb).out;go_wp2_with(at_builtin;refine aT rfl _ _ 247 rfl w.heap.size 241 _ 1 24 Tryz.underlying247 rA rfl (by decide) hC A' n' c' (gs.map (·.1)) rfl hGo ⟨some ⟨w2.heap.size,0,none⟩,1,1⟩ #[.slice (some ⟨w2.heap.size,0,none⟩) 1 1] rfl rfl 241 (w2.heap.size+1) rfl hN1 (by simp[hC,Value.oneCell']) (by omega) (by omega) (by simp;omega) ?_;intro g c'' w3 hap;have HAP:=Lib.hid hap;clear hap)
     go_roundw
     case rel=>
      have hap:=HAP.out;have hAA:∀b,A'=some b→b.block<w2.heap.size:=fun b hb=>(HG2.out.out.lt hb).2
      refine⟨k+1,_,_,_,gs++[(⟨some ⟨w2.heap.size,0,none⟩,1,1⟩,[x])],hlt,by go_num,rfl,HG2.out.push (Nat.le_refl _) (fun j hj hne=>?_) ((OW.one hN0 rfl rfl (by omega)).keep (fun g hg=>?_)) hap.own ?_,?_,(HB2.out.trans (hbb.mono hsz2)).trans hap.bel⟩
      ·rw[hap.far j (by simp;omega) hne];exact hbb.block j hj
      ·cases hg
       exact hap.far _ (by simp;omega) (fun b hb e=>by have:=hAA b hb;simp only at e;omega)
      ·rcases hap.at_ with h|h
       ·exact .inl h
       ·exact .inr (by rw[h];simp only[World.size_alloc];omega)
      ·exact Hnew7.out
     case measure=>simp[intOf];omega
    ·have Hnew6:Hid (∀h:Hdr,(dsP++[(h,qq.2++[x])]:List (Hdr×List Bd)).map (·.2)=grp gap (bs.take (k+1))):=by
      intro h;rw[hnew.out,←hcat.out,addB_at,htg];simp[HQ.out]
     clear hnew hcat htg;have hg2:=HG2.out;rw[HE.out]at hg2;have hqm:qq∈dsP++[qq]:=by simp
     have hOq:=(hg2.grp qq hqm).1;have hOq2:qq.1.n≤k:=by
      have h1:=hOq.len;have h2:=o0 gap (bs.take (k+1)) (g:=qq.2++[x]) (by rw[←Hnew6.out ⟨none,0,0⟩];simp)
      have h3:(bs.take (k+1)).length≤k+1:=List.length_take_le ..;simp at h2;omega
     have hnn:n'=dsP.length+1:=by have:=hg2.out.len;simpa using this
     obtain⟨a0,hA0⟩ : ∃a0,A'=some a0:=by
      cases A' with
      |none=>have:=hg2.out.none_.1;omega
      |some a0=>exact⟨a0,rfl⟩
     obtain⟨b0,rfl,hb0,hbb0,hfz,hrow⟩:=hg2.out.at_ mM a0 hA0;subst hA0;have hh:=hrow (n'-1) qq.1 (by rw[hnn];simp) 0 _ rfl
     have hfh:=hfz (n'-1);have hX2:BK w2 wr.heap.size 246 #[.int .i64 x.2.len,.int .i64 x.2.turn,.int .i64 x.2.rad,.int .i64 x.2.wid,.int .i64 x.2.sur,.int .i64 x.1]:=HX2.out;have x0:=hX2.cell 0;have x1:=hX2.cell 1;have x2:=hX2.cell 2;have x3:=hX2.cell 3;have x4:=hX2.cell 4;have x5:=hX2.cell 5;simp only[List.getElem?_toArray,List.getElem?_cons_zero,List.getElem?_cons_succ]at x0 x1 x2 x3 x4 x5
     obtain⟨⟨qA,qn,qc⟩,ql⟩:=qq;have hh:w2.cell? ⟨b0,n'-1,none⟩=some (.slice qA qn qc):=by rw[←hh];congr 1;simp
     have hOq:OW bC 6 246 w.heap.size w2 qA qn qc ql:=hOq;have hOq2:qn≤k:=hOq2;have hi1:(1:Int)≤(n':Int):=by omega
     have hi2:(n':Int)-1<n':=by omega
     have hi3:((n':Int)-1).toNat=n'-1:=by omega
     have hwn:IntKind.i64.wrap ((n':Int)-1)=(n':Int)-1:=IntWalk.i64_in _ (by omega)
     have HFZ:Hid (∀w3 g c'',App1 bC 6 246 w.heap.size (w2.drew.alloc (.cells #[.int .i64 x.2.len,.int .i64 x.2.turn,.int .i64 x.2.rad,.int .i64 x.2.wid,.int .i64 x.2.sur,.int .i64 x.1] 246)) qA qn qc ql x g c'' w3→w3.heap[b0]?=w2.heap[b0]?):=by
      intro w3 g c'' hap;rw[hap.far b0 (by simp;omega) (fun b hb=>hg2.off _ hqm b _ hb rfl)]
      exact Below.heap_alloc w2.drew _ _ hb0
     have HNN:=Lib.hid hnn;clear hnn;go_wp2_with fail
     go_region_law ((refine uO (by rfl) _ _ 241 (by rfl) w.heap.size 246 _ 6 48 Tryz.underlying241 uQ rfl (by decide) bC qA qn qc ql (by rfl) ((hOq.drew).alloc _) x #[.int .i64 x.2.len,.int .i64 x.2.turn,.int .i64 x.2.rad,.int .i64 x.2.wid,.int .i64 x.2.sur,.int .i64 x.1] rfl rfl 246 w2.heap.size (by rfl) (BK.new w2.drew _ _) (by simp[bC,pC,Value.oneCell']) (by omega) (by omega) (by simp;omega) ?_;intro g c'' w3 hap;have HAP:=Lib.hid hap;have hf3:=(World.cell?_of_block (HFZ.out w3 _ _ hap)).trans hh;have hf4:=(World.frozen?_of_block (HFZ.out w3 _ _ hap)).trans hfh;clear hap))
     all_goals
      go_wp2_with fail
      go_roundw
      case rel=>
       have hap:=HAP.out;have hbd2:Below w2.heap.size w2 (w2.drew.alloc (.cells #[.int .i64 x.2.len,.int .i64 x.2.turn,.int .i64 x.2.rad,.int .i64 x.2.wid,.int .i64 x.2.sur,.int .i64 x.1] 246)):=((Below.refl _ w2).drew).alloc (Nat.le_refl _) _;refine⟨k+1,_,_,_,_,hlt,by go_num,rfl,(hg2.call hbd2).more hap b0 rfl ?_ (fun j hj=>Below.heap_setCell _ _ _ _ hj),Hnew6.out _,?_⟩
       ·have h1:=hg2.out.keep (w':=w3) (fun a ha=>by cases ha;exact HFZ.out w3 _ _ hap)
        have h2:=h1.set1 mM (n'-1) ⟨some ⟨g,0,none⟩,qn+1,c''⟩ _ rfl;have e1:((dsP++[(⟨qA,qn,qc⟩,ql)]:List (Hdr×List Bd)).map (·.1)).set (n'-1) ⟨some ⟨g,0,none⟩,qn+1,c''⟩=dsP.map (·.1)++[⟨some ⟨g,0,none⟩,qn+1,c''⟩]:=by
         rw[HNN.out];simp
        rw[e1]at h2;exact h2
       ·exact((HB2.out.trans (hbd2.mono HB2.out.size)).trans hap.bel).setCell hbb0 _
      case measure=>simp[intOf];omega
  ·obtain rfl:k=n:=by omega
   have hgs':Hid (gs.map (·.2)=grp gap bs):=by have:=hgs.out;rw[hlb.out,List.take_length]at this;exact this
   go_wp2_with fail
   go_ret
   exact⟨_,_,_,gs,rfl,hG,hgs'.out,hbr⟩
end Go.Proofs.YtjlkeoppppfeiaaGreat
namespace Go.Proofs.YtjlkeoppppfeiaaGreat
open Go.RowKit Go.Proofs
theorem fA {F:Fence} {nF:Nat} {α:Type} {P:Program} {W:World} {ops:Array Oper} {rest:List Oper} {o:Oper} {a:Act} {Q:Exit→Act→World→Prop} (hgd:o.guard=none) (s x:Operand) (t:TypeId)
  (ho:o.op = .call { callee:=.builtin .append,args:=#[s,x],argTypes:=#[t,t] })
  (base:Nat) (e:TypeId) (z:Value) (sz bytes:Nat) (ht:P.underlying t=some (.slice e)) (hi:(P.info? e).map (fun i=>(i.zero,i.size,i.bytes))=some (some z,sz,bytes))
  (hzs:z.cells.size=sz) (hsz:0<sz) (f:α→List Value) (A:Option Addr) (n c:Nat) (xs:List α) (hs:a.eval s = .slice A n c) (hown:OW f sz e base W A n c xs)
  (y:α) (cs:Array Value) (hcs:cs.toList=f y) (hcl:(f y).length=sz) (ty:TypeId) (N:Nat) (hx:a.eval x = .slice (some ⟨N,0,none⟩) 1 1) (hN:BK W N ty cs) (h1:∀u∈f y,u.oneCell'=true)
  (hbytes:(n+1)*bytes≤140737488355328) (hby:1≤bytes) (hbase:base≤W.heap.size)
  (h:∀g c' w',App1 f sz e base W A n c xs y g c' w'→wpListIn F nF P ops Q rest (a.put o.dst (.slice (some ⟨g,0,none⟩) (n+1) c')) w') :
  wpListIn F nF P ops Q (o::rest) a W:=by
 obtain⟨i,hi',hz,hsize,hbytes'⟩:=info_parts hi;have h63:n+1≤maxLen:=by
  unfold maxLen;have:n+1≤(n+1)*bytes:=Nat.le_mul_of_pos_right _ (by omega)
  omega
 refine wpListIn_plain hgd fun K hK=>?_
 obtain⟨g,cap,w',hr,h2,h3,h4,_⟩:=run_append_lies (P:=P) W t o.type base e i z sz bytes ht hi' hz hsize hbytes' hzs hsz _ n (xs.flatMap f) hown.1 ⟨N,0,none⟩ 1 1 (f y) (by rw[hcl,Nat.one_mul]) (aBG hN hcs) h1 (by omega) h63 hbytes hbase W.heap.size rfl
 unfold Oper.wpIn;refine⟨by simp[Oper.about,ho,resolve,Target.leads,Sem.run_pure],?_⟩
 rw[Oper.semAt_plain F _ _ (by rw[ho];intro c hc';cases hc')]
 simp[execOp,ho,resolve,invoke,builtin,hs,hx,hr,Result.andThen];exact hK _ _ (h g cap w' (sP hown hbase h2 h3 h4))
end Go.Proofs.YtjlkeoppppfeiaaGreat
