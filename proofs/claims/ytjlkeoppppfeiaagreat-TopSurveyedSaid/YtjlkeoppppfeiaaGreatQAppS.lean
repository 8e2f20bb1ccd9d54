/- Lemmas. -/
import Derived.Test.YtjlkeoppppfeiaaGreatQGrouped
import Derived.Test.YtjlkeoppppfeiaaGreatQCorn
import Derived.RegionTactic
import Derived.BigRegion
import Derived.Test.YtjlkeoppppfeiaaGreatQIter
import Derived.Test.YtjlkeoppppfeiaaGreatQReg
namespace Go.Proofs.YtjlkeoppppfeiaaGreat
open Go.RowKit Go.Proofs
section
variable {α:Type} {P:Program} {f:α→List Value} {sz:Nat} {e:TypeId} {base:Nat} {W:World} {A A2:Option Addr} {n c m c2 B:Nat} {xs ys:List α}
structure AppS (f:α→List Value) (sz:Nat) (e:TypeId) (base:Nat) (W:World) (A:Option Addr) (n c m:Nat) (xs ys:List α) (A':Option Addr) (c':Nat) (w':World):Prop where
 own:OW f sz e base w' A' (n+m) c' (xs++ys)
 bel:Below base W w'
 at_:(∀b,A'=some b→(∃b',A=some b'∧b'.block=b.block)∨b.block=W.heap.size)
 far:∀k,k<W.heap.size→(∀b,A=some b→b.block≠k)→w'.heap[k]?=W.heap[k]?
 size:W.heap.size≤w'.heap.size
theorem lB (t ty:TypeId) (i:TypeInfo) (ht:P.underlying t=some (.slice e)) (hi:P.info? e=some i)
  (v:Value) (cs:List Value) (hown:W.ownsRow base e sz v n cs) (q:Nat):(Builtin.append_ #[t,t] ty #[v,.slice none 0 q]).run P W = .ok v W:=by
 rcases hown.2 with⟨rfl,rfl⟩|⟨g,cap,cur,rfl,_,_,hnc,_⟩
 ·simp[Builtin.append_,run_underlying ht,sizeOf,typeInfo,hi,Builtin.lenOf,Builtin.firstCells]
 ·simp[Builtin.append_,run_underlying ht,sizeOf,typeInfo,hi,Builtin.lenOf,Builtin.firstCells,hnc,storeCells]
theorem cE {f:α→List Value} (hf:∀x,(f x).length=sz):∀ys:List α,(ys.flatMap f).length=ys.length*sz
 | []=>by simp
 |y::ys=>by rw[List.flatMap_cons,List.length_append,hf,List.length_cons,Nat.succ_mul,cE hf ys];omega
theorem yO (hf:∀x,(f x).length=sz) (hsz:0<sz):∀(ys:List α) (j:Nat) (u:Value),(ys.flatMap f)[j]?=some u→∃y,ys[j / sz]?=some y∧(f y)[j%sz]?=some u
 | [],j,u,h=>by simp at h
 |y::ys,j,u,h=>by
  rw[List.flatMap_cons]at h;rcases Nat.lt_or_ge j sz with hj|hj
  ·rw[List.getElem?_append_left (by rw[hf];exact hj)]at h
   exact⟨y,by rw[Nat.div_eq_of_lt hj];rfl,by rw[Nat.mod_eq_of_lt hj];exact h⟩
  ·rw[List.getElem?_append_right (by rw[hf];exact hj),hf]at h
   obtain⟨y',h1,h2⟩:=yO hf hsz ys (j-sz) u h;refine⟨y',?_,?_⟩
   ·rw[show j / sz=(j-sz) / sz+1 by rw[Nat.div_eq_sub_div hsz hj]]
    simpa using h1
   ·rw[←h2,Nat.mod_eq_sub_mod hj]
theorem SL.cells (hy:SL f sz W B A2 m ys) (hf:∀x,(f x).length=sz) (hsz:0<sz) {ad:Addr} (hA:A2=some ad):∀j u,(ys.flatMap f)[j]?=some u→W.cell? (ad.add j)=some u:=by
 intro j u hj;obtain⟨y,h1,h2⟩:=yO hf hsz ys j u hj;have hl:=(List.getElem?_eq_some_iff.1 h1).1
 obtain⟨b,off,e1,hb,hc⟩:=hy.2 (by rw[hy.1];exact Nat.lt_of_le_of_lt (Nat.zero_le _) hl)
 rw[hA]at e1;cases e1
 have:=hc (j / sz) y h1 (j%sz) u h2;have e0:((⟨b,off,none⟩ : Addr).add j)=⟨b,off+(j / sz)*sz+j%sz,none⟩:=by
  have hj:j / sz*sz+j%sz=j:=by rw[Nat.mul_comm];exact Nat.div_add_mod j sz
  unfold Addr.add
  split
  ·rename_i hj0
   have hj0':j=0:=by simpa using hj0
   subst hj0';simp
  ·rw[Nat.add_assoc,hj]
 rw[e0];exact this
theorem oW (t ty:TypeId) (i:TypeInfo) (z:Value) (bytes:Nat) (ht:P.underlying t=some (.slice e)) (hi:P.info? e=some i) (hz:i.zero=some z)
  (hsize:i.size=sz) (hby:i.bytes=bytes) (hzs:z.cells.size=sz) (hsz:0<sz) (hown:OW f sz e base W A n c xs)
  (hy:SL f sz W B A2 m ys) (hf:∀x,(f x).length=sz) (h1:∀x,∀u∈f x,u.oneCell'=true)
  (hbytes:(n+m)*bytes≤140737488355328) (hb1:1≤bytes) (hbase:base≤W.heap.size) :
  ∃A' c' w',(Builtin.append_ #[t,t] ty #[.slice A n c,.slice A2 m c2]).run P W = .ok (.slice A' (n+m) c') w'∧AppS f sz e base W A n c m xs ys A' c' w':=by
 have hlen:(ys.flatMap f).length=m*sz:=by rw[hy.1];exact cE hf ys
 have hone:∀u∈ys.flatMap f,u.oneCell'=true:=fun u hu=>by
  obtain⟨y,_,hyu⟩:=List.mem_flatMap.1 hu;exact h1 y u hyu
 have h63:n+m≤maxLen:=by
  unfold maxLen;have:n+m≤(n+m)*bytes:=Nat.le_mul_of_pos_right _ (by omega)
  omega
 rcases A2 with _|ad
 ·have hm:m=0:=by
   rcases Nat.eq_zero_or_pos m with h0|h0
   ·exact h0
   ·obtain⟨_,_,h,_⟩:=hy.2 h0;cases h
  subst hm;have hys:ys=[]:=List.eq_nil_of_length_eq_zero hy.1.symm;subst hys;exact⟨A,c,W,lB t ty i ht hi _ _ hown.1 c2,⟨by rw[List.append_nil];exact hown,Below.refl _ _,fun b hb=>.inl ⟨b,hb,rfl⟩,fun _ _ _=>rfl,Nat.le_refl _⟩⟩
 ·obtain⟨v',w',hrun,h2,h3,h4,h5⟩:=run_append_own_at (P:=P) W base t ty e i z sz bytes ht hi hz hsize hby hzs hsz _ n _ hown.1 ad m c2 _ hlen (hy.cells hf hsz rfl) hone h63 hbytes hbase
  have hv:∃A' c',v' = .slice A' (n+m) c':=by
   rcases h2.2 with⟨rfl,h0⟩|⟨g,cap,cur,rfl,_⟩
   ·exact⟨none,0,by rw[h0]⟩
   ·exact⟨_,_,rfl⟩
  obtain⟨A',c',rfl⟩:=hv;refine⟨A',c',w',hrun,⟨⟨by rw[List.flatMap_append];exact h2,by simp[hown.2,hy.1]⟩,⟨h3.os,h3.tape,h3.output,h3.size,fun k hk=>h3.block k (by omega) (fun e=>?_)⟩,fun b hb=>?_,fun k hk hne=>h3.block k hk (fun e=>?_),h3.size⟩⟩
  ·rcases A with _|g'
   ·simp[Value.ownBlock]at e
   ·simp[Value.ownBlock]at e
    have:=(hown.lt rfl).1;omega
  ·subst hb
   rcases h5 with h5|h5
   ·rcases A with _|g'
    ·simp[Value.ownBlock]at h5
    ·simp[Value.ownBlock]at h5
     exact .inl ⟨g',rfl,h5.symm⟩
   ·simp[Value.ownBlock]at h5
    exact .inr h5
  ·rcases A with _|g'
   ·simp[Value.ownBlock]at e
   ·simp[Value.ownBlock]at e
    exact hne g' rfl e.symm
theorem dR {ops:Array Oper} {rest:List Oper} {o:Oper} {a:Act} {Q:Exit→Act→World→Prop} (hgd:o.guard=none) (s x:Operand) (t:TypeId)
  (ho:o.op = .call { callee:=.builtin .append,args:=#[s,x],argTypes:=#[t,t] })
  (base:Nat) (e:TypeId) (z:Value) (sz bytes:Nat) (ht:P.underlying t=some (.slice e)) (hi:(P.info? e).map (fun i=>(i.zero,i.size,i.bytes))=some (some z,sz,bytes))
  (hzs:z.cells.size=sz) (hsz:0<sz) (f:α→List Value) (A:Option Addr) (n c:Nat) (xs:List α) (hs:a.eval s = .slice A n c) (hown:OW f sz e base W A n c xs)
  (B:Nat) (A2:Option Addr) (m c2:Nat) (ys:List α) (hx:a.eval x = .slice A2 m c2) (hy:SL f sz W B A2 m ys) (hf:∀x,(f x).length=sz) (h1:∀x,∀u∈f x,u.oneCell'=true)
  (hbytes:(n+m)*bytes≤140737488355328) (hby:1≤bytes) (hbase:base≤W.heap.size)
  (h:∀A' c' w',AppS f sz e base W A n c m xs ys A' c' w'→wpList P ops Q rest (a.put o.dst (.slice A' (n+m) c')) w') :
  wpList P ops Q (o::rest) a W:=by
 obtain⟨i,hi',hz,hsize,hbytes'⟩:=info_parts hi;refine wpList_plain hgd fun K hK=>?_
 obtain⟨A',c',w',hrun,hap⟩:=oW (P:=P) (c2:=c2) t o.type i z bytes ht hi' hz hsize hbytes' hzs hsz hown hy hf h1 hbytes hby hbase;unfold Oper.wp execOp;simp only[ho,resolve,invoke,builtin,Sem.run_bind,Sem.run_pure,Result.andThen_ok,List.map_toArray,List.map_cons,List.map_nil,hs,hx,hrun];exact hK _ _ (h A' c' w' hap)
end
end Go.Proofs.YtjlkeoppppfeiaaGreat
namespace Go.Proofs.YtjlkeoppppfeiaaGreat
open Go.RowKit Go.Shelf Go.Sort Go.Proofs
theorem OW.zero {α:Type} {f:α→List Value} {sz:Nat} {e:TypeId} {base:Nat} {w:World} {N:Nat} (hb:BK w N e #[]) (hN:base≤N):OW f sz e base w (some ⟨N,0,none⟩) 0 0 ([]:List α):=
 ⟨⟨by simp,.inr ⟨N,0,#[],rfl,hN,hb,Nat.le_refl _,by unfold maxLen;omega,by simp,by simp⟩⟩,rfl⟩
theorem yP:(Tryz.prog.info? 112).map (fun i=>(i.zero,i.size,i.bytes))=some (some (.agg #[.int .i64 0,.int .i64 0,.int .i64 0,.int .i64 0,.int .i64 0]),5,40):=by kernel_rfl
theorem uD:(Tryz.prog.info? 52).map (fun i=>(i.zero,i.size,i.bytes))=some (some (.agg #[.int .i64 0,.int .i64 0]),2,16):=by kernel_rfl
theorem aCT (x:Crest):∀u∈cC x,u.oneCell'=true:=by intro u hu;simp[cC]at hu;rcases hu with rfl|rfl<;>rfl
set_option maxRecDepth 100000 in
set_option maxHeartbeats 1000000 in
theorem wU (A:Option Addr) (n c:Nat) (xs:List Crest) (w:World) (h:SL cC 2 w w.heap.size A n xs) (hn:n≤100000) :
  Calls Tryz.prog 65 #[.slice A n c] w fun e w'=>∃A' c',e = .returned (.slice A' n c')∧OW cC 2 52 w.heap.size w' A' n c' xs∧Below w.heap.size w w':=by
 rcases A with _|ad
 ·have hn0:n=0:=by
   rcases Nat.eq_zero_or_pos n with h0|h0
   ·exact h0
   ·obtain⟨_,_,h,_⟩:=h.2 h0;cases h
  subst hn0;have hx:xs=[]:=List.eq_nil_of_length_eq_zero h.1.symm;subst hx;have hq:=fun(W:World)=>Lib.run_eql_slice_nil (P:=Tryz.prog) W 23 52 none 0 c 0 0 Tryz.underlying23
  go_enter Tryz.func65,Tryz.ntmps65
  go_wp2_with fail
  go_ret
  exact⟨_,_,rfl,OW.nil_,Below.refl _ _⟩
 ·have HH:=Lib.hid h
  clear h;have hq:=fun(W:World)=>Lib.run_eql_slice_nil (P:=Tryz.prog) W 23 52 (some ad) n c 0 0 Tryz.underlying23
  have hb0:BK (w.alloc (.cells #[] 52)) w.heap.size 52 #[]:=BK.new _ _ _;have ho:OW cC 2 52 w.heap.size (w.alloc (.cells #[] 52)) (some ⟨w.heap.size,0,none⟩) 0 0 []:=OW.zero hb0 (Nat.le_refl _);have hba:Below w.heap.size w (w.alloc (.cells #[] 52)):=(Below.refl _ _).alloc (Nat.le_refl _) _;go_enter Tryz.func65,Tryz.ntmps65
  go_wp2_with(at_builtin;refine dR rfl _ _ 23 rfl w.heap.size 52 _ 2 16 Tryz.underlying23 uD rfl (by decide) cC _ 0 0 [] rfl ho w.heap.size (some ad) n c xs rfl (HH.out.below hba) aZ aCT (by omega) (by omega) (by simp) ?_;intro A' c' w' hap;have HAP:=Lib.hid hap;clear hap)
  go_ret
  have hap:=HAP.out;have h1:=hap.own;rw[List.nil_append]at h1;simp only[Nat.zero_add]at h1;exact⟨_,_,rfl,h1,hba.trans hap.bel⟩
theorem uE:(Tryz.prog.info? 54).map (fun i=>(i.zero,i.size,i.bytes))=some (some (.agg #[.int .i64 0,.int .i64 0,.int .i64 0]),3,24):=by kernel_rfl
theorem aCU (x:Junc):∀u∈jC x,u.oneCell'=true:=by intro u hu;simp[jC]at hu;rcases hu with rfl|rfl|rfl<;>rfl
set_option maxRecDepth 100000 in
set_option maxHeartbeats 1000000 in
theorem wV (A:Option Addr) (n c:Nat) (xs:List Junc) (w:World) (h:SL jC 3 w w.heap.size A n xs) (hn:n≤100000) :
  Calls Tryz.prog 66 #[.slice A n c] w fun e w'=>∃A' c',e = .returned (.slice A' n c')∧OW jC 3 54 w.heap.size w' A' n c' xs∧Below w.heap.size w w':=by
 rcases A with _|ad
 ·have hn0:n=0:=by
   rcases Nat.eq_zero_or_pos n with h0|h0
   ·exact h0
   ·obtain⟨_,_,h,_⟩:=h.2 h0;cases h
  subst hn0;have hx:xs=[]:=List.eq_nil_of_length_eq_zero h.1.symm;subst hx;have hq:=fun(W:World)=>Lib.run_eql_slice_nil (P:=Tryz.prog) W 24 54 none 0 c 0 0 Tryz.underlying24
  go_enter Tryz.func66,Tryz.ntmps66
  go_wp2_with fail
  go_ret
  exact⟨_,_,rfl,OW.nil_,Below.refl _ _⟩
 ·have HH:=Lib.hid h
  clear h;have hq:=fun(W:World)=>Lib.run_eql_slice_nil (P:=Tryz.prog) W 24 54 (some ad) n c 0 0 Tryz.underlying24
  have hb0:BK (w.alloc (.cells #[] 54)) w.heap.size 54 #[]:=BK.new _ _ _;have ho:OW jC 3 54 w.heap.size (w.alloc (.cells #[] 54)) (some ⟨w.heap.size,0,none⟩) 0 0 []:=OW.zero hb0 (Nat.le_refl _);have hba:Below w.heap.size w (w.alloc (.cells #[] 54)):=(Below.refl _ _).alloc (Nat.le_refl _) _;go_enter Tryz.func66,Tryz.ntmps66
  go_wp2_with(at_builtin;refine dR rfl _ _ 24 rfl w.heap.size 54 _ 3 24 Tryz.underlying24 uE rfl (by decide) jC _ 0 0 [] rfl ho w.heap.size (some ad) n c xs rfl (HH.out.below hba) aV aCU (by omega) (by omega) (by simp) ?_;intro A' c' w' hap;have HAP:=Lib.hid hap;clear hap)
  go_ret
  have hap:=HAP.out;have h1:=hap.own;rw[List.nil_append]at h1;simp only[Nat.zero_add]at h1;exact⟨_,_,rfl,h1,hba.trans hap.bel⟩
end Go.Proofs.YtjlkeoppppfeiaaGreat
namespace Go.Proofs.YtjlkeoppppfeiaaGreat
open Go.RowKit Go.Shelf Go.Sort Go.Proofs
theorem mJ {α:Type} {f:α→List Value} {sz:Nat} (hf:∀x,(f x).length=sz):∀(xs:List α) (i j:Nat) (x y:α) (v:Value),xs[i]?=some x→j<sz→f y=(f x).set j v→(xs.set i y).flatMap f=(xs.flatMap f).set (i*sz+j) v
 | [],i,_,_,_,_,h,_,_=>by simp at h
 |a::xs,0,j,x,y,v,h,hj,hy=>by
  simp at h;subst h;rw[List.set_cons_zero,List.flatMap_cons,List.flatMap_cons,hy,Nat.zero_mul,Nat.zero_add,List.set_append_left _ _ (by rw[hf];exact hj)]
 |a::xs,i+1,j,x,y,v,h,hj,hy=>by
  have e:(i+1)*sz+j=sz+(i*sz+j):=by rw[Nat.succ_mul];omega
  rw[List.set_cons_succ,List.flatMap_cons,List.flatMap_cons,mJ hf xs i j x y v (by simpa using h) hj hy,e,List.set_append_right _ _ (by rw[hf];omega),hf,Nat.add_sub_cancel_left]
theorem OW.setF {α:Type} {f:α→List Value} {sz:Nat} {e:TypeId} {base:Nat} {w:World} {b n c:Nat} {xs:List α} (h:OW f sz e base w (some ⟨b,0,none⟩) n c xs) (hf:∀x,(f x).length=sz) (i j:Nat) {x y:α} {v:Value}
  (hx:xs[i]?=some x) (hj:j<sz) (hy:f y=(f x).set j v):OW f sz e base (w.setCell ⟨b,i*sz+j,none⟩ v) (some ⟨b,0,none⟩) n c (xs.set i y):=by
 refine⟨⟨by rw[mJ hf xs i j x y v hx hj hy];simpa using h.1.1,?_⟩,by simpa using h.2⟩
 rcases h.1.2 with⟨h3,_⟩|⟨g,cap,cur,h3,hb,hg,hn,hc,hs,ht⟩
 ·cases h3
 ·injection h3 with h3 h4 h5
  injection h3 with h3
  injection h3 with h3
  subst h3 h5;refine .inr ⟨b,c,cur.setIfInBounds (i*sz+j) v,rfl,hb,?_,hn,hc,by simpa using hs,?_⟩
  ·simp[World.setCell,Array.getElem?_modify,hg]
  ·rw[Array.toList_setIfInBounds,List.take_set,ht,mJ hf xs i j x y v hx hj hy]
end Go.Proofs.YtjlkeoppppfeiaaGreat
namespace Go.Proofs.YtjlkeoppppfeiaaGreat
open Go.RowKit Go.Shelf Go.Sort Go.Proofs
theorem cB {a w:World} {row:Option Nat} (h:a.grownBy w row):a.grownBy w.drew row:=⟨h.os,h.tape,h.output,h.size,h.block⟩
theorem kJ {a w:World} {row:Option Nat} (h:a.grownBy w row) (n:Nat):a.grownBy (w.drewN n) row:=⟨h.os,h.tape,h.output,h.size,h.block⟩
theorem aA {a w:World} {g o:Nat} (h:a.grownBy w (some g)) (u:Value):a.grownBy (w.setCell ⟨g,o,none⟩ u) (some g):=
 ⟨h.os,h.tape,h.output,by simpa[World.setCell]using h.size,fun i hi hne=>(Below.heap_setCell w _ u i (by rintro rfl;exact hne rfl)).trans (h.block i hi hne)⟩
theorem aN {a b c:World} {row:Option Nat} (h:a.grownBy b row) (k:b.grownBy c row):a.grownBy c row:=
 ⟨k.os.trans h.os,k.tape.trans h.tape,k.output.trans h.output,Nat.le_trans h.size k.size,fun i hi hne=>(k.block i (Nat.lt_of_lt_of_le hi h.size) hne).trans (h.block i hi hne)⟩
theorem gW {a w:World} {g B:Nat} (h:a.grownBy w (some g)) (hB:B≤a.heap.size) (hg:B≤g):Below B a w:=
 ⟨h.os,h.tape,h.output,h.size,fun k hk=>h.block k (by omega) (by intro e;injection e;omega)⟩
section
variable {α:Type}
end
end Go.Proofs.YtjlkeoppppfeiaaGreat
namespace Go.Proofs.YtjlkeoppppfeiaaGreat
open Go.RowKit Go.Shelf Go.Sort Go.Proofs
section
variable {P:Program}
theorem j8 {id:Nat} {Q:Exit→Act→World→Prop} {a:Act} {w:World} {l:List Oper} (m n1 s1:Nat) (ks:List Nat) (t1:TypeId) (zs1 cs1:Array Value) (d1 x1:Tmp) (vx:Value) (oa1 os1:Oper) (hm:P.follows .mixedOrders=true)
  (hlt:n1<m∧s1<m∧s1≠n1∧x1≠d1)
  (hoa1:l.toArray[n1]?=some oa1) (hda1:oa1.dst=some d1) (hga1:oa1.guard=none) (hrun1:∀(a:Act) (w:World),(execOp a.eval oa1).run P w = .ok (.value (.pointer (some ⟨w.heap.size,0,none⟩))) (w.alloc (.cells zs1 t1)))
  (hos1:l.toArray[s1]?=some os1) (hds1:os1.dst=none) (hgs1:os1.guard=none) (hx1:(os1.looksAt l.toArray).contains x1=true) (haf:(os1.after.any fun e=>Region.binds .any e&&e.on == n1)=true)
  (hrs1:∀(a:Act) (w:World) (b:Nat),a.eval (.tmp d1) = .pointer (some ⟨b,0,none⟩)→a.eval (.tmp x1)=vx→BK w b t1 zs1→∃w',(execOp a.eval os1).run P w = .ok .skip w'∧BK w' b t1 cs1∧Below b w w'∧w'.heap.size=w.heap.size∧∀k,k≠b→w'.heap[k]?=w.heap[k]?)
  (hB:(okB .any l.toArray m ks&&j5 l.toArray m n1 s1 oa1)=true)
  (h:eS P l.toArray (fun w'=>∃p:Regrown,w'=grow (redrawn w p.d) p.os) (fun Φ=>∀x y,Φ x→Below w.heap.size x y→Φ y) (fun i a=>s1=i→a.eval (.tmp x1)=vx∧d1<a.tmps.size) [n1,s1] ks (fun a' Φ=>∀b1 w',Below w.heap.size w w'→Φ w'→w.heap.size≤b1→BK w' b1 t1 cs1 →
   wpList P l.toArray Q (l.drop m) (a'.put (some d1) (.pointer (some ⟨b1,0,none⟩))) w') 0 (l.take m) a (fun _=>True)) :
  (Code.region id l.toArray true).wp P Q a w:=by
 obtain⟨q1,q3,q5,q8⟩:=hlt;obtain⟨hB1,hB2⟩:=Bool.and_eq_true_iff.1 hB;have hmn:m<l.length:=by
  have:=hB1;simp only[okB,Region.lexTailB,Bool.and_eq_true,decide_eq_true_eq]at this;have h2:=this.1.1.1.1.2;simpa using h2
 refine kH m [⟨n1,d1,t1,zs1,true,s1,x1,vx,cs1⟩] ks hm hB1 (fun f hf=>?_) ⟨?_,?_,?_,?_,?_⟩ ?_
 ·simp only[List.mem_cons,List.not_mem_nil,or_false]at hf
  subst hf;refine⟨q1,⟨oa1,hoa1,hda1,hga1,hrun1,fun j oj h1 h2 h3 h4=>dZ hB2 j oj h1 h2 h3 (h4 rfl)⟩,fun _=>⟨q3,q5,os1,hos1,hds1,hgs1,fun cs b e=>?_,by simpa using hx1,?_,hrs1⟩⟩
  ·simp only[okB,Region.lexTailB,Bool.and_eq_true,decide_eq_true_eq]at hB1
   exact Region.noSelect_spec hB1.1.1.1.1.1 s1 os1 cs b hos1 e
  ·obtain⟨e,he,hb⟩:=Array.any_eq_true'.1 haf
   simp only[Bool.and_eq_true,beq_iff_eq]at hb;exact⟨e,he,hb.1,hb.2⟩
 ·simp
 ·simp
 ·intro f hf f' hf' h1 h2 _
  simp only[List.mem_cons,List.not_mem_nil,or_false]at hf hf';subst hf;subst hf';rfl
 ·intro f hf f' hf' h1
  simp only[List.mem_cons,List.not_mem_nil,or_false]at hf hf';subst hf;subst hf';exact q5
 ·intro f hf f' hf'
  simp only[List.mem_cons,List.not_mem_nil,or_false]at hf hf';subst hf;subst hf';exact q8
 ·refine wpCG_end (fun i a h f hf hs he=>?_) (fun a' Φ h w' h1 h2 bs h3 h4=>?_) _ _ _ _ h
  ·simp only[List.mem_cons,List.not_mem_nil,or_false]at hf
   subst hf;exact h he
  obtain⟨h5,h6,h7⟩:=h3;have hs1l:s1<l.length:=by omega
  have hnow:(⟨n1,d1,t1,zs1,true,s1,x1,vx,cs1⟩ : FG).now (Array.replicate l.toArray.size true)=cs1:=by simp[FG.now,hs1l]
  match bs,h4,h5,h6,h7 with
  | [],h4,_,_,_=>exact absurd (h4 _ (List.mem_cons_self ..)) (by simp)
  | [(f,b)],_,h5,_,_=>
   obtain⟨p1,p2,p3⟩:=h5 (f,b) (by simp)
   simp only[List.mem_cons,List.not_mem_nil,or_false]at p1;subst p1;exact h b w' h1 h2 p2 (by rw[hnow]at p3;exact p3)
  |p::q::bs,_,h5,h6,_=>
   exfalso
   have e1:=(h5 p (by simp)).1
   have e2:=(h5 q (by simp)).1
   simp only[List.mem_cons,List.not_mem_nil,or_false]at e1 e2;simp[e1,e2]at h6
end
end Go.Proofs.YtjlkeoppppfeiaaGreat
