/- Lemmas. -/
import Derived.Test.YtjlkeoppppfeiaaGreatQNoteV
import Derived.Test.YtjlkeoppppfeiaaGreatQMake
import Derived.Test.YtjlkeoppppfeiaaGreatQAppS
import Derived.Test.YtjlkeoppppfeiaaGreatQCorn
import Derived.Test.YtjlkeoppppfeiaaGreatQValid
import Derived.Test.YtjlkeoppppfeiaaGreatQBase
import Derived.Test.YtjlkeoppppfeiaaGreatQReg7
import Derived.Test.YtjlkeoppppfeiaaGreatQOrdM
import Derived.Test.YtjlkeoppppfeiaaGreatQReg
import Derived.Test.YtjlkeoppppfeiaaGreatQLeaf
namespace Go.Proofs.YtjlkeoppppfeiaaGreat
instance noteDec:DecidableEq NoteR:=fun a b=>
 if h:a.k=b.k∧a.tu=b.tu∧a.gr=b.gr∧a.lo=b.lo∧a.ch=b.ch∧a.ton=b.ton∧a.me=b.me∧a.si=b.si∧a.wa=b.wa∧a.ar=b.ar then
  isTrue (by cases a;cases b;simp_all)
 else isFalse (fun e=>h (by subst e;simp))
structure EdR where
 at_:Int
 kd:Int
 nt:NoteR
def cst:List NoteR→List NoteR→Nat
 | [],b=>b.length
 |_::a,[]=>a.length+1
 |x::a,y::b=>if x=y then cst a b else 1+min (cst a b) (min (cst a (y::b)) (cst (x::a) b))
termination_by a b=>a.length+b.length
theorem fT (b:List NoteR):cst [] b=b.length:=by rw[cst]
theorem dU (a:List NoteR):cst a []=a.length:=by cases a<;>rw[cst]<;>rfl
theorem cst_cons (x y:NoteR) (a b:List NoteR):cst (x::a) (y::b)=if x=y then cst a b else 1+min (cst a b) (min (cst a (y::b)) (cst (x::a) b)):=by rw[cst]
theorem gZ:∀(n:Nat) (a b:List NoteR),a.length+b.length≤n→cst a b=cst b a
 |_,[],b,_=>by rw[fT,dU]
 |_,x::a,[],_=>by rw[fT,dU]
 |0,x::a,y::b,h=>by simp at h
 |n+1,x::a,y::b,h=>by
  simp only[List.length_cons]at h;rw[cst_cons,cst_cons,gZ n a b (by omega),gZ n a (y::b) (by simp;omega),gZ n (x::a) b (by simp;omega)]
  by_cases e:x=y
  ·rw[if_pos e,if_pos e.symm]
  ·rw[if_neg e,if_neg (fun q=>e q.symm),Nat.min_comm (cst (y::b) a)]
theorem oI:∀(n:Nat) (a b:List NoteR) (x:NoteR),a.length+b.length≤n→cst (x::a) b≤cst a b+1∧cst a b≤cst (x::a) b+1
 |_,a,[],x,_=>by rw[dU,dU,List.length_cons];omega
 |0,a,y::b,x,h=>by simp at h
 |n+1,a,y::b,x,h=>by
  simp only[List.length_cons]at h;have h1:=oI n b a y (by omega)
  have h2:=oI n a b x (by omega)
  rw[gZ _ (y::b) a (Nat.le_refl _),gZ _ b a (Nat.le_refl _)]at h1;rw[cst_cons]
  split
  ·omega
  ·omega
theorem aBU (a b:List NoteR) (y:NoteR):cst a (y::b)≤cst a b+1∧cst a b≤cst a (y::b)+1:=by
 have h1:=oI _ b a y (Nat.le_refl _)
 rwa [gZ _ (y::b) a (Nat.le_refl _),gZ _ b a (Nat.le_refl _)]at h1
theorem aCe (x y:NoteR) (a b:List NoteR):cst (x::a) (y::b)=if x=y then min (1+min (cst a b) (min (cst a (y::b)) (cst (x::a) b))) (cst a b) else 1+min (cst a b) (min (cst a (y::b)) (cst (x::a) b)):=by
 rw[cst_cons];have h1:=(oI _ a b x (Nat.le_refl _)).2;have h2:=(aBU a b y).2
 split
 ·omega
 ·rfl
theorem xJ:∀(n:Nat) (a b:List NoteR),a.length+b.length≤n→cst a b≤a.length+b.length
 |_,[],b,_=>by rw[fT];simp
 |_,x::a,[],_=>by rw[dU];simp
 |0,x::a,y::b,h=>by simp at h
 |n+1,x::a,y::b,h=>by
  simp only[List.length_cons]at h ⊢;have h1:=xJ n a b (by omega)
  rw[cst_cons]
  split<;>omega
def mnd (i:Int):List NoteR→List NoteR→List EdR
 | [],[]=>[]
 | [],y::b=>⟨i,1,y⟩::mnd i [] b
 |_::a,[]=>⟨i,2,⟨0,0,0,0,0,0,0,0,0,0⟩⟩::mnd (i+1) a []
 |x::a,y::b=>
  if x=y∧cst a b=cst (x::a) (y::b) then mnd (i+1) a b
  else if cst a b+1=cst (x::a) (y::b) then ⟨i,3,y⟩::mnd (i+1) a b
  else if cst a (y::b)+1=cst (x::a) (y::b) then ⟨i,2,⟨0,0,0,0,0,0,0,0,0,0⟩⟩::mnd (i+1) a (y::b)
  else ⟨i,1,y⟩::mnd i (x::a) b
termination_by a b=>a.length+b.length
end Go.Proofs.YtjlkeoppppfeiaaGreat
namespace Go.Proofs.YtjlkeoppppfeiaaGreat
open Go.RowKit Go.Shelf Go.Sort Go.Proofs
structure GR (a b:List NoteR) (n m:Nat) (w:World) (cb rb i j:Nat):Prop where
 c:∃cs,BK w cb 3 cs∧cs.size=(n+1)*(m+1)∧∀r j',r≤n→j'≤m→(i<r∨r=i∧j≤j')→cs[r*(m+1)+j']?=some (.int .i64 (cst (a.drop r) (b.drop j'):Nat))
 r:∃rs,BK w rb 27 rs∧rs.size=n+1∧∀r,r≤n→i≤r→rs[r]?=some (.slice (some ⟨cb,r*(m+1),none⟩) (m+1) (m+1))
theorem aBV {n m r j:Nat} (hr:r≤n) (hj:j≤m):r*(m+1)+j<(n+1)*(m+1):=by
 have h1:r*(m+1)≤n*(m+1):=Nat.mul_le_mul_right _ hr;rw[Nat.succ_mul];omega
theorem aBW {m r j r' j':Nat} (hj:j≤m) (hj':j'≤m) (h:r*(m+1)+j=r'*(m+1)+j'):r=r'∧j=j':=by
 have h1:(r*(m+1)+j) / (m+1)=r:=by rw[Nat.add_comm,Nat.add_mul_div_right _ _ (by omega),Nat.div_eq_of_lt (by omega),Nat.zero_add]
 have h2:(r'*(m+1)+j') / (m+1)=r':=by rw[Nat.add_comm,Nat.add_mul_div_right _ _ (by omega),Nat.div_eq_of_lt (by omega),Nat.zero_add]
 rw[h,h2]at h1;subst h1;exact⟨rfl,by omega⟩
section
variable {a b:List NoteR} {n m:Nat} {w w':World} {cb rb i j:Nat}
theorem GR.same (h:GR a b n m w cb rb i j) (h1:w'.heap[cb]?=w.heap[cb]?) (h2:w'.heap[rb]?=w.heap[rb]?):GR a b n m w' cb rb i j:=by
 obtain⟨⟨cs,hc,hc1,hc2⟩,⟨rs,hr,hr1,hr2⟩⟩:=h;exact⟨⟨cs,hc.same h1,hc1,hc2⟩,⟨rs,hr.same h2,hr1,hr2⟩⟩
theorem GR.row (h:GR a b n m w cb rb i j) {r:Nat} (hr:r≤n) (hi:i≤r):w.cell? ⟨rb,r,none⟩=some (.slice (some ⟨cb,r*(m+1),none⟩) (m+1) (m+1)):=by
 obtain⟨-,⟨rs,h1,-,h2⟩⟩:=h;rw[h1.cell r,h2 r hr hi]
theorem GR.at_ (h:GR a b n m w cb rb i j) {r j':Nat} (hr:r≤n) (hj:j'≤m) (hi:i<r∨r=i∧j≤j'):w.cell? ⟨cb,r*(m+1)+j',none⟩=some (.int .i64 (cst (a.drop r) (b.drop j'):Nat)):=by
 obtain⟨⟨cs,h1,-,h2⟩,-⟩:=h;rw[h1.cell _,h2 r j' hr hj hi]
theorem GR.some_ (h:GR a b n m w cb rb i j) {r j':Nat} (hr:r≤n) (hj:j'≤m):∃v,w.cell? ⟨cb,r*(m+1)+j',none⟩=some v:=by
 obtain⟨⟨cs,h1,h2,-⟩,-⟩:=h;rw[h1.cell _];exact⟨_,Array.getElem?_eq_getElem (by rw[h2];exact aBV hr hj)⟩
theorem GR.put (h:GR a b n m w cb rb i (j+1)) (hne:cb≠rb) (hi:i≤n) (hj:j≤m) (v:Int) (hv:v=(cst (a.drop i) (b.drop j):Nat)):GR a b n m (w.setCell ⟨cb,i*(m+1)+j,none⟩ (.int .i64 v)) cb rb i j:=by
 subst hv;obtain⟨⟨cs,hc,hc1,hc2⟩,⟨rs,hr,hr1,hr2⟩⟩:=h;refine⟨⟨_,hc.set_ _ _,by simpa using hc1,fun r j' h1 h2 h3=>?_⟩,⟨rs,hr.far (p:=⟨cb,_,none⟩) (by simpa using Ne.symm hne) _,hr1,hr2⟩⟩
 by_cases e:r*(m+1)+j'=i*(m+1)+j
 ·obtain⟨rfl,rfl⟩:=aBW h2 hj e
  rw[Array.getElem?_setIfInBounds,if_pos rfl,if_pos (by rw[hc1];exact aBV hi hj)]
 ·rw[Array.getElem?_setIfInBounds,if_neg (fun q=>e q.symm)]
  refine hc2 r j' h1 h2 ?_
  rcases h3 with h3|⟨rfl,h3⟩
  ·exact .inl h3
  ·refine .inr ⟨rfl,?_⟩
   rcases Nat.lt_or_ge j j' with h4|h4
   ·exact h4
   ·exact absurd (by rw[show j'=j by omega]) e
theorem GR.scr (h:GR a b n m w cb rb i (j+1)) (hne:cb≠rb) (hi:i≤n) (hj:j≤m) (u:Value):GR a b n m (w.setCell ⟨cb,i*(m+1)+j,none⟩ u) cb rb i (j+1)∧(w.setCell ⟨cb,i*(m+1)+j,none⟩ u).cell? ⟨cb,i*(m+1)+j,none⟩=some u:=by
 obtain⟨⟨cs,hc,hc1,hc2⟩,⟨rs,hr,hr1,hr2⟩⟩:=h;refine⟨⟨⟨_,hc.set_ _ _,by simpa using hc1,fun r j' h1 h2 h3=>?_⟩,⟨rs,hr.far (p:=⟨cb,_,none⟩) (by simpa using Ne.symm hne) _,hr1,hr2⟩⟩,?_⟩
 ·by_cases e:r*(m+1)+j'=i*(m+1)+j
  ·obtain⟨rfl,rfl⟩:=aBW h2 hj e
   rcases h3 with h3|⟨-,h3⟩<;>omega
  ·rw[Array.getElem?_setIfInBounds,if_neg (fun q=>e q.symm)]
   exact hc2 r j' h1 h2 h3
 ·rw[(hc.set_ _ u).cell,Array.getElem?_setIfInBounds,if_pos rfl,if_pos (by rw[hc1];exact aBV hi hj)]
theorem GR.fz (h:GR a b n m w cb rb i j) (k:Nat):w.frozen? ⟨cb,k,none⟩=false∧w.frozen? ⟨rb,k,none⟩=false:=by
 obtain⟨⟨cs,hc,hc1,hc2⟩,⟨rs,hr,hr1,hr2⟩⟩:=h;exact⟨hc.frozen k,hr.frozen k⟩
theorem GR.row_some (h:GR a b n m w cb rb i j) {r:Nat} (hr:r≤n):∃v,w.cell? ⟨rb,r,none⟩=some v:=by
 obtain⟨-,⟨rs,h1,h2,-⟩⟩:=h;rw[h1.cell _];exact⟨_,Array.getElem?_eq_getElem (by rw[h2];omega)⟩
theorem GR.lt (h:GR a b n m w cb rb i j):cb<w.heap.size∧rb<w.heap.size:=by
 obtain⟨⟨cs,hc,-⟩,⟨rs,hr,-⟩⟩:=h;exact⟨hc.lt,hr.lt⟩
theorem GR.below (h:GR a b n m w cb rb i j) (hb:Below w.heap.size w w'):GR a b n m w' cb rb i j:=h.same (hb.block _ h.lt.1) (hb.block _ h.lt.2)
theorem GR.app {f:EdR→List Value} {base A k c g c' xs w1 y} (h:GR a b n m w cb rb i j) (hO:OW f 12 164 base w A k c xs) {o:Obj} (hap:App1 f 12 164 base (w.alloc o) A k c xs y g c' w1):GR a b n m w1 cb rb i j:=by
 obtain⟨⟨cs,hc,hc1,hc2⟩,⟨rs,hr,hr1,hr2⟩⟩:=h;have f1:=(hap.far cb (by have:=hc.lt;rw[World.size_alloc];omega) (fun q hq e=>OW.bk_ne hO hc (by decide) hq e)).trans (Below.heap_alloc w o cb hc.lt)
 have f2:=(hap.far rb (by have:=hr.lt;rw[World.size_alloc];omega) (fun q hq e=>OW.bk_ne hO hr (by decide) hq e)).trans (Below.heap_alloc w o rb hr.lt)
 exact⟨⟨cs,hc.same f1,hc1,hc2⟩,⟨rs,hr.same f2,hr1,hr2⟩⟩
theorem GR.putRow (h:GR a b n m w cb rb (i+1) 0) (hne:cb≠rb) (hi:i≤n):GR a b n m (w.setCell ⟨rb,i,none⟩ (.slice (some ⟨cb,i*(m+1),none⟩) (m+1) (m+1))) cb rb i (m+1):=by
 obtain⟨⟨cs,hc,hc1,hc2⟩,⟨rs,hr,hr1,hr2⟩⟩:=h;refine⟨⟨cs,hc.far (p:=⟨rb,_,none⟩) (by simpa using hne) _,hc1,fun r j' h1 h2 h3=>hc2 r j' h1 h2 ?_⟩,⟨_,hr.set_ _ _,by simpa using hr1,fun r h1 h2=>?_⟩⟩
 ·rcases h3 with h3|⟨rfl,h3⟩
  ·rcases Nat.lt_or_ge (i+1) r with h4|h4
   ·exact .inl h4
   ·exact .inr ⟨by omega,Nat.zero_le _⟩
  ·omega
 ·by_cases e:i=r
  ·subst e
   rw[Array.getElem?_setIfInBounds,if_pos rfl,if_pos (by omega)]
  ·rw[Array.getElem?_setIfInBounds,if_neg e]
   exact hr2 r h1 (by omega)
end
end Go.Proofs.YtjlkeoppppfeiaaGreat
namespace Go.Proofs.YtjlkeoppppfeiaaGreat
open Go.RowKit Go.Shelf Go.Sort Go.Proofs
theorem eqN (x y:NoteR) (w:World):(Go.binOp .eql 118 (.agg #[.int .i64 x.k,.int .i64 x.tu,.int .i64 x.gr,.int .i64 x.lo,.int .i64 x.ch,.int .i64 x.ton,.int .i64 x.me,.int .i64 x.si,.int .i64 x.wa,.int .i64 x.ar]) (.agg #[.int .i64 y.k,.int .i64 y.tu,.int .i64 y.gr,.int .i64 y.lo,.int .i64 y.ch,.int .i64 y.ton,.int .i64 y.me,.int .i64 y.si,.int .i64 y.wa,.int .i64 y.ar])).run Tryz.prog w = .ok (.bool (decide (x=y))) w:=by
 rw[zG]
 congr 2
 obtain⟨a0,a1,a2,a3,a4,a5,a6,a7,a8,a9⟩:=x;obtain⟨b0,b1,b2,b3,b4,b5,b6,b7,b8,b9⟩:=y;rw[Bool.eq_iff_iff];simp only[Bool.and_eq_true,beq_iff_eq,decide_eq_true_eq,NoteR.mk.injEq,and_assoc]
theorem neN (x y:NoteR) (w:World) (h:x≠y):(Go.binOp .neq 118 (.agg #[.int .i64 x.k,.int .i64 x.tu,.int .i64 x.gr,.int .i64 x.lo,.int .i64 x.ch,.int .i64 x.ton,.int .i64 x.me,.int .i64 x.si,.int .i64 x.wa,.int .i64 x.ar]) (.agg #[.int .i64 y.k,.int .i64 y.tu,.int .i64 y.gr,.int .i64 y.lo,.int .i64 y.ch,.int .i64 y.ton,.int .i64 y.me,.int .i64 y.si,.int .i64 y.wa,.int .i64 y.ar])).run Tryz.prog w = .ok (.bool true) w:=by
 have h1:=eqN x y w;rw[decide_eq_false h,run_eql_struct]at h1;rw[run_neq_struct]
 revert h1
 cases (Op.equalIn 10000 118 (.agg #[.int .i64 x.k,.int .i64 x.tu,.int .i64 x.gr,.int .i64 x.lo,.int .i64 x.ch,.int .i64 x.ton,.int .i64 x.me,.int .i64 x.si,.int .i64 x.wa,.int .i64 x.ar]) (.agg #[.int .i64 y.k,.int .i64 y.tu,.int .i64 y.gr,.int .i64 y.lo,.int .i64 y.ch,.int .i64 y.ton,.int .i64 y.me,.int .i64 y.si,.int .i64 y.wa,.int .i64 y.ar])).run Tryz.prog w with
 |ok b w'=>
  intro h1;simp only[Result.andThen,Result.ok.injEq,Value.bool.injEq]at h1 ⊢;simp[h1.1,h1.2]
 |_=>intro h1;simp[Result.andThen]at h1
theorem uX {α:Type} {xs ys:List α} {k:Nat} (h1:k<xs.length) (h2:k<ys.length) (h:xs[k]≠ys[k]):xs≠ys:=fun e=>by subst e;exact h rfl
theorem iA {α:Type} {xs ys:List α} {k:Nat} (h:xs.take k=ys.take k) (h1:k<xs.length) (h2:k<ys.length) (he:xs[k]=ys[k]):xs.take (k+1)=ys.take (k+1):=by
 rw[List.take_add_one,List.take_add_one,h,List.getElem?_eq_getElem h1,List.getElem?_eq_getElem h2,he]
set_option maxRecDepth 100000 in
set_option maxHeartbeats 4000000 in
theorem aAW (A:Option Addr) (n c:Nat) (xs:List NoteR) (A2:Option Addr) (m c2:Nat) (ys:List NoteR) (w:World) (h:SL nC 10 w w.heap.size A n xs) (h2:SL nC 10 w w.heap.size A2 m ys) (hn:n≤1000000) :
  Calls Tryz.prog 17 #[.slice A n c,.slice A2 m c2] w fun e w'=>e = .returned (.bool (decide (xs=ys)))∧Below w.heap.size w w':=by
 have hmo:Tryz.prog.follows .mixedOrders=true:=by kernel_rfl
 have HL:=Lib.hid h.1;have HL2:=Lib.hid h2.1;have HS:=Lib.hid h;have HS2:=Lib.hid h2;clear h h2;by_cases hnm:n=m
 case neg=>
  have HR:Hid (decide (xs=ys)=false):=by
   show _=_
   apply decide_eq_false
   intro e;exact hnm (by rw[HL.out,HL2.out,e])
  go_enter Tryz.func17,Tryz.ntmps17
  go_wp2_with fail
  go_ret
  exact⟨by rw[HR.out];rfl,Below.refl _ _⟩
 subst hnm;go_enter Tryz.func17,Tryz.ntmps17
 go_wp2_with fail
 go_loopw [5] (fun i wr=>∃k:Nat,k≤n∧i = .int .i64 (k:Nat)∧xs.take k=ys.take k∧Below w.heap.size w wr)
  (fun i _=>n-(intOf i).toNat)
 case atStart=>exact⟨0,Nat.zero_le _,rfl,by simp,Below.refl _ _⟩
 case round=>
  obtain⟨k,hk1,rfl,hal,hbr⟩:=hrel;by_cases hlt:k<n
  ·have hkl:k<xs.length:=by rw[←HL.out];exact hlt
   have hkl2:k<ys.length:=by rw[←HL2.out];exact hlt
   obtain⟨b,off,hA,hbB,c0',c1',c2',c3',c4',c5',c6',c7',c8',c9'⟩:=NS.at_ (HS.out.below hbr) hkl;obtain⟨b2,off2,hA2,hbB2,d0',d1',d2',d3',d4',d5',d6',d7',d8',d9'⟩:=NS.at_ (HS2.out.below hbr) hkl2;have HT:=Lib.hid (iA hal hkl hkl2);have HF:=Lib.hid (uX hkl hkl2)
   generalize xs[k]'hkl=x at *
   generalize ys[k]'hkl2=y at *
   subst hA hA2;have c0:=fun d os=>cell_regrown c0' d os
   have c1:=fun d os=>cell_regrown c1' d os
   have c2:=fun d os=>cell_regrown c2' d os
   have c3:=fun d os=>cell_regrown c3' d os
   have c4:=fun d os=>cell_regrown c4' d os
   have c5:=fun d os=>cell_regrown c5' d os
   have c6:=fun d os=>cell_regrown c6' d os
   have c7:=fun d os=>cell_regrown c7' d os
   have c8:=fun d os=>cell_regrown c8' d os
   have c9:=fun d os=>cell_regrown c9' d os
   have d0:=fun d os=>cell_regrown d0' d os
   have d1:=fun d os=>cell_regrown d1' d os
   have d2:=fun d os=>cell_regrown d2' d os
   have d3:=fun d os=>cell_regrown d3' d os
   have d4:=fun d os=>cell_regrown d4' d os
   have d5:=fun d os=>cell_regrown d5' d os
   have d6:=fun d os=>cell_regrown d6' d os
   have d7:=fun d os=>cell_regrown d7' d os
   have d8:=fun d os=>cell_regrown d8' d os
   have d9:=fun d os=>cell_regrown d9' d os
   by_cases e:x=y
   ·subst e
    have HT2:=Lib.hid (HT.out rfl);clear HT HF;go_wp2_with fail
    go_quiet(fail)
    go_wp2_with fail
    go_roundw
    case rel=>exact⟨k+1,by omega,by go_num,HT2.out,aD hbr _⟩
    case measure=>simp[intOf];omega
   ·have HR:Hid (decide (xs=ys)=false):=decide_eq_false (HF.out e)
    have hq:=fun w=>neN x y w e
    clear HT HF e;go_wp2_with fail
    go_quiet(fail)
    go_wp2_with fail
    go_ret
    exact⟨by rw[HR.out];rfl,aD hbr _⟩
  ·obtain rfl:k=n:=by omega
   have hall:xs=ys:=by
    have h1:=HL.out;have h2:=HL2.out;have e1:xs.take k=xs:=List.take_of_length_le (by omega)
    have e2:ys.take k=ys:=List.take_of_length_le (by omega)
    rw[e1,e2]at hal;exact hal
   have HALL:Hid (decide (xs=ys)=true):=decide_eq_true hall;clear hall hal;go_wp2_with fail
   go_ret
   exact⟨by rw[HALL.out];rfl,hbr⟩
end Go.Proofs.YtjlkeoppppfeiaaGreat
namespace Go.Proofs.YtjlkeoppppfeiaaGreat
def eAt (i:Int):List EdR→List NoteR×Bool×List EdR
 | []=>([],true,[])
 |e::l=>if e.at_=i then ((if e.kd=2 then (eAt i l).1 else e.nt::(eAt i l).1),(e.kd == 1)&&(eAt i l).2.1,(eAt i l).2.2) else ([],true,e::l)
def apE (i:Int):List NoteR→List EdR→List NoteR
 | [],l=>(eAt i l).1
 |x::a,l=>(eAt i l).1++((if (eAt i l).2.1 then [x] else [])++apE (i+1) a (eAt i l).2.2)
theorem zC (i:Int) (a:List NoteR) (y:NoteR) (l:List EdR):apE i a (⟨i,1,y⟩::l)=y::apE i a l:=by
 cases a<;>simp[apE,eAt]
theorem lJ (i:Int):mnd i [] []=[]:=by rw[mnd]
theorem lK (i:Int) (y:NoteR) (b:List NoteR):mnd i [] (y::b)=⟨i,1,y⟩::mnd i [] b:=by rw[mnd]
theorem lL (i:Int) (x:NoteR) (a:List NoteR):mnd i (x::a) []=⟨i,2,⟨0,0,0,0,0,0,0,0,0,0⟩⟩::mnd (i+1) a []:=by rw[mnd]
theorem iX (i:Int) (x y:NoteR) (a b:List NoteR):mnd i (x::a) (y::b) =
 if x=y∧cst a b=cst (x::a) (y::b) then mnd (i+1) a b
 else if cst a b+1=cst (x::a) (y::b) then ⟨i,3,y⟩::mnd (i+1) a b
 else if cst a (y::b)+1=cst (x::a) (y::b) then ⟨i,2,⟨0,0,0,0,0,0,0,0,0,0⟩⟩::mnd (i+1) a (y::b)
 else ⟨i,1,y⟩::mnd i (x::a) b:=by rw[mnd]
theorem iB:∀(k:Nat) (i:Int) (a b:List NoteR),a.length+b.length≤k→∀e∈mnd i a b,i≤e.at_
 |_,i,[],[],_,e,h=>by rw[lJ]at h;cases h
 |0,i,[],y::b,h,_,_=>by simp at h
 |0,i,x::a,_,h,_,_=>by simp at h
 |k+1,i,[],y::b,h,e,he=>by
  rw[lK]at he;rcases List.mem_cons.1 he with rfl|he
  ·exact Int.le_refl _
  ·exact iB k i [] b (by simp at h ⊢;omega) e he
 |k+1,i,x::a,[],h,e,he=>by
  rw[lL]at he;rcases List.mem_cons.1 he with rfl|he
  ·exact Int.le_refl _
  ·have:=iB k (i+1) a [] (by simp at h ⊢;omega) e he
   omega
 |k+1,i,x::a,y::b,h,e,he=>by
  simp only[List.length_cons]at h;have h1:=fun he=>iB k (i+1) a b (by omega) e he
  have h2:=fun he=>iB k (i+1) a (y::b) (by simp;omega) e he
  have h3:=fun he=>iB k i (x::a) b (by simp;omega) e he
  rw[iX]at he
  split at he
  ·have:=h1 he;omega
  ·split at he
   ·rcases List.mem_cons.1 he with rfl|he
    ·exact Int.le_refl _
    ·have:=h1 he;omega
   ·split at he
    ·rcases List.mem_cons.1 he with rfl|he
     ·exact Int.le_refl _
     ·have:=h2 he;omega
    ·rcases List.mem_cons.1 he with rfl|he
     ·exact Int.le_refl _
     ·exact h3 he
theorem lM (i:Int) (l:List EdR) (h:∀e∈l,i+1≤e.at_):eAt i l=([],true,l):=by
 cases l with
 |nil=>rfl
 |cons e l=>
  have:=h e (by simp)
  rw[eAt,if_neg (by omega)]
theorem kM:∀(k:Nat) (i:Int) (a b:List NoteR),a.length+b.length≤k→apE i a (mnd i a b)=b
 |_,i,[],[],_=>by rw[lJ];rfl
 |0,i,[],y::b,h=>by simp at h
 |0,i,x::a,_,h=>by simp at h
 |k+1,i,[],y::b,h=>by
  rw[lK,zC,kM k i [] b (by simp at h ⊢;omega)]
 |k+1,i,x::a,[],h=>by
  simp only[List.length_cons]at h;rw[lL,apE,eAt,if_pos rfl,lM i _ (iB _ (i+1) a [] (Nat.le_refl _))];simp only[if_pos];rw[kM k (i+1) a [] (by simp at h ⊢;omega)]
  rfl
 |k+1,i,x::a,y::b,h=>by
  simp only[List.length_cons]at h;rw[iX]
  split
  ·rename_i hc
   rw[apE,lM i _ (iB _ (i+1) a b (Nat.le_refl _)),kM k (i+1) a b (by omega),hc.1]
   rfl
  ·split
   ·rw[apE,eAt,if_pos rfl,lM i _ (iB _ (i+1) a b (Nat.le_refl _)),kM k (i+1) a b (by omega)]
    rfl
   ·split
    ·rw[apE,eAt,if_pos rfl,lM i _ (iB _ (i+1) a (y::b) (Nat.le_refl _)),kM k (i+1) a (y::b) (by simp;omega)]
     rfl
    ·rw[zC,kM k i (x::a) b (by simp;omega)]
theorem fU:∀(k:Nat) (i:Int) (a b:List NoteR),a.length+b.length≤k→(mnd i a b).length=cst a b
 |_,i,[],[],_=>by rw[lJ,fT];rfl
 |0,i,[],y::b,h=>by simp at h
 |0,i,x::a,_,h=>by simp at h
 |k+1,i,[],y::b,h=>by
  rw[lK,List.length_cons,fU k i [] b (by simp at h ⊢;omega),fT,fT,List.length_cons]
 |k+1,i,x::a,[],h=>by
  rw[lL,List.length_cons,fU k (i+1) a [] (by simp at h ⊢;omega),dU,dU,List.length_cons]
 |k+1,i,x::a,y::b,h=>by
  simp only[List.length_cons]at h;rw[iX]
  split
  ·rename_i hc
   rw[fU k (i+1) a b (by omega),hc.2]
  ·split
   ·rename_i hc
    rw[List.length_cons,fU k (i+1) a b (by omega),hc]
   ·split
    ·rename_i hc
     rw[List.length_cons,fU k (i+1) a (y::b) (by simp;omega),hc]
    ·rename_i h1 h2 h3
     rw[List.length_cons,fU k i (x::a) b (by simp;omega)]
     rw[cst_cons]at h1 h2 h3 ⊢;by_cases hxy:x=y
     ·rw[if_pos hxy]at h1;exact absurd ⟨hxy,rfl⟩ h1
     ·rw[if_neg hxy]at h2 h3 ⊢
      omega
theorem uY:∀(a b:List NoteR),cst a b=0↔a=b
 | [],b=>by rw[fT];cases b<;>simp
 |x::a,[]=>by rw[dU];simp
 |x::a,y::b=>by
  rw[cst_cons]
  split
  ·rename_i h
   rw[uY a b,h];simp
  ·rename_i h
   constructor
   ·intro hh;omega
   ·intro hh;injection hh with h1 _;exact absurd h1 h
def fV (n:Nat) (e:EdR):Bool:=
 if e.kd=1 then decide (0≤e.at_∧e.at_≤n)&&aR e.nt
 else if e.kd=2 then decide (0≤e.at_∧e.at_≤(n:Int)-1)&&decide (e.nt=⟨0,0,0,0,0,0,0,0,0,0⟩)
 else if e.kd=3 then decide (0≤e.at_∧e.at_≤(n:Int)-1)&&aR e.nt
 else false
def cK (n:Nat):Int→Bool→List EdR→Bool
 |_,_,[]=>true
 |last,used,e::l=>
  decide (last≤e.at_∧e.at_≤n) &&
  (let u:=used&&decide (e.at_≤last)
   !u&&(if e.kd=1 then aR e.nt&&cK n e.at_ false l
    else if e.kd=2 then decide (e.at_≠n)&&decide (e.nt=⟨0,0,0,0,0,0,0,0,0,0⟩)&&cK n e.at_ true l
    else if e.kd=3 then decide (e.at_≠n)&&aR e.nt&&cK n e.at_ true l
    else false))
def iO (n:Nat):Int→Int→List EdR→Bool
 |_,_,[]=>true
 |p,k,e::l=>fV n e && !(decide (e.at_<p)||(decide (e.at_=p)&&decide (k≠1)))&&iO n e.at_ e.kd l
theorem o7 (n:Nat):∀(l:List EdR) (last:Int) (used:Bool) (k:Int),0≤last→(used=true↔k≠1)→cK n last used l=iO n last k l
 | [],_,_,_,_,_=>rfl
 |e::l,last,used,k,h0,hk=>by
  have ih1:0≤e.at_→e.kd=1→cK n e.at_ false l=iO n e.at_ e.kd l:=fun h h1=>o7 n l e.at_ false e.kd h (by simp[h1])
  have ih2:0≤e.at_→e.kd≠1→cK n e.at_ true l=iO n e.at_ e.kd l:=fun h h1=>o7 n l e.at_ true e.kd h (by simp[h1])
  rw[cK,iO]
  dsimp only
  by_cases h1:last≤e.at_
  ·have h2:0≤e.at_:=by omega
   have e1:decide (e.at_<last)=false:=by simp;omega
   by_cases hn:e.at_≤n
   ·have e2:decide (last≤e.at_∧e.at_≤(n:Int))=true:=by simp;omega
    have e3:(used&&decide (e.at_≤last))=(decide (e.at_=last)&&decide (k≠1)):=by
     have:decide (e.at_≤last)=decide (e.at_=last):=decide_eq_decide.2 (by omega)
     rw[this,Bool.and_comm]
     congr 1
     by_cases hu:used=true
     ·rw[hu];simp[hk.1 hu]
     ·have:¬k≠1:=fun q=>hu (hk.2 q)
      simp[Bool.not_eq_true _▸hu,this]
    rw[e2,e1,Bool.true_and,Bool.false_or,e3];unfold fV;by_cases k1:e.kd=1
    ·rw[if_pos k1,if_pos k1,ih1 h2 k1]
     have:decide (0≤e.at_∧e.at_≤(n:Int))=true:=by simp;omega
     rw[this,Bool.true_and];cases (decide (e.at_=last)&&decide (k≠1))<;>simp
    ·rw[if_neg k1,if_neg k1,ih2 h2 k1]
     have e5:decide (0≤e.at_∧e.at_≤(n:Int)-1)=decide (e.at_≠n):=decide_eq_decide.2 (by omega)
     by_cases k2:e.kd=2
     ·rw[if_pos k2,if_pos k2,e5]
      cases (decide (e.at_=last)&&decide (k≠1))<;>simp
     ·rw[if_neg k2,if_neg k2,e5]
      by_cases k3:e.kd=3
      ·rw[if_pos k3,if_pos k3]
       cases (decide (e.at_=last)&&decide (k≠1))<;>simp
      ·rw[if_neg k3,if_neg k3]
       cases (decide (e.at_=last)&&decide (k≠1))<;>simp
   ·have e2:decide (last≤e.at_∧e.at_≤(n:Int))=false:=by simp;omega
    have e6:fV n e=false:=by
     unfold fV;have a1:decide (0≤e.at_∧e.at_≤(n:Int))=false:=by simp;omega
     have a2:decide (0≤e.at_∧e.at_≤(n:Int)-1)=false:=by simp;omega
     rw[a1,a2];simp
    rw[e2,e6];simp
  ·have e1:decide (e.at_<last)=true:=by simp;omega
   have e2:decide (last≤e.at_∧e.at_≤(n:Int))=false:=by simp;omega
   rw[e1,e2];simp
def edB (n:Nat) (l:List EdR):Bool:=iO n 0 1 l
theorem aD9 (n:Nat) (l:List EdR):cK n 0 false l=edB n l:=o7 n l 0 false 1 (Int.le_refl _) (by simp)
end Go.Proofs.YtjlkeoppppfeiaaGreat
