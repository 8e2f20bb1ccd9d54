/- Lemmas. -/
import Derived.Test.YtjlkeoppppfeiaaGreatQBackM
import Derived.RegionTactic
import Derived.BigRegion
import Derived.Test.YtjlkeoppppfeiaaGreatQAppS
import Derived.Test.YtjlkeoppppfeiaaGreatQCorn
import Derived.Test.YtjlkeoppppfeiaaGreatQValid
import Derived.Test.YtjlkeoppppfeiaaGreatQBase
import Derived.Test.YtjlkeoppppfeiaaGreatQReg7
import Derived.Test.YtjlkeoppppfeiaaGreatQOrdM
import Derived.Test.YtjlkeoppppfeiaaGreatQReg
import Derived.Test.YtjlkeoppppfeiaaGreatQLeaf
namespace Go.Proofs.YtjlkeoppppfeiaaGreat
open Go.RowKit Go.Shelf Go.Sort Go.Proofs
def bS (a b:Int):Int:=if a<b then -1 else if b<a then 1 else 0
theorem bR (a b:Int):decide (bS a b<0)=decide (a<b):=by
 unfold bS
 split
 ·rename_i h;simp[h]
 ·rename_i h;split<;>simp[h]
theorem oP (a b:Int):(bS a b != 0)=decide (a≠b):=by
 unfold bS
 split
 ·rename_i h;have:a≠b:=by omega
  simp[this]
 ·rename_i h;split
  ·have:a≠b:=by omega
   simp[this]
  ·have:a=b:=by omega
   simp[this]
theorem cD {a w w':World} {g:Nat} (h:a.grownBy w (some g)) (hb:Below w.heap.size w w'):a.grownBy w' (some g):=
 aN h (let k:=gV hb;⟨k.os,k.tape,k.output,k.size,fun i hi _=>k.block i hi (by intro e;cases e)⟩)
set_option maxRecDepth 100000 in
theorem nD (x:Int) (w:World):Calls Tryz.prog 126 #[.int .i64 x] w fun e w'=>e = .returned (.bool false)∧w'=w:=by
 go_enter Tryz.func126,Tryz.ntmps126
 go_wp2_with fail
 go_ret
 exact⟨rfl,rfl⟩
set_option maxRecDepth 100000 in
theorem jI (x y:Int) (w:World):Calls Tryz.prog 45 #[.int .i64 x,.int .i64 y] w fun e w'=>e = .returned (.int .i64 (bS x y))∧w'=w:=by
 go_enter Tryz.func45,Tryz.ntmps45
 by_cases h1:x<y
 ·have hr:bS x y = -1:=by unfold bS;rw[if_pos h1]
  rw[hr];go_wp2_with(go_at_call 126;refine(nD _ _).mono ?_;rintro e w' ⟨rfl,rfl⟩)
  all_goals first|(go_ret;exact⟨rfl,rfl⟩)|(exfalso;omega)
 ·by_cases h2:y<x
  ·have hr:bS x y=1:=by unfold bS;rw[if_neg h1,if_pos h2]
   rw[hr];go_wp2_with(go_at_call 126;refine(nD _ _).mono ?_;rintro e w' ⟨rfl,rfl⟩)
   all_goals first|(go_ret;exact⟨rfl,rfl⟩)|(exfalso;omega)
  ·have hr:bS x y=0:=by unfold bS;rw[if_neg h1,if_neg h2]
   rw[hr];go_wp2_with(go_at_call 126;refine(nD _ _).mono ?_;rintro e w' ⟨rfl,rfl⟩)
   all_goals first|(go_ret;exact⟨rfl,rfl⟩)|(exfalso;omega)
section
variable {α:Type}
def st (P U M V Q:List α) (k:Nat):List α:=P++(V.take k++(U.drop k++(M++(U.take k++(V.drop k++Q)))))
theorem tW (P U M V Q:List α):st P U M V Q 0=P++(U++(M++(V++Q))):=by simp[st]
theorem tX {P U M V Q:List α} {m:Nat} (hU:U.length=m) (hV:V.length=m):st P U M V Q m=P++(V++(M++(U++Q))):=by
 simp[st,←hU,hV.trans hU.symm▸List.take_length (l:=V),hV.trans hU.symm▸List.drop_length (l:=V)]
theorem qG {P U M V Q:List α} {m k:Nat} (hU:U.length=m) (hV:V.length=m) (hk:k<m):∃A u B v C,st P U M V Q k=A++u::(B++v::C)∧st P U M V Q (k+1)=A++v::(B++u::C)∧A.length=P.length+k∧A.length+B.length+1=P.length+m+M.length+k:=by
 obtain⟨u,hu,hu'⟩ : ∃u,U.drop k=u::U.drop (k+1)∧U.take (k+1)=U.take k++[u]:=⟨_,List.drop_eq_getElem_cons (show k<U.length by omega),List.take_succ_eq_append_getElem (show k<U.length by omega)⟩
 obtain⟨v,hv,hv'⟩ : ∃v,V.drop k=v::V.drop (k+1)∧V.take (k+1)=V.take k++[v]:=⟨_,List.drop_eq_getElem_cons (show k<V.length by omega),List.take_succ_eq_append_getElem (show k<V.length by omega)⟩
 refine⟨P++V.take k,u,U.drop (k+1)++(M++U.take k),v,V.drop (k+1)++Q,?_,?_,?_,?_⟩
 ·rw[st,hu,hv];simp
 ·rw[st,hu',hv'];simp
 ·simp;omega
 ·simp;omega
end
set_option maxRecDepth 100000 in
theorem jJ (x y:Crest) (w:World):Calls Tryz.prog 44 #[.agg #[.int .i64 x.pos,.int .i64 x.siz],.agg #[.int .i64 y.pos,.int .i64 y.siz]] w fun e w'=>e = .returned (.int .i64 (bS x.pos y.pos))∧Below w.heap.size w w':=by
 have hb:Below w.heap.size w ((w.alloc (.cells #[.int .i64 x.pos,.int .i64 x.siz] 52)).alloc (.cells #[.int .i64 y.pos,.int .i64 y.siz] 52)):=((Below.refl _ _).alloc (Nat.le_refl _) _).alloc (by simp) _
 go_enter Tryz.func44,Tryz.ntmps44
 go_wp2_with(go_at_call 45;refine(jI _ _ _).mono ?_;rintro e w' ⟨rfl,rfl⟩)
 go_ret
 exact⟨rfl,hb⟩
theorem exC {base b n c i j:Nat} {A B C:List Crest} {u v:Crest} {w:World} (h:OW cC 2 52 base w (some ⟨b,0,none⟩) n c (A++u::(B++v::C))) (hi:A.length=i) (hj:A.length+B.length+1=j) :
  OW cC 2 52 base ((((w.setCell ⟨b,i*2+0,none⟩ (.int .i64 v.pos)).setCell ⟨b,i*2+1,none⟩ (.int .i64 v.siz)).setCell ⟨b,j*2+0,none⟩ (.int .i64 u.pos)).setCell ⟨b,j*2+1,none⟩ (.int .i64 u.siz)) (some ⟨b,0,none⟩) n c (A++v::(B++u::C)):=by
 have gi:=aL A u (B++v::C) hi
 have gj:=aS A u B v C hj;have hil:i<(A++u::(B++v::C)).length:=(List.getElem?_eq_some_iff.1 gi).1
 have hjl:j<(A++u::(B++v::C)).length:=(List.getElem?_eq_some_iff.1 gj).1
 have hres:((A++u::(B++v::C)).set i v).set j u=A++v::(B++u::C):=by
  exact jQ A u B v C hi hj
 rw[←hres];have hne:i≠j:=by omega
 generalize A++u::(B++v::C)=xs at h gi gj hil hjl ⊢
 clear hres hi hj;have s0:=OW.setF h aZ i 0 (x:=u) (y:={ u with pos:=v.pos }) (v:=.int .i64 v.pos) gi (by omega) rfl
 have e0:(xs.set i { u with pos:=v.pos })[i]?=some { u with pos:=v.pos }:=by simp[hil]
 have s1:=OW.setF s0 aZ i 1 (x:={ u with pos:=v.pos }) (y:={ u with pos:=v.pos,siz:=v.siz }) (v:=.int .i64 v.siz) e0 (by omega) rfl
 rw[List.set_set]at s1;have e1:(xs.set i { u with pos:=v.pos,siz:=v.siz })[i]?=some { u with pos:=v.pos,siz:=v.siz }:=by simp[hil]
 have g2:(xs.set i { u with pos:=v.pos,siz:=v.siz })[j]?=some v:=by rw[List.getElem?_set,if_neg (by omega)];exact gj
 have t0:=OW.setF s1 aZ j 0 (x:=v) (y:={ v with pos:=u.pos }) (v:=.int .i64 u.pos) g2 (by omega) rfl
 have d0:((xs.set i { u with pos:=v.pos,siz:=v.siz }).set j { v with pos:=u.pos })[j]?=some { v with pos:=u.pos }:=by simp[hjl]
 have t1:=OW.setF t0 aZ j 1 (x:={ v with pos:=u.pos }) (y:={ v with pos:=u.pos,siz:=u.siz }) (v:=.int .i64 u.siz) d0 (by omega) rfl
 rw[List.set_set]at t1;have d1:((xs.set i { u with pos:=v.pos,siz:=v.siz }).set j { v with pos:=u.pos,siz:=u.siz })[j]?=some { v with pos:=u.pos,siz:=u.siz }:=by simp[hjl]
 exact t1
theorem aEX {base b n c i j:Nat} {A B C:List Crest} {u v:Crest} {w:World} (h:OW cC 2 52 base w (some ⟨b,0,none⟩) n c (A++u::(B++v::C))) (hi:A.length=i) (hj:A.length+B.length+1=j) :
  OW cC 2 52 base ((((w.setCell ⟨b,j*2+0,none⟩ (.int .i64 u.pos)).setCell ⟨b,j*2+1,none⟩ (.int .i64 u.siz)).setCell ⟨b,i*2+0,none⟩ (.int .i64 v.pos)).setCell ⟨b,i*2+1,none⟩ (.int .i64 v.siz)) (some ⟨b,0,none⟩) n c (A++v::(B++u::C)):=by
 have gi:=aL A u (B++v::C) hi
 have gj:=aS A u B v C hj;have hil:i<(A++u::(B++v::C)).length:=(List.getElem?_eq_some_iff.1 gi).1
 have hjl:j<(A++u::(B++v::C)).length:=(List.getElem?_eq_some_iff.1 gj).1
 have hres:((A++u::(B++v::C)).set j u).set i v=A++v::(B++u::C):=by
  rw[List.set_comm _ _ (by omega:j≠i)]
  exact jQ A u B v C hi hj
 rw[←hres];have hne:i≠j:=by omega
 generalize A++u::(B++v::C)=xs at h gi gj hil hjl ⊢
 clear hres hi hj;have s0:=OW.setF h aZ j 0 (x:=v) (y:={ v with pos:=u.pos }) (v:=.int .i64 u.pos) gj (by omega) rfl
 have e0:(xs.set j { v with pos:=u.pos })[j]?=some { v with pos:=u.pos }:=by simp[hjl]
 have s1:=OW.setF s0 aZ j 1 (x:={ v with pos:=u.pos }) (y:={ v with pos:=u.pos,siz:=u.siz }) (v:=.int .i64 u.siz) e0 (by omega) rfl
 rw[List.set_set]at s1;have e1:(xs.set j { v with pos:=u.pos,siz:=u.siz })[j]?=some { v with pos:=u.pos,siz:=u.siz }:=by simp[hjl]
 have g2:(xs.set j { v with pos:=u.pos,siz:=u.siz })[i]?=some u:=by rw[List.getElem?_set,if_neg (by omega)];exact gi
 have t0:=OW.setF s1 aZ i 0 (x:=u) (y:={ u with pos:=v.pos }) (v:=.int .i64 v.pos) g2 (by omega) rfl
 have d0:((xs.set j { v with pos:=u.pos,siz:=u.siz }).set i { u with pos:=v.pos })[i]?=some { u with pos:=v.pos }:=by simp[hil]
 have t1:=OW.setF t0 aZ i 1 (x:={ u with pos:=v.pos }) (y:={ u with pos:=v.pos,siz:=v.siz }) (v:=.int .i64 v.siz) d0 (by omega) rfl
 rw[List.set_set]at t1;have d1:((xs.set j { v with pos:=u.pos,siz:=u.siz }).set i { u with pos:=v.pos,siz:=v.siz })[i]?=some { u with pos:=v.pos,siz:=v.siz }:=by simp[hil]
 exact t1
set_option maxRecDepth 100000 in
set_option maxHeartbeats 4000000 in
theorem aEB (base b n c a d m:Nat) (P U M V Q:List Crest) (w:World) (h:OW cC 2 52 base w (some ⟨b,0,none⟩) n c (P++(U++(M++(V++Q))))) (hP:P.length=a) (hU:U.length=m) (hV:V.length=m) (hd:a+m+M.length=d) (hn:n≤100000) :
  Calls Tryz.prog 300 #[.slice (some ⟨b,0,none⟩) n c,.int .i64 a,.int .i64 d,.int .i64 m,.func (.func 44) #[] #[]] w fun e w'=>(∃v,e = .returned v)∧OW cC 2 52 base w' (some ⟨b,0,none⟩) n c (P++(V++(M++(U++Q))))∧w.grownBy w' (some b):=by
 have hmo:Tryz.prog.follows .mixedOrders=true:=by kernel_rfl
 rw[←tW]at h;have HH:=Lib.hid h;have HD:=Lib.hid (tX (P:=P) (M:=M) (Q:=Q) hU hV);have HR:=Lib.hid (fun k (hk:k<m)=>qG (P:=P) (M:=M) (Q:=Q) hU hV hk)
 have HN:n=P.length+m+M.length+m+Q.length:=by rw[h.2];simp[st];omega
 have hnn:d+m≤n:=by omega
 rw[hP,hd]at HR;clear h hU hV HN;go_enter Tryz.func300,Tryz.ntmps300
 go_wp2_with fail
 go_loopw [10] (fun i wr=>∃k:Nat,k≤m∧i = .int .i64 k∧OW cC 2 52 base wr (some ⟨b,0,none⟩) n c (st P U M V Q k)∧w.grownBy wr (some b))
  (fun i _=>m-(intOf i).toNat)
 case atStart=>exact⟨0,Nat.zero_le _,rfl,HH.out,World.grownBy.refl w _⟩
 case round=>
  obtain⟨k,hk,rfl,hO,hg⟩:=hrel;by_cases hlt:k<m
  ·obtain⟨A,u,B,v,C,e1,e2,e3,e4⟩:=HR.out k hlt
   rw[e1]at hO;have HE:=Lib.hid e2;have HA:=Lib.hid e3;have HB:=Lib.hid e4;obtain⟨b',hb',hbl,_,hfz,hrow⟩:=hO.at_ aZ _ rfl;cases hb'
   have gi:=aL A u (B++v::C) e3
   have gj:=aS A u B v C e4;clear e1 e2 e3 e4;have x0:=hrow (a+k) u gi 0 _ rfl;have x1:=hrow (a+k) u gi 1 _ rfl;have hax:∀q,0+(a+k)*2+q=(a+k)*2+q:=fun q=>by omega
   rw[hax]at x0 x1;rw[Nat.add_zero]at x0;clear hax;have y0:=hrow (d+k) v gj 0 _ rfl;have y1:=hrow (d+k) v gj 1 _ rfl;have hay:∀q,0+(d+k)*2+q=(d+k)*2+q:=fun q=>by omega
   rw[hay]at y0 y1;rw[Nat.add_zero]at y0;clear hay;have hwa:IntKind.i64.wrap ((a:Int)+(k:Int))=((a+k:Nat):Int):=by rw[Int.natCast_add];exact IntWalk.i64_in _ (by omega)
   have hwd:IntKind.i64.wrap ((d:Int)+(k:Int))=((d+k:Nat):Int):=by rw[Int.natCast_add];exact IntWalk.i64_in _ (by omega)
   have hi1:(0:Int)≤((a+k:Nat):Int):=by omega
   have hi2:((a+k:Nat):Int)<(n:Int):=by omega
   have hi3:(0:Int)≤((d+k:Nat):Int):=by omega
   have hi4:((d+k:Nat):Int)<(n:Int):=by omega
   clear hrow gi gj;go_wp2_with fail
   go_region
   go_wp2_with fail
   go_roundw
   case rel=>
    exact⟨k+1,by omega,by go_num,by rw[HE.out];exact OW.drew (exC hO HA.out HB.out),cB (aA (aA (aA (aA hg _) _) _) _)⟩
   case measure=>simp[intOf];omega
  ·obtain rfl:k=m:=by omega
   rw[HD.out]at hO;go_wp2_with fail
   go_end0
   exact⟨⟨_,rfl⟩,hO,hg⟩
set_option maxRecDepth 100000 in
theorem jK (x y:Junc) (w:World):Calls Tryz.prog 48 #[.agg #[.int .i64 x.pos,.int .i64 x.arms,.int .i64 x.way],.agg #[.int .i64 y.pos,.int .i64 y.arms,.int .i64 y.way]] w fun e w'=>e = .returned (.int .i64 (bS x.pos y.pos))∧Below w.heap.size w w':=by
 have hb:Below w.heap.size w ((w.alloc (.cells #[.int .i64 x.pos,.int .i64 x.arms,.int .i64 x.way] 54)).alloc (.cells #[.int .i64 y.pos,.int .i64 y.arms,.int .i64 y.way] 54)):=((Below.refl _ _).alloc (Nat.le_refl _) _).alloc (by simp) _
 go_enter Tryz.func48,Tryz.ntmps48
 go_wp2_with(go_at_call 45;refine(jI _ _ _).mono ?_;rintro e w' ⟨rfl,rfl⟩)
 go_ret
 exact⟨rfl,hb⟩
theorem exJ {base b n c i j:Nat} {A B C:List Junc} {u v:Junc} {w:World} (h:OW jC 3 54 base w (some ⟨b,0,none⟩) n c (A++u::(B++v::C))) (hi:A.length=i) (hj:A.length+B.length+1=j) :
  OW jC 3 54 base ((((((w.setCell ⟨b,i*3+0,none⟩ (.int .i64 v.pos)).setCell ⟨b,i*3+1,none⟩ (.int .i64 v.arms)).setCell ⟨b,i*3+2,none⟩ (.int .i64 v.way)).setCell ⟨b,j*3+0,none⟩ (.int .i64 u.pos)).setCell ⟨b,j*3+1,none⟩ (.int .i64 u.arms)).setCell ⟨b,j*3+2,none⟩ (.int .i64 u.way)) (some ⟨b,0,none⟩) n c (A++v::(B++u::C)):=by
 have gi:=aL A u (B++v::C) hi
 have gj:=aS A u B v C hj;have hil:i<(A++u::(B++v::C)).length:=(List.getElem?_eq_some_iff.1 gi).1
 have hjl:j<(A++u::(B++v::C)).length:=(List.getElem?_eq_some_iff.1 gj).1
 have hres:((A++u::(B++v::C)).set i v).set j u=A++v::(B++u::C):=by
  exact jQ A u B v C hi hj
 rw[←hres];have hne:i≠j:=by omega
 generalize A++u::(B++v::C)=xs at h gi gj hil hjl ⊢
 clear hres hi hj;have s0:=OW.setF h aV i 0 (x:=u) (y:={ u with pos:=v.pos }) (v:=.int .i64 v.pos) gi (by omega) rfl
 have e0:(xs.set i { u with pos:=v.pos })[i]?=some { u with pos:=v.pos }:=by simp[hil]
 have s1:=OW.setF s0 aV i 1 (x:={ u with pos:=v.pos }) (y:={ u with pos:=v.pos,arms:=v.arms }) (v:=.int .i64 v.arms) e0 (by omega) rfl
 rw[List.set_set]at s1;have e1:(xs.set i { u with pos:=v.pos,arms:=v.arms })[i]?=some { u with pos:=v.pos,arms:=v.arms }:=by simp[hil]
 have s2:=OW.setF s1 aV i 2 (x:={ u with pos:=v.pos,arms:=v.arms }) (y:={ u with pos:=v.pos,arms:=v.arms,way:=v.way }) (v:=.int .i64 v.way) e1 (by omega) rfl
 rw[List.set_set]at s2;have e2:(xs.set i { u with pos:=v.pos,arms:=v.arms,way:=v.way })[i]?=some { u with pos:=v.pos,arms:=v.arms,way:=v.way }:=by simp[hil]
 have g2:(xs.set i { u with pos:=v.pos,arms:=v.arms,way:=v.way })[j]?=some v:=by rw[List.getElem?_set,if_neg (by omega)];exact gj
 have t0:=OW.setF s2 aV j 0 (x:=v) (y:={ v with pos:=u.pos }) (v:=.int .i64 u.pos) g2 (by omega) rfl
 have d0:((xs.set i { u with pos:=v.pos,arms:=v.arms,way:=v.way }).set j { v with pos:=u.pos })[j]?=some { v with pos:=u.pos }:=by simp[hjl]
 have t1:=OW.setF t0 aV j 1 (x:={ v with pos:=u.pos }) (y:={ v with pos:=u.pos,arms:=u.arms }) (v:=.int .i64 u.arms) d0 (by omega) rfl
 rw[List.set_set]at t1;have d1:((xs.set i { u with pos:=v.pos,arms:=v.arms,way:=v.way }).set j { v with pos:=u.pos,arms:=u.arms })[j]?=some { v with pos:=u.pos,arms:=u.arms }:=by simp[hjl]
 have t2:=OW.setF t1 aV j 2 (x:={ v with pos:=u.pos,arms:=u.arms }) (y:={ v with pos:=u.pos,arms:=u.arms,way:=u.way }) (v:=.int .i64 u.way) d1 (by omega) rfl
 rw[List.set_set]at t2;have d2:((xs.set i { u with pos:=v.pos,arms:=v.arms,way:=v.way }).set j { v with pos:=u.pos,arms:=u.arms,way:=u.way })[j]?=some { v with pos:=u.pos,arms:=u.arms,way:=u.way }:=by simp[hjl]
 exact t2
theorem aEY {base b n c i j:Nat} {A B C:List Junc} {u v:Junc} {w:World} (h:OW jC 3 54 base w (some ⟨b,0,none⟩) n c (A++u::(B++v::C))) (hi:A.length=i) (hj:A.length+B.length+1=j) :
  OW jC 3 54 base ((((((w.setCell ⟨b,j*3+0,none⟩ (.int .i64 u.pos)).setCell ⟨b,j*3+1,none⟩ (.int .i64 u.arms)).setCell ⟨b,j*3+2,none⟩ (.int .i64 u.way)).setCell ⟨b,i*3+0,none⟩ (.int .i64 v.pos)).setCell ⟨b,i*3+1,none⟩ (.int .i64 v.arms)).setCell ⟨b,i*3+2,none⟩ (.int .i64 v.way)) (some ⟨b,0,none⟩) n c (A++v::(B++u::C)):=by
 have gi:=aL A u (B++v::C) hi
 have gj:=aS A u B v C hj;have hil:i<(A++u::(B++v::C)).length:=(List.getElem?_eq_some_iff.1 gi).1
 have hjl:j<(A++u::(B++v::C)).length:=(List.getElem?_eq_some_iff.1 gj).1
 have hres:((A++u::(B++v::C)).set j u).set i v=A++v::(B++u::C):=by
  rw[List.set_comm _ _ (by omega:j≠i)]
  exact jQ A u B v C hi hj
 rw[←hres];have hne:i≠j:=by omega
 generalize A++u::(B++v::C)=xs at h gi gj hil hjl ⊢
 clear hres hi hj;have s0:=OW.setF h aV j 0 (x:=v) (y:={ v with pos:=u.pos }) (v:=.int .i64 u.pos) gj (by omega) rfl
 have e0:(xs.set j { v with pos:=u.pos })[j]?=some { v with pos:=u.pos }:=by simp[hjl]
 have s1:=OW.setF s0 aV j 1 (x:={ v with pos:=u.pos }) (y:={ v with pos:=u.pos,arms:=u.arms }) (v:=.int .i64 u.arms) e0 (by omega) rfl
 rw[List.set_set]at s1;have e1:(xs.set j { v with pos:=u.pos,arms:=u.arms })[j]?=some { v with pos:=u.pos,arms:=u.arms }:=by simp[hjl]
 have s2:=OW.setF s1 aV j 2 (x:={ v with pos:=u.pos,arms:=u.arms }) (y:={ v with pos:=u.pos,arms:=u.arms,way:=u.way }) (v:=.int .i64 u.way) e1 (by omega) rfl
 rw[List.set_set]at s2;have e2:(xs.set j { v with pos:=u.pos,arms:=u.arms,way:=u.way })[j]?=some { v with pos:=u.pos,arms:=u.arms,way:=u.way }:=by simp[hjl]
 have g2:(xs.set j { v with pos:=u.pos,arms:=u.arms,way:=u.way })[i]?=some u:=by rw[List.getElem?_set,if_neg (by omega)];exact gi
 have t0:=OW.setF s2 aV i 0 (x:=u) (y:={ u with pos:=v.pos }) (v:=.int .i64 v.pos) g2 (by omega) rfl
 have d0:((xs.set j { v with pos:=u.pos,arms:=u.arms,way:=u.way }).set i { u with pos:=v.pos })[i]?=some { u with pos:=v.pos }:=by simp[hil]
 have t1:=OW.setF t0 aV i 1 (x:={ u with pos:=v.pos }) (y:={ u with pos:=v.pos,arms:=v.arms }) (v:=.int .i64 v.arms) d0 (by omega) rfl
 rw[List.set_set]at t1;have d1:((xs.set j { v with pos:=u.pos,arms:=u.arms,way:=u.way }).set i { u with pos:=v.pos,arms:=v.arms })[i]?=some { u with pos:=v.pos,arms:=v.arms }:=by simp[hil]
 have t2:=OW.setF t1 aV i 2 (x:={ u with pos:=v.pos,arms:=v.arms }) (y:={ u with pos:=v.pos,arms:=v.arms,way:=v.way }) (v:=.int .i64 v.way) d1 (by omega) rfl
 rw[List.set_set]at t2;have d2:((xs.set j { v with pos:=u.pos,arms:=u.arms,way:=u.way }).set i { u with pos:=v.pos,arms:=v.arms,way:=v.way })[i]?=some { u with pos:=v.pos,arms:=v.arms,way:=v.way }:=by simp[hil]
 exact t2
set_option maxRecDepth 100000 in
set_option maxHeartbeats 4000000 in
theorem aEC (base b n c a d m:Nat) (P U M V Q:List Junc) (w:World) (h:OW jC 3 54 base w (some ⟨b,0,none⟩) n c (P++(U++(M++(V++Q))))) (hP:P.length=a) (hU:U.length=m) (hV:V.length=m) (hd:a+m+M.length=d) (hn:n≤100000) :
  Calls Tryz.prog 301 #[.slice (some ⟨b,0,none⟩) n c,.int .i64 a,.int .i64 d,.int .i64 m,.func (.func 48) #[] #[]] w fun e w'=>(∃v,e = .returned v)∧OW jC 3 54 base w' (some ⟨b,0,none⟩) n c (P++(V++(M++(U++Q))))∧w.grownBy w' (some b):=by
 have hmo:Tryz.prog.follows .mixedOrders=true:=by kernel_rfl
 rw[←tW]at h;have HH:=Lib.hid h;have HD:=Lib.hid (tX (P:=P) (M:=M) (Q:=Q) hU hV);have HR:=Lib.hid (fun k (hk:k<m)=>qG (P:=P) (M:=M) (Q:=Q) hU hV hk)
 have HN:n=P.length+m+M.length+m+Q.length:=by rw[h.2];simp[st];omega
 have hnn:d+m≤n:=by omega
 rw[hP,hd]at HR;clear h hU hV HN;go_enter Tryz.func301,Tryz.ntmps301
 go_wp2_with fail
 go_loopw [10] (fun i wr=>∃k:Nat,k≤m∧i = .int .i64 k∧OW jC 3 54 base wr (some ⟨b,0,none⟩) n c (st P U M V Q k)∧w.grownBy wr (some b))
  (fun i _=>m-(intOf i).toNat)
 case atStart=>exact⟨0,Nat.zero_le _,rfl,HH.out,World.grownBy.refl w _⟩
 case round=>
  obtain⟨k,hk,rfl,hO,hg⟩:=hrel;by_cases hlt:k<m
  ·obtain⟨A,u,B,v,C,e1,e2,e3,e4⟩:=HR.out k hlt
   rw[e1]at hO;have HE:=Lib.hid e2;have HA:=Lib.hid e3;have HB:=Lib.hid e4;obtain⟨b',hb',hbl,_,hfz,hrow⟩:=hO.at_ aV _ rfl;cases hb'
   have gi:=aL A u (B++v::C) e3
   have gj:=aS A u B v C e4;clear e1 e2 e3 e4;have x0:=hrow (a+k) u gi 0 _ rfl;have x1:=hrow (a+k) u gi 1 _ rfl;have x2:=hrow (a+k) u gi 2 _ rfl;have hax:∀q,0+(a+k)*3+q=(a+k)*3+q:=fun q=>by omega
   rw[hax]at x0 x1 x2;rw[Nat.add_zero]at x0;clear hax;have y0:=hrow (d+k) v gj 0 _ rfl;have y1:=hrow (d+k) v gj 1 _ rfl;have y2:=hrow (d+k) v gj 2 _ rfl;have hay:∀q,0+(d+k)*3+q=(d+k)*3+q:=fun q=>by omega
   rw[hay]at y0 y1 y2;rw[Nat.add_zero]at y0;clear hay;have hwa:IntKind.i64.wrap ((a:Int)+(k:Int))=((a+k:Nat):Int):=by rw[Int.natCast_add];exact IntWalk.i64_in _ (by omega)
   have hwd:IntKind.i64.wrap ((d:Int)+(k:Int))=((d+k:Nat):Int):=by rw[Int.natCast_add];exact IntWalk.i64_in _ (by omega)
   have hi1:(0:Int)≤((a+k:Nat):Int):=by omega
   have hi2:((a+k:Nat):Int)<(n:Int):=by omega
   have hi3:(0:Int)≤((d+k:Nat):Int):=by omega
   have hi4:((d+k:Nat):Int)<(n:Int):=by omega
   clear hrow gi gj;go_wp2_with fail
   go_region
   go_wp2_with fail
   go_roundw
   case rel=>
    exact⟨k+1,by omega,by go_num,by rw[HE.out];exact OW.drew (exJ hO HA.out HB.out),cB (aA (aA (aA (aA (aA (aA hg _) _) _) _) _) _)⟩
   case measure=>simp[intOf];omega
  ·obtain rfl:k=m:=by omega
   rw[HD.out]at hO;go_wp2_with fail
   go_end0
   exact⟨⟨_,rfl⟩,hO,hg⟩
end Go.Proofs.YtjlkeoppppfeiaaGreat
namespace Go.Proofs.YtjlkeoppppfeiaaGreat
open Go.RowKit Go.Shelf Go.Sort Go.Proofs
structure ThR where
 at_:Int
 en:Int
 od:Fin 3
 nk:Int
 ntu:Int
 ngr:Int
 nlo:Int
 nch:Int
 nto:Int
 nme:Int
 nsi:Int
 nwa:Int
 nar:Int
def thC (x:ThR):List Value:=[.int .i64 x.at_,.int .i64 x.en,.int .i64 ((x.od:Nat):Int),.int .i64 x.nk,.int .i64 x.ntu,.int .i64 x.ngr,.int .i64 x.nlo,.int .i64 x.nch,.int .i64 x.nto,.int .i64 x.nme,.int .i64 x.nsi,.int .i64 x.nwa,.int .i64 x.nar]
theorem aJ (x:ThR):(thC x).length=13:=rfl
def thA (x:ThR):Value:=.agg #[.int .i64 x.at_,.int .i64 x.en,.int .i64 ((x.od:Nat):Int),.int .i64 x.nk,.int .i64 x.ntu,.int .i64 x.ngr,.int .i64 x.nlo,.int .i64 x.nch,.int .i64 x.nto,.int .i64 x.nme,.int .i64 x.nsi,.int .i64 x.nwa,.int .i64 x.nar]
def ThR.pos (x:ThR):Int:=3*x.at_+((x.od:Nat):Int)
def orI (x y:Int):Int:=if x=0 then y else x
theorem aDN (b:Nat) (x y:Int) (w:World) (h:BK w b 3 #[.int .i64 x,.int .i64 y]) :
  Calls Tryz.prog 58 #[.slice (some ⟨b,0,none⟩) 2 2] w fun e w'=>e = .returned (.int .i64 (orI x y))∧w'=w:=by
 have c0:=h.cell 0;have c1:=h.cell 1;simp only[List.getElem?_toArray,List.getElem?_cons_zero,List.getElem?_cons_succ]at c0 c1
 go_enter Tryz.func58,Tryz.ntmps58
 go_wp2_with fail
 go_loopw [8] (fun i wr=>wr=w∧(i = .int .i64 0∨i = .int .i64 1∧x=0∨i = .int .i64 2∧x=0∧y=0)) (fun i _=>2-(intOf i).toNat)
 case atStart=>exact⟨rfl,.inl rfl⟩
 case round=>
  obtain⟨rfl,rfl|⟨rfl,rfl⟩|⟨rfl,rfl,rfl⟩⟩:=hrel
  ·by_cases hx:x=0
   ·subst hx
    go_wp2_with fail
    go_roundw
    case rel=>simp
    case measure=>simp[intOf]
   ·go_wp2_with fail
    go_ret
    exact⟨by unfold orI;rw[if_neg hx];rfl,rfl⟩
  ·by_cases hy:y=0
   ·subst hy
    go_wp2_with fail
    go_roundw
    case rel=>simp
    case measure=>simp[intOf]
   ·go_wp2_with fail
    go_ret
    exact⟨by unfold orI;rw[if_pos rfl];rfl,rfl⟩
  ·go_wp2_with fail
   go_ret
   exact⟨by unfold orI;rw[if_pos rfl];rfl,rfl⟩
theorem aDO (x y:ThR):orI (bS x.at_ y.at_) (bS ((x.od:Nat):Int) ((y.od:Nat):Int))=bS x.pos y.pos:=by
 have h1:=x.od.isLt;have h2:=y.od.isLt;unfold orI bS ThR.pos
 repeat' split
 all_goals omega
set_option maxRecDepth 100000 in
set_option maxHeartbeats 4000000 in
theorem mG (x y:ThR) (w:World):Calls Tryz.prog 57 #[thA x,thA y] w fun e w'=>e = .returned (.int .i64 (bS x.pos y.pos))∧Below w.heap.size w w':=by
 obtain⟨w0,hw0⟩ : ∃w0,w0=(w.alloc (.cells #[.int .i64 x.at_,.int .i64 x.en,.int .i64 ((x.od:Nat):Int),.int .i64 x.nk,.int .i64 x.ntu,.int .i64 x.ngr,.int .i64 x.nlo,.int .i64 x.nch,.int .i64 x.nto,.int .i64 x.nme,.int .i64 x.nsi,.int .i64 x.nwa,.int .i64 x.nar] 147)).alloc (.cells #[.int .i64 y.at_,.int .i64 y.en,.int .i64 ((y.od:Nat):Int),.int .i64 y.nk,.int .i64 y.ntu,.int .i64 y.ngr,.int .i64 y.nlo,.int .i64 y.nch,.int .i64 y.nto,.int .i64 y.nme,.int .i64 y.nsi,.int .i64 y.nwa,.int .i64 y.nar] 147):=⟨_,rfl⟩
 have hX:BK w0 w.heap.size 147 #[.int .i64 x.at_,.int .i64 x.en,.int .i64 ((x.od:Nat):Int),.int .i64 x.nk,.int .i64 x.ntu,.int .i64 x.ngr,.int .i64 x.nlo,.int .i64 x.nch,.int .i64 x.nto,.int .i64 x.nme,.int .i64 x.nsi,.int .i64 x.nwa,.int .i64 x.nar]:=by rw[hw0];exact(BK.new w _ _).alloc _
 have hY:BK w0 (w.heap.size+1) 147 #[.int .i64 y.at_,.int .i64 y.en,.int .i64 ((y.od:Nat):Int),.int .i64 y.nk,.int .i64 y.ntu,.int .i64 y.ngr,.int .i64 y.nlo,.int .i64 y.nch,.int .i64 y.nto,.int .i64 y.nme,.int .i64 y.nsi,.int .i64 y.nwa,.int .i64 y.nar]:=by
  rw[hw0];have:=BK.new (w.alloc (.cells #[.int .i64 x.at_,.int .i64 x.en,.int .i64 ((x.od:Nat):Int),.int .i64 x.nk,.int .i64 x.ntu,.int .i64 x.ngr,.int .i64 x.nlo,.int .i64 x.nch,.int .i64 x.nto,.int .i64 x.nme,.int .i64 x.nsi,.int .i64 x.nwa,.int .i64 x.nar] 147)) 147 #[.int .i64 y.at_,.int .i64 y.en,.int .i64 ((y.od:Nat):Int),.int .i64 y.nk,.int .i64 y.ntu,.int .i64 y.ngr,.int .i64 y.nlo,.int .i64 y.nch,.int .i64 y.nto,.int .i64 y.nme,.int .i64 y.nsi,.int .i64 y.nwa,.int .i64 y.nar];rw[World.size_alloc]at this;exact this
 have hB0:Below w.heap.size w w0:=by rw[hw0];exact((Below.refl _ w).alloc (Nat.le_refl _) _).alloc (by simp) _
 go_enter Tryz.func57,Tryz.ntmps57
 unfold thA;go_wp2_with fail
 rw[←hw0];clear hw0;have hmo:Tryz.prog.follows .mixedOrders=true:=by kernel_rfl
 have x0':=hX.cell 0;have x2':=hX.cell 2;have y0':=hY.cell 0;have y2':=hY.cell 2;simp only[List.getElem?_toArray,List.getElem?_cons_zero,List.getElem?_cons_succ]at x0' x2' y0' y2'
 have x0:=fun d os=>cell_regrown x0' d os
 have x2:=fun d os=>cell_regrown x2' d os
 have y0:=fun d os=>cell_regrown y0' d os
 have y2:=fun d os=>cell_regrown y2' d os
 clear x0' x2' y0' y2';refine dW 10 hmo (by kernel_rfl) ?_
 simp only[List.take_succ_cons,List.take_zero,List.drop_succ_cons,List.drop_zero]
 repeat (quiet_step (first|(go_at_call 45;exact(jI _ _ _).mono fun _ _ ⟨a,b⟩=>⟨a,_,b⟩)))
 refine wpQuiet_nil ?_
 intro W' hbw;have HB:=Lib.hid hbw;clear x0 x2 y0 y2 hbw hX hY;go_wp2_with(go_at_call 58;refine(aDN _ _ _ _ (BK.new _ _ _)).mono ?_;rintro e w' ⟨rfl,rfl⟩)
 go_ret
 rw[aDO];have h1:Below w.heap.size w W':=hB0.trans (HB.out.mono hB0.size);exact⟨rfl,h1.alloc h1.size _⟩
end Go.Proofs.YtjlkeoppppfeiaaGreat
