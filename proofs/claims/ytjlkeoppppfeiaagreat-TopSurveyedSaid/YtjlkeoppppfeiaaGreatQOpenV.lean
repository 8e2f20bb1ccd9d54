/- Lemmas. -/
import Derived.Test.YtjlkeoppppfeiaaGreatQNoteP
import Derived.Test.YtjlkeoppppfeiaaGreatQBase
import Derived.ChangeSlices
import Derived.WalkKit
import Derived.ProofKit
import Derived.Handy
import Derived.Lay
import Derived.OpenShut
namespace Go.Proofs.YtjlkeoppppfeiaaGreat
open Go.ChangeShapes Go.WideShapes Go.ChangeAt Go.RowKit Go.Deep Go.Joins
section
variable {H:Type} {enc:TypeId×Value→H} {P:Program} {w:World} {base:Nat} {spare:Nat→Bool} {held:Bool}
theorem aA7 {t:TypeId} {fs:Array Field} {m fuel:Nat} {cs:List Value} {x:DataW H×List MemPlace} (hs:P.underlying t=some (.struct fs)) (hone:oneCellFields P fs=true) (hC:P.cellsOf t=m) (hm:fs.size=m)
  (hi:∀(j:Nat) (f:Field),fs[j]?=some f→P.underlying f.type=some (.int .i64)) (h:DataW.trod enc P w base spare held fuel t cs=some x) :
  ∃F:Nat→Int,cs=(List.range m).map fun j=>Value.int .i64 (F j):=by
 obtain⟨xs,n,_,_,hsz,hlen,hf⟩:=DataW.trod_struct hs h;have key:∀j,∃x:Int,j<m→cs[j]?=some (.int .i64 x):=fun j=>by
  by_cases hj:j<m
  case neg=>exact⟨0,fun h=>absurd h hj⟩
  have hjf:j<fs.size:=by omega
  have e:=Array.getElem?_eq_getElem hjf
  obtain⟨o,k⟩:=hone_of hone j _ e;have g:=hf j _ e;have hjc:j<cs.length:=by omega
  rw[o,k]at g;have hd:(cs.drop j).take 1=[cs[j]]:=by
   rw[List.drop_eq_getElem_cons hjc]
   rfl
  rw[hd]at g;have hxj:j<xs.length:=by omega
  rw[List.getElem?_eq_getElem hxj]at g
  obtain⟨x,hx,_,_⟩:=DataW.trod_int (hi j _ e) g;refine⟨x,fun _=>?_⟩
  rw[List.getElem?_eq_getElem hjc]
  simpa using hx
 obtain⟨F,hF⟩ : ∃F:Nat→Int,∀j,j<m→cs[j]?=some (.int .i64 (F j)):=⟨fun j=>(key j).choose,fun j=>(key j).choose_spec⟩
 refine⟨F,List.ext_getElem? fun j=>?_⟩
 rw[List.getElem?_map]
 by_cases hj:j<m
 ·rw[List.getElem?_range hj,hF j hj]
  rfl
 ·rw[List.getElem?_eq_none (by omega),List.getElem?_eq_none (by simp;omega)]
  rfl
end
section
variable {H:Type} {enc:TypeId×Value→H} {w:World} {base:Nat} {spare:Nat→Bool} {held:Bool} {r:Reach} {b0:Nat}
theorem aA8 {P:Program} {t e:TypeId} {fuel:Nat} {A:Option Addr} {n c:Nat} {x:DataW H×List MemPlace} (ht:P.underlying t=some (.slice e)) (h:DataW.trod enc P w base spare held fuel t [.slice A n c]=some x):n≤c∧n≤9223372036854775807:=by
 rcases open_slice ht h with⟨h0,_⟩|⟨a,len,cap,m,k,D,Pl,hcs,hb,hl,hm,_⟩
 ·simp at h0
  omega
 ·simp at hcs
  unfold maxLen at hm;omega
theorem aBd {c:Value} {fuel:Nat} {x:DataW H×List MemPlace} (hf:DataW.trod enc Tryz.prog w base spare held fuel 27 [c]=some x) :
  ∃A n cp xs,c = .slice A n cp∧SL iC 1 w w.heap.size A n xs:=by
 rcases open_ints Tryz.underlying27 Tryz.underlying3 (by kernel_rfl) hf with⟨h0,_⟩|⟨a,len,cap,zs,h0,_,hlc,_,hz,_,hcell,_⟩
 ·simp at h0
  exact⟨none,0,0,[],h0,rfl,fun q=>absurd q (by omega)⟩
 ·simp at h0
  have hlz:len≤zs.length:=by rw[hz];split<;>omega
  refine⟨some a,len,cap,zs.take len,h0,by rw[List.length_take];omega,fun hn=>?_⟩
  have hc0:=hcell 0 (by omega)
  have hbl:=block_lt_of_cell hc0;have hsp:=World.cell?_spot hc0
  obtain⟨b,off,sp⟩:=a;have hsp':sp=none:=by simpa[Addr.add]using hsp
  subst hsp';refine⟨b,off,rfl,by simpa[Addr.add]using hbl,fun k x hx j v hv=>?_⟩
  have hk:k<len:=by have:=(List.getElem?_eq_some_iff.1 hx).1;rw[List.length_take]at this;omega
  rw[List.getElem?_take,if_pos hk]at hx
  have h1:=hcell k (by omega)
  have e0:((⟨b,off,none⟩ : Addr).add k)=⟨b,off+k,none⟩:=by unfold Addr.add;split<;>simp_all
  rw[e0,List.getD,hx]at h1
  match j,hv with
  |0,hv=>cases hv;simpa using h1
  |j+1,hv=>cases hv
set_option maxRecDepth 100000 in
theorem aA9 {v:Value} {d:DataW H} {p:List MemPlace} (hv:Value.okWide Tryz.prog w r b0 31 v) (h:DataW.Trod enc Tryz.prog w base spare held 31 v d p) :
  ∃A c b,v=bkA A c b∧SL iC 1 w w.heap.size A b.gs.length b.gs∧b.gs.length≤9223372036854775807:=by
 obtain⟨cs,rfl,hsz⟩:=okWide_struct Tryz.underlying31 hv;obtain⟨fuel,hf⟩:=h;obtain⟨xs,n,_,_,hl,hlen,hf⟩:=DataW.trod_struct Tryz.underlying31 hf;have c1:Tryz.prog.cellsOf 3=1:=by kernel_rfl
 have c2:Tryz.prog.cellsOf 27=1:=by kernel_rfl
 have c3:Tryz.prog.cellsOf 29=2:=by kernel_rfl
 have hl8:xs.length=8:=hlen;have h9:cs.size=9:=hsz.trans (by kernel_rfl)
 obtain⟨l⟩:=cs
 match l,h9 with
 | [v0,v1,v2,v3,v4,v5,v6,v7,v8],_=>
 have g0:DataW.trod enc Tryz.prog w base spare held n 27 [v0]=some (xs[0]'(by omega)):=by
  have:=hf 0 _ rfl;rw[List.getElem?_eq_getElem (by omega)]at this
  simpa[c2,Value.cells]using this
 have g1:DataW.trod enc Tryz.prog w base spare held n 3 [v1]=some (xs[1]'(by omega)):=by
  have:=hf 1 _ rfl;rw[List.getElem?_eq_getElem (by omega)]at this
  simpa[c1,Value.cells]using this
 have g2:DataW.trod enc Tryz.prog w base spare held n 3 [v2]=some (xs[2]'(by omega)):=by
  have:=hf 2 _ rfl;rw[List.getElem?_eq_getElem (by omega)]at this
  simpa[c1,Value.cells]using this
 have g3:DataW.trod enc Tryz.prog w base spare held n 3 [v3]=some (xs[3]'(by omega)):=by
  have:=hf 3 _ rfl;rw[List.getElem?_eq_getElem (by omega)]at this
  simpa[c1,Value.cells]using this
 have g4:DataW.trod enc Tryz.prog w base spare held n 3 [v4]=some (xs[4]'(by omega)):=by
  have:=hf 4 _ rfl;rw[List.getElem?_eq_getElem (by omega)]at this
  simpa[c1,Value.cells]using this
 have g5:DataW.trod enc Tryz.prog w base spare held n 3 [v5]=some (xs[5]'(by omega)):=by
  have:=hf 5 _ rfl;rw[List.getElem?_eq_getElem (by omega)]at this
  simpa[c1,Value.cells]using this
 have g6:DataW.trod enc Tryz.prog w base spare held n 3 [v6]=some (xs[6]'(by omega)):=by
  have:=hf 6 _ rfl;rw[List.getElem?_eq_getElem (by omega)]at this
  simpa[c1,Value.cells]using this
 have g7:DataW.trod enc Tryz.prog w base spare held n 29 [v7,v8]=some (xs[7]'(by omega)):=by
  have:=hf 7 _ rfl;rw[List.getElem?_eq_getElem (by omega)]at this
  simpa[c3,Value.cells]using this
 obtain⟨A,n0,cp,ys,e0,hS⟩:=aBd g0;subst e0;have hcap:=aA8 Tryz.underlying27 g0;obtain⟨x1,e1,_,_⟩:=DataW.trod_int Tryz.underlying3 g1;obtain⟨x2,e2,_,_⟩:=DataW.trod_int Tryz.underlying3 g2;obtain⟨x3,e3,_,_⟩:=DataW.trod_int Tryz.underlying3 g3;obtain⟨x4,e4,_,_⟩:=DataW.trod_int Tryz.underlying3 g4;obtain⟨x5,e5,_,_⟩:=DataW.trod_int Tryz.underlying3 g5;obtain⟨x6,e6,_,_⟩:=DataW.trod_int Tryz.underlying3 g6;obtain⟨F,e7⟩:=aA7 (m:=2) Tryz.underlying29 (by kernel_rfl) (by kernel_rfl) rfl (fun j f hj=>by
  match j,hj with
  |0,hj|1,hj=>cases hj;exact Tryz.underlying3
  |j+2,hj=>cases hj) g7
 simp only[List.cons.injEq,and_true]at e1 e2 e3 e4 e5 e6;have e7':v7 = .int .i64 (F 0)∧v8 = .int .i64 (F 1):=by simpa[List.range,List.range.loop]using e7
 obtain⟨e7,e8⟩:=e7';subst e1 e2 e3 e4 e5 e6 e7 e8;have hn0:n0=ys.length:=hS.1;subst hn0;exact⟨A,cp,⟨ys,x1,x2,x3,x4,x5,x6,F 0,F 1⟩,rfl,hS,hcap.2⟩
end
section
variable {H:Type} {enc:TypeId×Value→H} {P:Program} {w:World} {base:Nat} {spare:Nat→Bool} {held:Bool} {r:Reach} {b0:Nat}
end
section
variable {H:Type} {enc:TypeId×Value→H} {P:Program} {w:World} {base:Nat} {spare:Nat→Bool} {held:Bool}
end
end Go.Proofs.YtjlkeoppppfeiaaGreat
