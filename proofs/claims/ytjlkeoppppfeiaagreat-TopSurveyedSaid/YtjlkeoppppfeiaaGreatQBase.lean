/- Lemmas. -/
import Derived.WalkKit
import Derived.WalkSpells
import Derived.Deep.Draws
import Derived.Lib.Hide
import Derived.Maps.AppendAt
import Derived.Test.YtjlkeoppppfeiaaGreatRows
import Derived.ProofKit
import Derived.OpenShut
import Derived.ChangeOld
import Derived.Deep.Slices
import Derived.Deep.Fields
import Derived.Lib.SmallJoins
namespace Go.Proofs.YtjlkeoppppfeiaaGreat
open Go.RowKit
def SL {α:Type} (f:α→List Value) (sz:Nat) (w:World) (B:Nat) (A:Option Addr) (n:Nat) (xs:List α):Prop:=
 n=xs.length∧(0<n→∃b off,A=some ⟨b,off,none⟩∧b<B∧∀i x,xs[i]?=some x→∀j v,(f x)[j]?=some v→w.cell? ⟨b,off+i*sz+j,none⟩=some v)
section
variable {α:Type} {f:α→List Value} {sz:Nat} {w w':World} {B B' n:Nat} {A:Option Addr} {xs:List α}
theorem SL.len (h:SL f sz w B A n xs):n=xs.length:=h.1
theorem SL.nil_:SL f sz w B A 0 []:=⟨rfl,fun h=>absurd h (by omega)⟩
theorem SL.keep (h:SL f sz w B A n xs) (hk:∀p:Addr,p.block<B→w'.cell? p=w.cell? p):SL f sz w' B A n xs:=
 ⟨h.1,fun hn=>by
  obtain⟨b,off,e,hb,hc⟩:=h.2 hn;exact⟨b,off,e,hb,fun i x hx j v hv=>(hk _ hb).trans (hc i x hx j v hv)⟩⟩
theorem SL.more (h:SL f sz w B A n xs) (hB:B≤B'):SL f sz w B' A n xs:=
 ⟨h.1,fun hn=>by
  obtain⟨b,off,e,hb,hc⟩:=h.2 hn;exact⟨b,off,e,by omega,hc⟩⟩
theorem SL.below (h:SL f sz w B A n xs) (hb:Below B w w'):SL f sz w' B A n xs:=h.keep fun _ hp=>hb.cell hp
theorem SL.grow (h:SL f sz w B A n xs) (hb:Below B w w') (hB:B≤B'):SL f sz w' B' A n xs:=(h.below hb).more hB
theorem SL.at_ (h:SL f sz w B A n xs) {k:Nat} (hk:k<xs.length):∃b off,A=some ⟨b,off,none⟩∧b<B∧∀j v,(f xs[k])[j]?=some v→w.cell? ⟨b,off+k*sz+j,none⟩=some v:=by
 obtain⟨b,off,e,hb,hc⟩:=h.2 (by have:=h.1;omega)
 exact⟨b,off,e,hb,fun j v hv=>hc k _ (List.getElem?_eq_getElem hk) j v hv⟩
end
theorem bc {B:Nat} {w w':World} (h:Below B w w') {b o:Nat} (hb:b<B):w'.cell? ⟨b,o,none⟩=w.cell? ⟨b,o,none⟩:=h.cell (p:=⟨b,o,none⟩) hb
theorem bf {B:Nat} {w w':World} (h:Below B w w') {b o:Nat} (hb:b<B):w'.frozen? ⟨b,o,none⟩=w.frozen? ⟨b,o,none⟩:=h.frozen (p:=⟨b,o,none⟩) hb
theorem onto {B:Nat} {a b c:World} (h:Below B a b) (k:Below b.heap.size b c) (hB:B≤b.heap.size):Below B a c:=h.trans (k.mono hB)
def OW {α:Type} (f:α→List Value) (sz:Nat) (e:TypeId) (base:Nat) (w:World) (A:Option Addr) (n c:Nat) (xs:List α):Prop:=
 w.ownsRow base e sz (.slice A n c) n (xs.flatMap f)∧n=xs.length
section
variable {α:Type} {f:α→List Value} {sz:Nat} {e:TypeId} {base:Nat} {w w':World} {A:Option Addr} {n c:Nat} {xs:List α}
theorem oF (hf:∀x,(f x).length=sz):∀(xs:List α) (i:Nat) (x:α),xs[i]?=some x→∀j v,(f x)[j]?=some v→(xs.flatMap f)[i*sz+j]?=some v
 | [],i,x,hx,_,_,_=>by simp at hx
 |y::ys,0,x,hx,j,v,hv=>by
  simp at hx;subst hx;rw[List.flatMap_cons,Nat.zero_mul,Nat.zero_add,List.getElem?_append_left (List.getElem?_eq_some_iff.1 hv).1];exact hv
 |y::ys,i+1,x,hx,j,v,hv=>by
  have e2:(i+1)*sz+j=sz+(i*sz+j):=by rw[Nat.succ_mul];omega
  rw[List.flatMap_cons,e2,List.getElem?_append_right (by rw[hf];omega),hf,Nat.add_sub_cancel_left]
  exact oF hf ys i x (by simpa using hx) j v hv
theorem OW.nil_:OW f sz e base w none 0 0 ([]:List α):=⟨World.ownsRow_nil _ _ _ _,rfl⟩
theorem OW.len (h:OW f sz e base w A n c xs):n=xs.length:=h.2
theorem OW.lt (h:OW f sz e base w A n c xs) {g:Addr} (hA:A=some g):base≤g.block∧g.block<w.heap.size:=by
 subst hA;exact h.1.lt _ rfl
theorem OW.none_ (h:OW f sz e base w none n c xs):n=0∧c=0∧xs=[]:=by
 have h2:=h.2;rcases h.1.2 with⟨h3,h4⟩|⟨g,cap,cur,h3,_⟩
 ·injection h3 with _ _ h5
  exact⟨h4,h5,List.eq_nil_of_length_eq_zero (by omega)⟩
 ·cases h3
theorem OW.keep (h:OW f sz e base w A n c xs) (hk:∀g,A=some g→w'.heap[g.block]?=w.heap[g.block]?):OW f sz e base w' A n c xs:=by
 refine⟨⟨h.1.1,?_⟩,h.2⟩
 rcases h.1.2 with hn|⟨g,cap,cur,h3,hb,hg,rest⟩
 ·exact .inl hn
 ·refine .inr ⟨g,cap,cur,h3,hb,?_,rest⟩
  injection h3 with h3
  exact(hk ⟨g,0,none⟩ h3).trans hg
theorem OW.alloc (h:OW f sz e base w A n c xs) (o:Obj):OW f sz e base (w.alloc o) A n c xs:=h.keep fun _ hg=>Below.heap_alloc _ _ _ (h.lt hg).2
theorem OW.drew (h:OW f sz e base w A n c xs):OW f sz e base w.drew A n c xs:=h.keep fun _ _=>rfl
theorem OW.drewN (h:OW f sz e base w A n c xs) (k:Nat):OW f sz e base (w.drewN k) A n c xs:=h.keep fun _ _=>rfl
theorem OW.call (h:OW f sz e base w A n c xs) (hb:Below w.heap.size w w'):OW f sz e base w' A n c xs:=h.keep fun _ hg=>hb.block _ (h.lt hg).2
theorem OW.setCell (h:OW f sz e base w A n c xs) {p:Addr} (hp:∀g,A=some g→g.block≠p.block) (u:Value):OW f sz e base (w.setCell p u) A n c xs:=
 h.keep fun g hg=>Below.heap_setCell _ _ _ _ (hp g hg)
theorem OW.drop0 (h:OW f sz e base w A n c xs) {base':Nat} (hb:base'≤base):OW f sz e base' w A n c xs:=by
 refine⟨⟨h.1.1,?_⟩,h.2⟩
 rcases h.1.2 with hn|⟨g,cap,cur,h3,hb',rest⟩
 ·exact .inl hn
 ·exact .inr ⟨g,cap,cur,h3,by omega,rest⟩
theorem OW.at_ (h:OW f sz e base w A n c xs) (hf:∀x,(f x).length=sz):∀g,A=some g→∃b,g=⟨b,0,none⟩∧b<w.heap.size∧base≤b∧(∀j,w.frozen? ⟨b,j,none⟩=false) ∧
  ∀i x,xs[i]?=some x→∀j v,(f x)[j]?=some v→w.cell? ⟨b,0+i*sz+j,none⟩=some v:=by
 intro g hA;subst hA;rcases h.1.2 with⟨h3,_⟩|⟨b,cap,cur,h3,hb,hg,hn,hc,hs,ht⟩
 ·cases h3
 ·injection h3 with h3 h4 h5
  injection h3 with h3
  subst h3;refine⟨b,rfl,(Array.getElem?_eq_some_iff.1 hg).1,hb,fun j=>by simp[World.frozen?,hg],fun i x hx j v hv=>?_⟩
  have hi:i<xs.length:=(List.getElem?_eq_some_iff.1 hx).1
  have hj:j<sz:=by rw[←hf x];exact(List.getElem?_eq_some_iff.1 hv).1
  have e1:=oF hf xs i x hx j v hv;rw[Nat.zero_add,cell_of_row w b (i*sz+j) cur e (0,0) hg];rw[←ht,List.getElem?_take]at e1
  split at e1
  ·simpa using e1
  ·cases e1
theorem OW.sl (h:OW f sz e base w A n c xs) (hf:∀x,(f x).length=sz):SL f sz w w.heap.size A n xs:=by
 refine⟨h.2,fun hn=>?_⟩
 rcases A with _|g
 ·have:=h.none_.1;omega
 ·obtain⟨b,rfl,hb,_,_,hc⟩:=h.at_ hf g rfl
  exact⟨b,0,rfl,hb,fun i x hx j v hv=>hc i x hx j v hv⟩
end
theorem nJ {α:Type} {P:Program} {ops:Array Oper} {rest:List Oper} {o:Oper} {a:Act} {Q:Exit→Act→World→Prop} (hgd:o.guard=none) (s x:Operand) (t:TypeId)
  (ho:o.op = .call { callee:=.builtin .append,args:=#[s,x],argTypes:=#[t,t] })
  (base:Nat) (e:TypeId) (z:Value) (sz bytes:Nat) (ht:P.underlying t=some (.slice e)) (hi:(P.info? e).map (fun i=>(i.zero,i.size,i.bytes))=some (some z,sz,bytes))
  (hzs:z.cells.size=sz) (hsz:0<sz) (f:α→List Value) (W:World) (A:Option Addr) (n c:Nat) (xs:List α) (hs:a.eval s = .slice A n c) (hown:OW f sz e base W A n c xs)
  (y:α) (cs:Array Value) (hcs:cs.toList=f y) (hcl:(f y).length=sz) (ty:TypeId) (N:Nat) (hx:a.eval x = .slice (some ⟨N,0,none⟩) 1 1) (hN:W.heap.size=N) (h1:∀u∈f y,u.oneCell'=true)
  (hbytes:(n+1)*bytes≤140737488355328) (hby:1≤bytes) (hbase:base≤W.heap.size)
  (h:∀g c' w',OW f sz e base w' (some ⟨g,0,none⟩) (n+1) c' (xs++[y])→Below base W w'→(∀k,k<W.heap.size→(∀g,A=some g→g.block≠k)→w'.heap[k]?=W.heap[k]?)→W.heap.size<w'.heap.size→wpList P ops Q rest (a.put o.dst (.slice (some ⟨g,0,none⟩) (n+1) c')) w') :
  wpList P ops Q (o::rest) a (W.alloc (.cells cs ty)):=by
 subst hN;obtain⟨i,hi',hz,hsize,hbytes'⟩:=info_parts hi;have hlen:(f y).length=1*sz:=by rw[hcl,Nat.one_mul]
 refine wpList_append_own _ hgd s x t ho base e i z sz bytes ht hi' hz hsize hbytes' hzs hsz _ n _ hs (hown.alloc _).1 ⟨W.heap.size,0,none⟩ 1 1 (f y) hx hlen ?_ h1 ?_ hbytes (by simp;omega) ?_
 ·intro j u hj
  have e0:((⟨W.heap.size,0,none⟩ : Addr).add j)=⟨W.heap.size,j,none⟩:=by unfold Addr.add;split<;>simp_all
  rw[e0,World.cell?_alloc_new,←Array.getElem?_toList,hcs]
  exact hj
 ·unfold maxLen
  have:n+1≤(n+1)*bytes:=Nat.le_mul_of_pos_right _ (by omega)
  omega
 ·intro v' w' h2 h3 _
  have hn1:0<n+1:=by omega
  rcases h2.2 with⟨_,h4⟩|⟨g,cap,cur,rfl,hr⟩
  ·omega
  ·have hb1:Below base (W.alloc (.cells cs ty)) w':=⟨h3.os,h3.tape,h3.output,h3.size,fun k hk=>h3.block k (by simp;omega) (fun e=>by
    rcases A with _|g'
    ·simp[Value.ownBlock]at e
    ·simp[Value.ownBlock]at e
     have:=(hown.lt rfl).1;omega)⟩
   refine h g cap w' ⟨by rw[List.flatMap_append,List.flatMap_cons,List.flatMap_nil,List.append_nil];exact⟨h2.1,.inr ⟨g,cap,cur,rfl,hr⟩⟩,by simp[hown.2]⟩ ((((Below.refl base W).alloc hbase _)).trans hb1) (fun k hk hne=>?_) (by have:=h3.size;simp at this;omega)
   rw[h3.block k (by simp;omega) (fun e=>by
    rcases A with _|g'
    ·simp[Value.ownBlock]at e
    ·simp[Value.ownBlock]at e
     exact hne g' rfl e.symm)]
   exact Below.heap_alloc _ _ _ hk
def BK (w:World) (g:Nat) (t:TypeId) (cs:Array Value):Prop:=w.heap[g]?=some (.cells cs t (0,0))
section
variable {w w':World} {g:Nat} {t:TypeId} {cs:Array Value}
theorem BK.lt (h:BK w g t cs):g<w.heap.size:=(Array.getElem?_eq_some_iff.1 h).1
theorem BK.cell (h:BK w g t cs) (i:Nat):w.cell? ⟨g,i,none⟩=cs[i]?:=cell_of_row w g i cs t (0,0) h
theorem BK.frozen (h:BK w g t cs) (i:Nat):w.frozen? ⟨g,i,none⟩=false:=by
 unfold BK at h;simp[World.frozen?,h]
theorem BK.new (w:World) (t:TypeId) (cs:Array Value):BK (w.alloc (.cells cs t)) w.heap.size t cs:=heap_alloc_new w _
theorem BK.drew (h:BK w g t cs):BK w.drew g t cs:=h
theorem BK.drewN (h:BK w g t cs) (n:Nat):BK (w.drewN n) g t cs:=h
theorem BK.alloc (h:BK w g t cs) (o:Obj):BK (w.alloc o) g t cs:=(Below.heap_alloc w o g h.lt).trans h
theorem BK.set_ (h:BK w g t cs) (i:Nat) (u:Value):BK (w.setCell ⟨g,i,none⟩ u) g t (cs.setIfInBounds i u):=by
 unfold BK at h ⊢;simp[World.setCell,Array.getElem?_modify,h]
theorem BK.far (h:BK w g t cs) {p:Addr} (hp:g≠p.block) (u:Value):BK (w.setCell p u) g t cs:=(Below.heap_setCell w p u g hp).trans h
theorem BK.below {B:Nat} (h:BK w g t cs) (hb:Below B w w') (hg:g<B):BK w' g t cs:=(hb.block g hg).trans h
theorem BK.same (h:BK w g t cs) (hb:w'.heap[g]?=w.heap[g]?):BK w' g t cs:=hb.trans h
end
end Go.Proofs.YtjlkeoppppfeiaaGreat
namespace Go.Proofs.YtjlkeoppppfeiaaGreat
open Go.RowKit
structure Piece where
 len:Int
 turn:Int
 rad:Int
 wid:Int
 sur:Int
structure Crest where
 pos:Int
 siz:Int
structure Junc where
 pos:Int
 arms:Int
 way:Int
structure Road where
 ps:List Piece
 cs:List Crest
 js:List Junc
def pC (p:Piece):List Value:=[.int .i64 p.len,.int .i64 p.turn,.int .i64 p.rad,.int .i64 p.wid,.int .i64 p.sur]
def cC (c:Crest):List Value:=[.int .i64 c.pos,.int .i64 c.siz]
def jC (j:Junc):List Value:=[.int .i64 j.pos,.int .i64 j.arms,.int .i64 j.way]
theorem PS.at_ {w:World} {B n:Nat} {A:Option Addr} {xs:List Piece} (h:SL pC 5 w B A n xs) {k:Nat} (hk:k<xs.length):∃b off,A=some ⟨b,off,none⟩∧b<B ∧
  w.cell? ⟨b,off+k*5,none⟩=some (.int .i64 xs[k].len)∧w.cell? ⟨b,off+k*5+1,none⟩=some (.int .i64 xs[k].turn)∧w.cell? ⟨b,off+k*5+2,none⟩=some (.int .i64 xs[k].rad) ∧
  w.cell? ⟨b,off+k*5+3,none⟩=some (.int .i64 xs[k].wid)∧w.cell? ⟨b,off+k*5+4,none⟩=some (.int .i64 xs[k].sur):=by
 obtain⟨b,off,e,hb,hc⟩:=h.at_ hk;exact⟨b,off,e,hb,hc 0 _ rfl,hc 1 _ rfl,hc 2 _ rfl,hc 3 _ rfl,hc 4 _ rfl⟩
theorem CS.at_ {w:World} {B n:Nat} {A:Option Addr} {xs:List Crest} (h:SL cC 2 w B A n xs) {k:Nat} (hk:k<xs.length):∃b off,A=some ⟨b,off,none⟩∧b<B ∧
  w.cell? ⟨b,off+k*2,none⟩=some (.int .i64 xs[k].pos)∧w.cell? ⟨b,off+k*2+1,none⟩=some (.int .i64 xs[k].siz):=by
 obtain⟨b,off,e,hb,hc⟩:=h.at_ hk;exact⟨b,off,e,hb,hc 0 _ rfl,hc 1 _ rfl⟩
theorem JS.at_ {w:World} {B n:Nat} {A:Option Addr} {xs:List Junc} (h:SL jC 3 w B A n xs) {k:Nat} (hk:k<xs.length):∃b off,A=some ⟨b,off,none⟩∧b<B ∧
  w.cell? ⟨b,off+k*3,none⟩=some (.int .i64 xs[k].pos)∧w.cell? ⟨b,off+k*3+1,none⟩=some (.int .i64 xs[k].arms)∧w.cell? ⟨b,off+k*3+2,none⟩=some (.int .i64 xs[k].way):=by
 obtain⟨b,off,e,hb,hc⟩:=h.at_ hk;exact⟨b,off,e,hb,hc 0 _ rfl,hc 1 _ rfl,hc 2 _ rfl⟩
abbrev PS:=SL pC 5
abbrev CS:=SL cC 2
abbrev JS:=SL jC 3
structure RD (w:World) (B:Nat) (pa:Option Addr) (pn:Nat) (ca:Option Addr) (cn:Nat) (ja:Option Addr) (jn:Nat) (R:Road):Prop where
 p:PS w B pa pn R.ps
 c:CS w B ca cn R.cs
 j:JS w B ja jn R.js
def inR (x lo hi:Int):Bool:=decide (lo≤x)&&decide (x≤hi)
def pOk (p:Piece):Bool:=
 inR p.len 1 5000&&(inR p.turn (-1) 1&&(inR p.wid 15 300&&(inR p.sur 1 9&&(if p.turn=0 then decide (p.rad=0) else inR p.rad 5 2000))))
def sumL (l:List Piece):Int:=(l.map Piece.len).sum
def rnd (a b:Int):Int:=if a<0 then -((2*(-a)+b) / (2*b)) else (2*a+b)/(2*b)
def trn (p:Piece) (m:Int):Int:=if p.turn=0 then 0 else p.turn*rnd (1000*m) p.rad
def tOk (p:Piece):Prop:=-1≤p.turn∧p.turn≤1∧(p.turn≠0→5≤p.rad∧p.rad≤2000)
theorem aAw (a b:Int) (h0 : -100000000≤a) (h1:a≤100000000) (h2:1≤b) (h3:b≤100000000) : -200000000≤rnd a b∧rnd a b≤200000000:=by
 have key:∀c:Int,0≤c→c≤100000000→0≤(2*c+b) / (2*b)∧(2*c+b) / (2*b)≤200000000:=fun c hc0 hc1=>
  ⟨Int.ediv_nonneg (by omega) (by omega),Int.ediv_le_of_le_mul (by omega) (by omega)⟩
 unfold rnd
 split
 ·have:=key (-a) (by omega) (by omega);omega
 ·have:=key a (by omega) (by omega);omega
theorem wY (p:Piece) (m:Int) (h0 : -10000≤m) (h1:m≤10000) (ht:tOk p) : -200000000≤trn p m∧trn p m≤200000000:=by
 unfold trn
 split
 ·omega
 ·rename_i hn
  obtain⟨a,b,c⟩:=ht;obtain⟨d,e⟩:=c hn;have hq:=aAw (1000*m) p.rad (by omega) (by omega) (by omega) (by omega)
  rcases(show p.turn=1∨p.turn = -1 from by omega) with h|h<;>rw[h]<;>omega
theorem aD {B:Nat} {a w:World} (h:Below B a w) (n:Nat):Below B a (w.drewN n):=⟨h.os,h.tape,h.output,h.size,h.block⟩
theorem fQ {p:Piece} (h:pOk p=true):tOk p:=by
 simp only[pOk,inR,Bool.and_eq_true,decide_eq_true_eq]at h;obtain⟨_,⟨h1,h2⟩,_,_,h3⟩:=h;refine⟨h1,h2,fun hn=>?_⟩
 rw[if_neg hn]at h3;simpa using h3
def cAt (n:Int) (cs:List Crest) (i:Nat):Prop:=∀c,cs[i]?=some c→inR c.pos 0 n=true∧inR c.siz 1 3=true∧∀d,0<i→cs[i-1]?=some d→d.pos<c.pos
def jAt (n:Int) (js:List Junc) (i:Nat):Prop:=∀c,js[i]?=some c→inR c.pos 0 n=true∧inR c.arms 2 6=true∧inR c.way 1 c.arms=true∧∀d,0<i→js[i-1]?=some d→d.pos<c.pos
def aDY (n:Int) (cs:List Crest) (i:Nat):Bool:=(cs[i]?).all fun c=>inR c.pos 0 n&&(inR c.siz 1 3&&(i == 0||(cs[i-1]?).all fun d=>decide (d.pos<c.pos)))
def aDZ (n:Int) (js:List Junc) (i:Nat):Bool:=(js[i]?).all fun c=>inR c.pos 0 n&&(inR c.arms 2 6&&(inR c.way 1 c.arms&&(i == 0||(js[i-1]?).all fun d=>decide (d.pos<c.pos))))
theorem aAx (n:Int) (cs:List Crest) (i:Nat):aDY n cs i=true↔cAt n cs i:=by
 unfold aDY cAt;simp only[Option.all_eq_true,Bool.and_eq_true,Bool.or_eq_true,decide_eq_true_eq,beq_iff_eq]
 constructor
 ·intro h c hc
  obtain⟨a,b,d⟩:=h c hc;exact⟨a,b,fun e hi he=>(d.resolve_left (by omega)) e he⟩
 ·intro h c hc
  obtain⟨a,b,d⟩:=h c hc;exact⟨a,b,(Nat.eq_zero_or_pos i).imp id fun hi e he=>d e hi he⟩
theorem aAy (n:Int) (js:List Junc) (i:Nat):aDZ n js i=true↔jAt n js i:=by
 unfold aDZ jAt;simp only[Option.all_eq_true,Bool.and_eq_true,Bool.or_eq_true,decide_eq_true_eq,beq_iff_eq]
 constructor
 ·intro h c hc
  obtain⟨a,b,b',d⟩:=h c hc;exact⟨a,b,b',fun e hi he=>(d.resolve_left (by omega)) e he⟩
 ·intro h c hc
  obtain⟨a,b,b',d⟩:=h c hc;exact⟨a,b,b',(Nat.eq_zero_or_pos i).imp id fun hi e he=>d e hi he⟩
structure OK (R:Road):Prop where
 p1:1≤R.ps.length
 p2:R.ps.length≤2000
 c1:R.cs.length≤1000
 j1:R.js.length≤200
 pk:∀p∈R.ps,pOk p=true
 n1:sumL R.ps≤100000
 ck:∀i,i<R.cs.length→cAt (sumL R.ps) R.cs i
 jk:∀i,i<R.js.length→jAt (sumL R.ps) R.js i
def val (R:Road):Bool:=decide (1≤R.ps.length)&&(decide (R.ps.length≤2000)&&(decide (R.cs.length≤1000)&&(decide (R.js.length≤200)&&(R.ps.all pOk&&(decide (sumL R.ps≤100000) &&
 ((List.range R.cs.length).all (aDY (sumL R.ps) R.cs)&&(List.range R.js.length).all (aDZ (sumL R.ps) R.js)))))))
def chk (R:Road):Int:=if val R=true then 0 else 2
theorem jR (R:Road):val R=true↔OK R:=by
 unfold val;simp only[Bool.and_eq_true,decide_eq_true_eq,List.all_eq_true,List.mem_range,aAx,aAy]
 constructor
 ·rintro⟨a,b,c,d,e,f,g,h⟩;exact⟨a,b,c,d,e,f,g,h⟩
 ·rintro⟨a,b,c,d,e,f,g,h⟩;exact⟨a,b,c,d,e,f,g,h⟩
theorem aAz {R:Road} (h:OK R):val R=true:=(jR R).2 h
theorem val_bad {R:Road} (h:¬OK R):val R=false:=by rw[Bool.eq_false_iff];exact fun q=>h ((jR R).1 q)
theorem oZ {R:Road} (h:OK R):chk R=0:=by unfold chk;rw[if_pos (aAz h)]
theorem chk_bad {R:Road} (h:¬OK R):chk R=2:=by unfold chk;rw[if_neg (by rw[val_bad h];simp)]
theorem aBA:sumL []=0:=rfl
theorem aAE (l:List Piece) (p:Piece):sumL (l++[p])=sumL l+p.len:=by simp[sumL]
theorem dH (l:List Piece) (k:Nat) (h:k<l.length):sumL (l.take (k+1))=sumL (l.take k)+l[k].len:=by
 rw[List.take_succ_eq_append_getElem h,aAE]
theorem aP {p:Piece} (h:pOk p=true):1≤p.len∧p.len≤5000:=by
 simp only[pOk,inR,Bool.and_eq_true,decide_eq_true_eq]at h;exact h.1
theorem eO (l:List Piece) (h:∀p∈l,pOk p=true):(l.length:Int)≤sumL l∧sumL l≤5000*l.length:=by
 induction l with
 |nil=>simp[sumL]
 |cons p l ih=>
  have:=ih (fun q hq=>h q (List.mem_cons_of_mem _ hq))
  have h1:=aP (h p (List.mem_cons_self ..));have e:sumL (p::l)=p.len+sumL l:=by simp[sumL]
  rw[e,List.length_cons];omega
theorem sK (l:List Piece) (k:Nat) (h:∀p∈l.take k,pOk p=true) (hk:l.length≤2000):0≤sumL (l.take k)∧sumL (l.take k)≤10000000:=by
 have:=eO _ h;have h2:(l.take k).length≤l.length:=List.length_take_le' ..;omega
theorem iV (p:Piece):(pC p).length=5:=rfl
theorem aZ (p:Crest):(cC p).length=2:=rfl
theorem aV (p:Junc):(jC p).length=3:=rfl
def iC (n:Int):List Value:=[.int .i64 n]
theorem aD0 (n:Int):(iC n).length=1:=rfl
abbrev IS:=SL iC 1
theorem IS.at_ {w:World} {B n:Nat} {A:Option Addr} {xs:List Int} (h:SL iC 1 w B A n xs) {k:Nat} (hk:k<xs.length):∃b off,A=some ⟨b,off,none⟩∧b<B ∧
  w.cell? ⟨b,off+k,none⟩=some (.int .i64 xs[k]):=by
 obtain⟨b,off,e,hb,hc⟩:=h.at_ hk;have:=hc 0 _ rfl;rw[Nat.mul_one,Nat.add_zero]at this;exact⟨b,off,e,hb,this⟩
def bgk (ps:List Piece) (k:Nat):List Int:=(List.range k).map fun i=>sumL (ps.take i)
theorem uH (ps:List Piece) (k:Nat):bgk ps (k+1)=bgk ps k++[sumL (ps.take k)]:=by simp[bgk,List.range_succ]
theorem oG (ps:List Piece) (k:Nat):(bgk ps k).length=k:=by simp[bgk]
theorem wZ (ps:List Piece) (k i:Nat) (h:i<(bgk ps k).length):(bgk ps k)[i]=sumL (ps.take i):=by simp[bgk]
structure MS (w:World) (B g:Nat) (pa:Option Addr) (pn pc:Nat) (ca:Option Addr) (cn cc:Nat) (ja:Option Addr) (jn jc:Nat) (ba:Option Addr) (bc:Nat) (R:Road):Prop where
 lt:g<B
 c0:w.cell? ⟨g,0,none⟩=some (.slice pa pn pc)
 c1:w.cell? ⟨g,1,none⟩=some (.slice ca cn cc)
 c2:w.cell? ⟨g,2,none⟩=some (.slice ja jn jc)
 c3:w.cell? ⟨g,3,none⟩=some (.slice ba (pn+1) bc)
 r:RD w B pa pn ca cn ja jn R
 b:IS w B ba (pn+1) (bgk R.ps (pn+1))
theorem RD.grow {w w':World} {B B':Nat} {pa:Option Addr} {pn:Nat} {ca:Option Addr} {cn:Nat} {ja:Option Addr} {jn:Nat} {R:Road} (h:RD w B pa pn ca cn ja jn R) (hb:Below B w w') (hB:B≤B') :
 RD w' B' pa pn ca cn ja jn R:=⟨h.p.grow hb hB,h.c.grow hb hB,h.j.grow hb hB⟩
theorem MS.grow {w w':World} {B B' g:Nat} {pa:Option Addr} {pn pc:Nat} {ca:Option Addr} {cn cc:Nat} {ja:Option Addr} {jn jc:Nat} {ba:Option Addr} {bc:Nat} {R:Road}
  (h:MS w B g pa pn pc ca cn cc ja jn jc ba bc R) (hb:Below B w w') (hB:B≤B'):MS w' B' g pa pn pc ca cn cc ja jn jc ba bc R:=
 ⟨by have:=h.lt;omega,(Go.Proofs.YtjlkeoppppfeiaaGreat.bc hb h.lt).trans h.c0,(Go.Proofs.YtjlkeoppppfeiaaGreat.bc hb h.lt).trans h.c1,(Go.Proofs.YtjlkeoppppfeiaaGreat.bc hb h.lt).trans h.c2,(Go.Proofs.YtjlkeoppppfeiaaGreat.bc hb h.lt).trans h.c3,h.r.grow hb hB,h.b.grow hb hB⟩
theorem RD.drewN {w:World} {B:Nat} {pa:Option Addr} {pn:Nat} {ca:Option Addr} {cn:Nat} {ja:Option Addr} {jn:Nat} {R:Road} (h:RD w B pa pn ca cn ja jn R) (n:Nat) :
 RD (w.drewN n) B pa pn ca cn ja jn R:=h.grow (aD (Below.refl B w) n) (Nat.le_refl _)
theorem MS.drewN {w:World} {B g:Nat} {pa:Option Addr} {pn pc:Nat} {ca:Option Addr} {cn cc:Nat} {ja:Option Addr} {jn jc:Nat} {ba:Option Addr} {bc:Nat} {R:Road}
 (h:MS w B g pa pn pc ca cn cc ja jn jc ba bc R) (n:Nat):MS (w.drewN n) B g pa pn pc ca cn cc ja jn jc ba bc R:=h.grow (aD (Below.refl B w) n) (Nat.le_refl _)
end Go.Proofs.YtjlkeoppppfeiaaGreat
namespace Go.Proofs.YtjlkeoppppfeiaaGreat
open Go.ChangeShapes Go.WideShapes Go.ChangeAt Go.RowKit Go.Deep Go.Joins
theorem own:ownKnob Tryz.prog.godebug=none:=by kernel_rfl
theorem sL:laidOutB Tryz.prog=true:=by kernel_rfl
section
variable {H:Type} {enc:TypeId×Value→H} {P:Program} {w:World} {base:Nat} {spare:Nat→Bool} {held:Bool}
theorem mK {t e:TypeId} {fs:Array Field} {fuel:Nat} {c:Value} {x:DataW H×List MemPlace} (ht:P.underlying t=some (.slice e)) (he:P.underlying e=some (.struct fs))
  (hone:oneCellFields P fs=true) (hC:P.cellsOf e=fs.size) (hint:∀(j:Nat) (f:Field),fs[j]?=some f→P.underlying f.type=some (.int .i64)) (hpos:0<fs.size) (h:DataW.trod enc P w base spare held fuel t [c]=some x) :
  ∃(A:Option Addr) (n cp:Nat) (F:Nat→Nat→Int),c = .slice A n cp∧(0<n→∃b off,A=some ⟨b,off,none⟩∧b<w.heap.size ∧
   ∀i,i<n→∀j,j<fs.size→w.cell? ⟨b,off+i*fs.size+j,none⟩=some (.int .i64 (F i j))):=by
 rcases open_slice ht h with⟨h0,_⟩|⟨a,len,cap,m,n,D,Pl,hcs,hb,hl,hm,hmm,hx,hi⟩
 ·simp at h0
  exact⟨none,0,0,fun _ _=>0,h0,fun q=>absurd q (by omega)⟩
 ·have hlm:len≤m:=by rw[hmm];split<;>omega
  have key:∀i,i<len→∃G:Nat→Int,∀j,j<fs.size→w.cell? (a.add (i*fs.size+j))=some (.int .i64 (G j)):=by
   intro i hil;obtain⟨cs',hc,ht'⟩:=hi i (by omega)
   rw[hC]at hc;obtain⟨ys,n',hn',hy,hlen,hyl,hf⟩:=DataW.trod_struct he ht';obtain⟨_,hcl,hat⟩:=World.cells?_some hc
   refine choose_lt (α:=Int) (p:=fun j q=>w.cell? (a.add (i*fs.size+j))=some (.int .i64 q)) fun j hj=>?_
   obtain⟨ho,hk⟩:=hone_of hone j fs[j] (Array.getElem?_eq_getElem hj)
   have hcell:=hat j hj;have h1:=hf j fs[j] (Array.getElem?_eq_getElem hj)
   rw[ho,hk]at h1;have hone':(cs'.drop j).take 1=[cs'[j]'(by omega)]:=by
    rw[List.drop_eq_getElem_cons (by omega)]
    rfl
   rw[hone']at h1;have hys:ys[j]?=some (ys[j]'(by omega)):=List.getElem?_eq_getElem (by omega)
   obtain⟨q,hq,_,_⟩:=DataW.trod_int (hint j _ (Array.getElem?_eq_getElem hj)) (h1.trans hys)
   refine⟨q,?_⟩
   rw[←Go.Deep.add_add,hcell,List.getElem?_eq_getElem (by omega)]
   simpa using hq
  obtain⟨F,hF⟩:=choose_lt (α:=Nat→Int) (p:=fun i G=>∀j,j<fs.size→w.cell? (a.add (i*fs.size+j))=some (.int .i64 (G j))) key
  simp at hcs;subst hcs;refine⟨some a,len,cap,F,rfl,fun hn=>?_⟩
  have h0:=hF 0 hn 0 hpos;have hbl:=block_lt_of_cell h0;have hsp:=World.cell?_spot h0
  obtain⟨b,off,sp⟩:=a;simp only[Nat.zero_mul,Nat.add_zero]at h0 hbl hsp;have hsp':sp=none:=by simpa[Addr.add]using hsp
  subst hsp';refine⟨b,off,rfl,by simpa[Addr.add]using hbl,fun i hi' j hj=>?_⟩
  have:=hF i hi' j hj;have e0:((⟨b,off,none⟩ : Addr).add (i*fs.size+j))=⟨b,off+i*fs.size+j,none⟩:=by unfold Addr.add;split<;>simp_all [Nat.add_assoc]
  rwa [e0]at this
variable {r:Reach} {b0:Nat}
theorem kK {α:Type} {f:α→List Value} {sz n:Nat} {A:Option Addr} (F:Nat→Nat→Int) (mk:(Nat→Int)→α) (hf:∀G,∀j v,(f (mk G))[j]?=some v→j<sz∧v = .int .i64 (G j))
  (h:0<n→∃b off,A=some ⟨b,off,none⟩∧b<w.heap.size∧∀i,i<n→∀j,j<sz→w.cell? ⟨b,off+i*sz+j,none⟩=some (.int .i64 (F i j))) :
  SL f sz w w.heap.size A n ((List.range n).map fun i=>mk (F i)):=by
 refine⟨by simp,fun hn=>?_⟩
 obtain⟨b,off,e,hb,hc⟩:=h hn;refine⟨b,off,e,hb,fun i x hx j v hv=>?_⟩
 have hi:i<n:=by have:=(List.getElem?_eq_some_iff.1 hx).1;simpa using this
 rw[List.getElem?_map,List.getElem?_range hi]at hx
 cases hx
 obtain⟨hj,rfl⟩:=hf _ j v hv;exact hc i hi j hj
set_option maxRecDepth 100000 in
theorem qW {v:Value} {d:DataW H} {p:List MemPlace} (hv:Value.okWide Tryz.prog w r b0 26 v) (h:DataW.Trod enc Tryz.prog w base spare held 26 v d p) :
  ∃pa pn pc ca cn cc ja jn jc R,v = .agg #[.slice pa pn pc,.slice ca cn cc,.slice ja jn jc]∧RD w w.heap.size pa pn ca cn ja jn R:=by
 obtain⟨v0,v1,v2,y0,y1,y2,n,rfl,_,_,h0,h1,h2⟩:=open_agg3 Tryz.underlying26 (by kernel_rfl) (by kernel_rfl) hv h
 obtain⟨pa,pn,pc,F0,rfl,q0⟩:=mK Tryz.underlying22 Tryz.underlying112 (by kernel_rfl) (by kernel_rfl) (fun j f hj=>by
  match j,hj with
  |0,hj|1,hj|2,hj|3,hj|4,hj=>cases hj;exact Tryz.underlying3
  |j+5,hj=>cases hj) (by decide) h0
 obtain⟨ca,cn,cc,F1,rfl,q1⟩:=mK Tryz.underlying23 Tryz.underlying52 (by kernel_rfl) (by kernel_rfl) (fun j f hj=>by
  match j,hj with
  |0,hj|1,hj=>cases hj;exact Tryz.underlying3
  |j+2,hj=>cases hj) (by decide) h1
 obtain⟨ja,jn,jc,F2,rfl,q2⟩:=mK Tryz.underlying24 Tryz.underlying54 (by kernel_rfl) (by kernel_rfl) (fun j f hj=>by
  match j,hj with
  |0,hj|1,hj|2,hj=>cases hj;exact Tryz.underlying3
  |j+3,hj=>cases hj) (by decide) h2
 refine⟨pa,pn,pc,ca,cn,cc,ja,jn,jc,⟨_,_,_⟩,rfl,
  kK F0 (fun G=>(⟨G 0,G 1,G 2,G 3,G 4⟩ : Piece)) (fun G j v hv=>?_) q0,
  kK F1 (fun G=>(⟨G 0,G 1⟩ : Crest)) (fun G j v hv=>?_) q1,
  kK F2 (fun G=>(⟨G 0,G 1,G 2⟩ : Junc)) (fun G j v hv=>?_) q2⟩
 ·match j,hv with
  |0,hv|1,hv|2,hv|3,hv|4,hv=>cases hv;exact⟨by decide,rfl⟩
  |j+5,hv=>cases hv
 ·match j,hv with
  |0,hv|1,hv=>cases hv;exact⟨by decide,rfl⟩
  |j+2,hv=>cases hv
 ·match j,hv with
  |0,hv|1,hv|2,hv=>cases hv;exact⟨by decide,rfl⟩
  |j+3,hv=>cases hv
end
end Go.Proofs.YtjlkeoppppfeiaaGreat
