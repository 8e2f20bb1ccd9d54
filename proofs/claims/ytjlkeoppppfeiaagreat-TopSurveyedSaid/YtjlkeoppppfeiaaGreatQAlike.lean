/- Lemmas. -/
import Derived.Test.YtjlkeoppppfeiaaGreatQCorn
namespace Go.Proofs.YtjlkeoppppfeiaaGreat
open Go.RowKit Go.Shelf Go.Sort Go.Proofs
def pV (p:Piece):Value:=.agg #[.int .i64 p.len,.int .i64 p.turn,.int .i64 p.rad,.int .i64 p.wid,.int .i64 p.sur]
def alk (x y:Piece):Bool:=decide (x.turn=y.turn)&&(decide (x.rad=y.rad)&&(decide (x.wid=y.wid)&&decide (x.sur=y.sur)))
set_option maxRecDepth 100000 in
theorem aAp (x y:Piece) (w:World) :
  Calls Tryz.prog 122 #[pV x,pV y] w fun e w'=>e = .returned (.bool (alk x y))∧Below w.heap.size w w':=by
 simp only[pV];go_enter Tryz.func122,Tryz.ntmps122
 go_wp2_with fail
 all_goals
  go_ret
  exact⟨cN (by simp[alk, *]),((Below.refl _ _).alloc (Nat.le_refl _) _).alloc (by simp) _⟩
end Go.Proofs.YtjlkeoppppfeiaaGreat
namespace Go.Proofs.YtjlkeoppppfeiaaGreat
open Go.RowKit Go.Shelf Go.Sort Go.Proofs
def addP (gs:List (List Piece)) (x:Piece):List (List Piece):=
 match gs.getLast?.bind List.getLast? with
 |some y=>if alk y x then gs.dropLast++[(gs.getLast?.getD [])++[x]] else gs++[[x]]
 |none=>gs++[[x]]
def eX (l:List Piece):List (List Piece):=l.foldl (addP) []
theorem qS (l:List Piece) (x:Piece):eX (l++[x])=addP (eX l) x:=by simp[eX]
theorem aCQ (gs:List (List Piece)) (x:Piece):∃ds g,addP gs x=ds++[g++[x]]:=by
 unfold addP
 split
 ·split
  ·exact⟨_,_,rfl⟩
  ·exact⟨gs,[],rfl⟩
 ·exact⟨gs,[],rfl⟩
theorem z7 (l:List Piece) (y:Piece):∃ds g,eX (l++[y])=ds++[g++[y]]:=by
 rw[qS];exact aCQ _ _
theorem addP_at (ds:List (List Piece)) (g:List Piece) (y x:Piece):addP (ds++[g++[y]]) x=if alk y x then ds++[g++[y]++[x]] else ds++[g++[y]]++[[x]]:=by
 simp[addP]
theorem aAq (x:Piece):addP [] x=[[x]]:=rfl
theorem aAr:(Tryz.prog.info? 22).map (fun i=>(i.zero,i.size,i.bytes))=some (some (.slice none 0 0),1,24):=by kernel_rfl
structure GP (w:World) (base:Nat) (A:Option Addr) (n c:Nat) (gs:List (Hdr×List Piece)):Prop where
 out:OW hC 1 22 base w A n c (gs.map (·.1))
 grp:∀p∈gs,OW pC 5 112 base w p.1.A p.1.n p.1.c p.2∧p.2≠[]
 off:∀p∈gs,∀a b,p.1.A=some a→A=some b→a.block≠b.block
 last:∀ds q,gs=ds++[q]→∀p∈ds,∀a b,p.1.A=some a→q.1.A=some b→a.block≠b.block
theorem GP.nil_ (w:World) (base:Nat):GP w base none 0 0 []:=
 ⟨OW.nil_,fun p hp=>(by cases hp),fun p hp=>(by cases hp),fun ds q e=>(by simp at e)⟩
section
variable {w w':World} {base n c:Nat} {A:Option Addr} {gs ds:List (Hdr×List Piece)} {q:Hdr×List Piece}
theorem GP.call (h:GP w base A n c gs) (hb:Below w.heap.size w w'):GP w' base A n c gs:=
 ⟨h.out.call hb,fun p hp=>⟨(h.grp p hp).1.call hb,(h.grp p hp).2⟩,h.off,h.last⟩
theorem GP.push {x:Piece} {N g c':Nat} (h:GP w base A n c gs) (hN:w.heap.size≤N) (hw:∀k,k<w.heap.size→(∀b,A=some b→b.block≠k)→w'.heap[k]?=w.heap[k]?)
  (hx:OW pC 5 112 base w' (some ⟨N,0,none⟩) 1 1 [x]) (ho:OW hC 1 22 base w' (some ⟨g,0,none⟩) (n+1) c' (gs.map (·.1)++[⟨some ⟨N,0,none⟩,1,1⟩])) (hg:(∃b,A=some b∧b.block=g)∨N<g) :
  GP w' base (some ⟨g,0,none⟩) (n+1) c' (gs++[(⟨some ⟨N,0,none⟩,1,1⟩,[x])]):=by
 have hlt:∀p∈gs,∀a,p.1.A=some a→a.block<w.heap.size:=fun p hp a ha=>((h.grp p hp).1.lt ha).2
 refine⟨by simpa using ho,fun p hp=>?_,fun p hp a b ha hb=>?_,fun ds q e p hp a b ha hb=>?_⟩
 ·rcases List.mem_append.1 hp with hp|hp
  ·exact⟨(h.grp p hp).1.keep (fun a ha=>hw _ (hlt p hp a ha) (fun b hb=>(h.off p hp a b ha hb).symm)),(h.grp p hp).2⟩
  ·simp at hp;subst hp;exact⟨hx,by simp⟩
 ·cases hb
  rcases List.mem_append.1 hp with hp|hp
  ·have h1:=hlt p hp a ha
   rcases hg with⟨b,hb,rfl⟩|hg
   ·exact h.off p hp a b ha hb
   ·show a.block≠g;omega
  ·simp at hp;subst hp
   cases ha
   show N≠g
   rcases hg with⟨b,hb,rfl⟩|hg
   ·have:=(h.out.lt hb).2;omega
   ·omega
 ·obtain⟨rfl,e2⟩:=List.append_inj' e rfl
  simp at e2;subst e2;cases hb
  have:=hlt p hp a ha;show a.block≠N;omega
theorem GP.more {x:Piece} {g c':Nat} {w1:World} (h:GP w base A n c (ds++[q])) (h1:App1 pC 5 112 base w q.1.A q.1.n q.1.c q.2 x g c' w1) (b0:Nat) (hA:A=some ⟨b0,0,none⟩)
  (ho:OW hC 1 22 base w' A n c (ds.map (·.1)++[⟨some ⟨g,0,none⟩,q.1.n+1,c'⟩])) (hw:∀k,k≠b0→w'.heap[k]?=w1.heap[k]?) :
  GP w' base A n c (ds++[(⟨some ⟨g,0,none⟩,q.1.n+1,c'⟩,q.2++[x])]):=by
 have hlt:∀p∈ds++[q],∀a,p.1.A=some a→a.block<w.heap.size:=fun p hp a ha=>((h.grp p hp).1.lt ha).2
 have hq:q∈ds++[q]:=by simp
 have hds:∀p∈ds,p∈ds++[q]:=fun p hp=>List.mem_append_left _ hp
 have hbA:=(h.out.lt hA).2;have hgb:g≠b0:=by
  rcases h1.at_ with⟨b,hb,rfl⟩|hg
  ·exact h.off q hq b _ hb hA
  ·simp at hbA;omega
 have hgd:∀p∈ds,∀a,p.1.A=some a→a.block≠g:=fun p hp a ha=>by
  rcases h1.at_ with⟨b,hb,rfl⟩|hg
  ·exact h.last ds q rfl p hp a b ha hb
  ·have:=hlt p (hds p hp) a ha;omega
 refine⟨by simpa using ho,fun p hp=>?_,fun p hp a b ha hb=>?_,fun ds' q' e p hp a b ha hb=>?_⟩
 ·rcases List.mem_append.1 hp with hp|hp
  ·refine⟨(h.grp p (hds p hp)).1.keep (fun a ha=>?_),(h.grp p (hds p hp)).2⟩
   rw[hw _ (by have:=h.off p (hds p hp) a _ ha hA;exact this)]
   exact h1.far _ (hlt p (hds p hp) a ha) (fun b hb=>(h.last ds q rfl p hp a b ha hb).symm)
  ·simp at hp;subst hp
   exact⟨h1.own.keep (fun a ha=>by cases ha;exact hw _ hgb),by simp⟩
 ·rcases List.mem_append.1 hp with hp|hp
  ·exact h.off p (hds p hp) a b ha hb
  ·simp at hp;subst hp
   cases ha
   rw[hA]at hb;cases hb
   exact hgb
 ·obtain⟨rfl,e2⟩:=List.append_inj' e rfl
  simp at e2;subst e2;cases hb
  exact hgd p hp a ha
end
end Go.Proofs.YtjlkeoppppfeiaaGreat
namespace Go.Proofs.YtjlkeoppppfeiaaGreat
open Go.RowKit Go.Shelf Go.Sort Go.Proofs
def addR (rs:List Piece) (p:Piece):List Piece:=
 match rs.getLast? with
 |some y=>if alk y p then rs.dropLast++[{ y with len:=y.len+p.len }] else rs++[p]
 |none=>rs++[p]
def mrgR (ps:List Piece):List Piece:=ps.foldl addR []
def cutk (n:Int):Nat:=((n-1) / 5000).toNat
def cut (p:Piece):List Piece:=List.replicate (cutk p.len) { p with len:=5000 }++[{ p with len:=p.len-5000*cutk p.len }]
def normP (ps:List Piece):List Piece:=(mrgR ps).flatMap cut
def normR (R:Road):Road:=⟨normP R.ps,R.cs,R.js⟩
def one (p:Piece):Piece:={ p with len:=1 }
def units (ps:List Piece):List Piece:=ps.flatMap fun p=>List.replicate p.len.toNat (one p)
theorem addR_nil (p:Piece):addR [] p=[p]:=rfl
theorem eY (ds:List Piece) (y p:Piece):addR (ds++[y]) p=if alk y p then ds++[{ y with len:=y.len+p.len }] else ds++[y]++[p]:=by simp[addR]
theorem cJ {α:Type} (l:List α):l=[]∨∃d x,l=d++[x]:=by
 rcases List.eq_nil_or_concat l with h|⟨d,x,h⟩
 ·exact .inl h
 ·exact .inr ⟨d,x,by simpa using h⟩
theorem kY (x y:Piece):alk x y=true↔one x=one y:=by
 obtain⟨a,b,c,d,e⟩:=x;obtain⟨a',b',c',d',e'⟩:=y;simp[alk,one]
theorem z8:units []=[]:=rfl
theorem cM (a b:List Piece):units (a++b)=units a++units b:=by simp[units]
theorem jM (p:Piece):units [p]=List.replicate p.len.toNat (one p):=by simp[units]
theorem eE (p:Piece) (l:List Piece):units (p::l)=List.replicate p.len.toNat (one p)++units l:=by simp[units]
theorem sG {rs:List Piece} {p:Piece} {m:Int} (hm:0≤m) (h:∀q∈rs,m≤q.len) (hp:m≤p.len):∀q∈addR rs p,m≤q.len:=by
 rcases cJ rs with rfl|⟨ds,y,rfl⟩
 ·intro q hq;rw[addR_nil]at hq;simp at hq;rw[hq];exact hp
 ·rw[eY]
  intro q hq
  split at hq
  ·rcases List.mem_append.1 hq with hq|hq
   ·exact h q (List.mem_append_left _ hq)
   ·simp at hq;have:=h y (by simp);rw[hq];show m≤y.len+p.len;omega
  ·rcases List.mem_append.1 hq with hq|hq
   ·exact h q hq
   ·simp at hq;rw[hq];exact hp
theorem tZ {m:Int} (hm:0≤m):∀(ps rs:List Piece),(∀q∈rs,m≤q.len)→(∀q∈ps,m≤q.len)→∀q∈ps.foldl addR rs,m≤q.len
 | [],_,h,_=>h
 |p::ps,rs,h,h'=>by
  rw[List.foldl_cons];exact tZ hm ps _ (sG hm h (h' p (List.mem_cons_self ..))) (fun q hq=>h' q (List.mem_cons_of_mem _ hq))
theorem aAs {m:Int} (hm:0≤m) {ps:List Piece} (h:∀q∈ps,m≤q.len):∀q∈mrgR ps,m≤q.len:=tZ hm ps [] (fun _ h=>by cases h) h
theorem wT {rs:List Piece} {p:Piece} (h:∀q∈rs,0≤q.len) (hp:0≤p.len):units (addR rs p)=units rs++units [p]:=by
 rcases cJ rs with rfl|⟨ds,y,rfl⟩
 ·rfl
 ·rw[eY]
  have hy:=h y (by simp)
  split
  ·rename_i ha
   have he:=(kY y p).1 ha;rw[cM,cM,jM,jM,jM,←he,List.append_assoc,List.replicate_append_replicate];show _++List.replicate (y.len+p.len).toNat (one y)=_
   rw[Int.toNat_add hy hp]
  ·rw[cM]
theorem oQ:∀(ps rs:List Piece),(∀q∈rs,0≤q.len)→(∀q∈ps,0≤q.len)→units (ps.foldl addR rs)=units rs++units ps
 | [],rs,_,_=>by simp[units]
 |p::ps,rs,h,h'=>by
  have hp:=h' p (List.mem_cons_self ..);rw[List.foldl_cons,oQ ps _ (sG (Int.le_refl 0) h hp) (fun q hq=>h' q (List.mem_cons_of_mem _ hq)),wT h hp,List.append_assoc,←cM]
  rfl
theorem aAA {ps:List Piece} (h:∀q∈ps,0≤q.len):units (mrgR ps)=units ps:=by
 rw[mrgR,oQ ps [] (fun _ h=>by cases h) h,z8,List.nil_append]
theorem uA (rs:List Piece) (p:Piece):∀m:Nat,(List.replicate (m+1) (one p)).foldl addR rs=addR rs { p with len:=(m:Int)+1 }
 |0=>by simp[one]
 |m+1=>by
  rw[List.replicate_succ',List.foldl_append,uA rs p m,List.foldl_cons,List.foldl_nil];have ha:∀n:Int,alk { p with len:=n } (one p)=true:=fun n=>by rw[kY];rfl
  rcases cJ rs with rfl|⟨ds,y,rfl⟩
  ·rw[addR_nil,addR_nil]
   show addR ([]++[_]) _=_
   rw[eY,if_pos (ha _)];simp[one]
  ·rw[eY,eY]
   by_cases hy:alk y p=true
   ·have h1:alk y { p with len:=(m:Int)+1 }=true:=hy
    have h2:alk y { p with len:=((m+1:Nat):Int)+1 }=true:=hy
    have h3:alk { y with len:=y.len+((m:Int)+1) } (one p)=true:=hy
    rw[if_pos h1,if_pos h2,eY,if_pos h3];simp[one];omega
   ·have h1:¬alk y { p with len:=(m:Int)+1 }=true:=hy
    have h2:¬alk y { p with len:=((m+1:Nat):Int)+1 }=true:=hy
    rw[if_neg h1,if_neg h2,eY,if_pos (ha _)];simp[one]
theorem oR:∀(ps rs:List Piece),(∀q∈ps,1≤q.len)→(units ps).foldl addR rs=ps.foldl addR rs
 | [],_,_=>rfl
 |p::ps,rs,h=>by
  have hp:=h p (List.mem_cons_self ..);obtain⟨m,hm⟩ : ∃m:Nat,p.len=(m:Int)+1:=⟨(p.len-1).toNat,by omega⟩
  rw[eE,List.foldl_append,List.foldl_cons,show p.len.toNat=m+1 by omega,uA,oR ps _ (fun q hq=>h q (List.mem_cons_of_mem _ hq)),←hm]
theorem aAB {ps:List Piece} (h:∀q∈ps,1≤q.len):mrgR (units ps)=mrgR ps:=oR ps [] h
theorem kI {ps:List Piece} (h:∀q∈ps,1≤q.len):normP (units ps)=normP ps:=by rw[normP,aAB h];rfl
theorem jN {n:Int} (h:1≤n):(cutk n:Int)=(n-1) / 5000:=by unfold cutk;omega
theorem qT (p:Piece) (h:0≤p.len):∀k:Nat,units (List.replicate k p)=List.replicate (k*p.len.toNat) (one p)
 |0=>by simp[units]
 |k+1=>by rw[List.replicate_succ,eE,qT p h k,List.replicate_append_replicate,Nat.succ_mul,Nat.add_comm]
theorem aAC {p:Piece} (h:1≤p.len):units (cut p)=List.replicate p.len.toNat (one p):=by
 have hk:=jN h;unfold cut;rw[cM,qT _ (by show (0:Int)≤5000;omega),jM]
 show List.replicate (cutk p.len*(5000:Int).toNat) (one p)++List.replicate (p.len-5000*(cutk p.len:Int)).toNat (one p)=_
 rw[List.replicate_append_replicate,show (5000:Int).toNat=5000 from rfl]
 congr 1
 omega
theorem oS:∀ {rs:List Piece},(∀q∈rs,1≤q.len)→units (rs.flatMap cut)=units rs
 | [],_=>rfl
 |p::rs,h=>by
  rw[List.flatMap_cons,cM,aAC (h p (List.mem_cons_self ..)),oS (fun q hq=>h q (List.mem_cons_of_mem _ hq)),eE]
theorem oT {ps:List Piece} (h:∀q∈ps,1≤q.len):units (normP ps)=units ps:=by
 rw[normP,oS (aAs (by omega) h),aAA (fun q hq=>by have:=h q hq;omega)]
theorem aDW {p:Piece} (h:1≤p.len):∀q∈cut p,(1≤q.len∧q.len≤5000)∧one q=one p:=by
 have hk:=jN h;intro q hq;unfold cut at hq;rcases List.mem_append.1 hq with hq|hq
 ·have:=List.eq_of_mem_replicate hq
  subst this;exact⟨⟨by show (1:Int)≤5000;omega,by show (5000:Int)≤5000;omega⟩,rfl⟩
 ·simp at hq
  subst hq;refine⟨?_,rfl⟩
  show 1≤p.len-5000*(cutk p.len:Int)∧p.len-5000*(cutk p.len:Int)≤5000
  omega
theorem oA {ps:List Piece} (h:∀q∈ps,1≤q.len):∀q∈normP ps,1≤q.len∧q.len≤5000:=by
 intro q hq;obtain⟨p,hp,hq⟩:=List.mem_flatMap.1 hq;exact(aDW (aAs (by omega) h p hp) q hq).1
theorem mH (p:Piece) (l:List Piece):sumL (p::l)=p.len+sumL l:=by simp[sumL]
theorem uB (a b:List Piece):sumL (a++b)=sumL a+sumL b:=by simp[sumL]
theorem dE:∀ {ps:List Piece},(∀q∈ps,0≤q.len)→((units ps).length:Int)=sumL ps
 | [],_=>rfl
 |p::ps,h=>by
  have hp:=h p (List.mem_cons_self ..);rw[eE,List.length_append,List.length_replicate,mH,←dE (fun q hq=>h q (List.mem_cons_of_mem _ hq))]
  omega
theorem kZ {ps:List Piece} (h:∀q∈ps,1≤q.len):sumL (normP ps)=sumL ps:=by
 rw[←dE (fun q hq=>by have:=(oA h q hq).1;omega),oT h,dE (fun q hq=>by have:=h q hq;omega)]
theorem mI {ps:List Piece} {x:Piece} (h:x∈units ps):∃p∈ps,x=one p:=by
 obtain⟨p,hp,hq⟩:=List.mem_flatMap.1 h;exact⟨p,hp,List.eq_of_mem_replicate hq⟩
theorem aAD {ps:List Piece} {p:Piece} (h:p∈ps) (hl:1≤p.len):one p∈units ps:=
 List.mem_flatMap.2 ⟨p,h,List.mem_replicate.2 ⟨by omega,rfl⟩⟩
theorem yL {ps:List Piece} (h:∀q∈ps,1≤q.len) {q:Piece} (hq:q∈normP ps):∃p∈ps,one q=one p:=by
 have h1:=aAD hq (oA h q hq).1;rw[oT h]at h1;exact mI h1
theorem sH {p q:Piece} (h:pOk p=true) (e:one q=one p) (hl:1≤q.len∧q.len≤5000):pOk q=true:=by
 obtain⟨a,b,c,d,f⟩:=p;obtain⟨a',b',c',d',f'⟩:=q;simp[one]at e;obtain⟨rfl,rfl,rfl,rfl⟩:=e;simp only[pOk,Bool.and_eq_true]at h ⊢;exact⟨by simp[inR];exact hl,h.2⟩
theorem lA (p:Piece):(cut p).length=cutk p.len+1:=by simp[cut]
theorem aAt {rs:List Piece} {p:Piece} (h:∀q∈rs,1≤q.len) (hp:1≤p.len∧p.len≤5000):((addR rs p).flatMap cut).length≤(rs.flatMap cut).length+1:=by
 have h1:=jN hp.1;rcases cJ rs with rfl|⟨ds,y,rfl⟩
 ·rw[addR_nil];simp[lA];omega
 ·have hy:=h y (by simp)
  have h2:=jN hy;rw[eY]
  split
  ·have h3:(cutk (y.len+p.len):Int)=(y.len+p.len-1) / 5000:=jN (by omega)
   simp[lA];omega
  ·simp[lA];omega
theorem uC:∀(ps rs:List Piece),(∀q∈rs,1≤q.len)→(∀q∈ps,1≤q.len∧q.len≤5000)→((ps.foldl addR rs).flatMap cut).length≤(rs.flatMap cut).length+ps.length
 | [],_,_,_=>by simp
 |p::ps,rs,h,h'=>by
  have hp:=h' p (List.mem_cons_self ..);have h1:=uC ps (addR rs p) (sG (by omega) h hp.1) (fun q hq=>h' q (List.mem_cons_of_mem _ hq))
  have h2:=aAt h hp;rw[List.foldl_cons,List.length_cons];omega
theorem gE {ps:List Piece} (h:∀q∈ps,1≤q.len∧q.len≤5000):(normP ps).length≤ps.length:=by
 have:=uC ps [] (fun _ h=>by cases h) h
 simpa[normP,mrgR]using this
theorem yM {ps:List Piece} (h:∀q∈ps,1≤q.len) (h1:1≤ps.length):1≤(normP ps).length:=by
 rcases Nat.eq_zero_or_pos (normP ps).length with h0|h0
 ·have e:=kZ h
  rw[List.length_eq_zero_iff.1 h0]at e;have h2:(ps.length:Int)≤sumL ps:=by
   clear e h0 h1
   induction ps with
   |nil=>simp[sumL]
   |cons p l ih=>
    have:=ih (fun q hq=>h q (List.mem_cons_of_mem _ hq))
    have:=h p (List.mem_cons_self ..);rw[mH,List.length_cons];omega
  rw[aBA]at e;omega
 ·exact h0
theorem oU {R:Road} (h:OK R):OK (normR R):=by
 have hp:∀q∈R.ps,1≤q.len∧q.len≤5000:=fun q hq=>aP (h.pk q hq)
 have h1:∀q∈R.ps,1≤q.len:=fun q hq=>(hp q hq).1
 have hs:sumL (normR R).ps=sumL R.ps:=kZ h1;exact⟨yM h1 h.p1,Nat.le_trans (gE hp) h.p2,h.c1,h.j1,fun q hq=>by
  obtain⟨p,hp',e⟩:=yL h1 hq;exact sH (h.pk p hp') e (oA h1 q hq),by rw[hs];exact h.n1,by rw[hs];exact h.ck,by rw[hs];exact h.jk⟩
def hs:List Piece→Piece
 | []=>⟨0,0,0,0,0⟩
 |x::l=>{ x with len:=sumL (x::l) }
theorem yN (g:List Piece) (y x:Piece):hs (g++[y]++[x])={ hs (g++[y]) with len:=sumL (g++[y])+x.len }:=by
 cases g with
 |nil=>simp[hs,sumL]
 |cons z g=>simp[hs,sumL];omega
theorem aAu (g:List Piece):(hs g).len=sumL g:=by cases g<;>rfl
theorem aAv (gs:List (List Piece)) (x:Piece) (h:∀g∈gs,g≠[]∧∀a∈g,one a=one (hs g)) :
  (addP gs x).map hs=addR (gs.map hs) x∧∀g∈addP gs x,g≠[]∧∀a∈g,one a=one (hs g):=by
 have hx:hs [x]=x:=by simp[hs,sumL]
 rcases cJ gs with rfl|⟨ds,g,rfl⟩
 ·rw[aAq]
  refine⟨?_,fun g hg=>?_⟩
  ·simp[addR,hx]
  ·simp at hg;subst hg;exact⟨by simp,fun a ha=>by simp at ha;rw[ha,hx]⟩
 ·obtain⟨hne,hal⟩:=h g (by simp)
  rcases cJ g with rfl|⟨g,y,rfl⟩
  ·exact absurd rfl hne
  have hy:one y=one (hs (g++[y])):=hal y (by simp)
  have hc:alk (hs (g++[y])) x=alk y x:=by rw[Bool.eq_iff_iff,kY,kY,hy]
  rw[addP_at,List.map_append,List.map_cons,List.map_nil,eY,hc]
  split
  ·rename_i ha
   have ho:one (hs (g++[y]++[x]))=one (hs (g++[y])):=by rw[yN];rfl
   refine⟨?_,fun g' hg'=>?_⟩
   ·rw[List.map_append,List.map_cons,List.map_nil,yN,aAu]
   ·rcases List.mem_append.1 hg' with hg'|hg'
    ·exact h g' (List.mem_append_left _ hg')
    ·simp only[List.mem_singleton]at hg'
     subst hg';refine⟨by simp,fun a ha'=>?_⟩
     rw[ho];rcases List.mem_append.1 ha' with ha'|ha'
     ·exact hal a ha'
     ·simp at ha'
      rw[ha',←hy];exact((kY y x).1 ha).symm
  ·refine⟨by simp[hx],fun g' hg'=>?_⟩
   rcases List.mem_append.1 hg' with hg'|hg'
   ·exact h g' hg'
   ·simp only[List.mem_singleton]at hg';subst hg';exact⟨by simp,fun a ha=>by simp at ha;rw[ha,hx]⟩
theorem oV:∀(ps:List Piece) (gs:List (List Piece)),(∀g∈gs,g≠[]∧∀a∈g,one a=one (hs g)) →
  (ps.foldl addP gs).map hs=ps.foldl addR (gs.map hs)∧∀g∈ps.foldl addP gs,g≠[]∧∀a∈g,one a=one (hs g)
 | [],_,h=>⟨rfl,h⟩
 |p::ps,gs,h=>by
  obtain⟨h1,h2⟩:=aAv gs p h;obtain⟨h3,h4⟩:=oV ps _ h2;rw[List.foldl_cons,List.foldl_cons,←h1];exact⟨h3,h4⟩
theorem aCR (ps:List Piece):(eX ps).map hs=mrgR ps:=(oV ps [] (fun _ h=>by cases h)).1
theorem aCS {ps g:List Piece} (h:g∈eX ps):g≠[]:=((oV ps [] (fun _ h=>by cases h)).2 g h).1
end Go.Proofs.YtjlkeoppppfeiaaGreat
