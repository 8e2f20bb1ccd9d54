/- Lemmas. -/
import Derived.Test.YtjlkeoppppfeiaaGreatQOrdM
import Derived.Test.YtjlkeoppppfeiaaGreatQAppS
import Derived.Test.YtjlkeoppppfeiaaGreatQReg
import Derived.Test.YtjlkeoppppfeiaaGreatQIter
import Derived.Test.YtjlkeoppppfeiaaGreatQCorn
namespace Go.Proofs.YtjlkeoppppfeiaaGreat
open Go.RowKit Go.Proofs
def neg (p:Piece):Piece:={ p with turn:=-p.turn }
end Go.Proofs.YtjlkeoppppfeiaaGreat
namespace Go.Proofs.YtjlkeoppppfeiaaGreat
open Go.RowKit Go.Shelf Go.Sort Go.Proofs
section
variable {α β:Type} {f:α→List Value} {f':β→List Value} {sz sz':Nat} {e e':TypeId} {base base':Nat} {w w':World} {A A':Option Addr} {n c n' c':Nat} {xs:List α} {ys:List β}
theorem OW.ty (h:OW f sz e base w A n c xs) {a:Addr} (ha:A=some a):∃cur,w.heap[a.block]?=some (.cells cur e (0,0)):=by
 subst ha;rcases h.1.2 with⟨h3,_⟩|⟨g',cap,cur,h3,_,hg',_⟩
 ·cases h3
 ·injection h3 with h3
  injection h3 with h3
  subst h3;exact⟨cur,hg'⟩
theorem OW.ne (h:OW f sz e base w A n c xs) (h':OW f' sz' e' base' w A' n' c' ys) (hne:e≠e') {a a':Addr} (ha:A=some a) (ha':A'=some a'):a.block≠a'.block:=by
 intro q;obtain⟨c1,h1⟩:=h.ty ha;obtain⟨c2,h2⟩:=h'.ty ha';rw[q,h2]at h1
 injection h1 with h1
 injection h1 with _ h1
 exact hne h1.symm
theorem BK.ne_row (hb:BK w n' e' #[]∨∃cs,BK w n' e' cs) (h:OW f sz e base w A n c xs) (hne:e≠e') {a:Addr} (ha:A=some a):a.block≠n':=by
 intro q;obtain⟨c1,h1⟩:=h.ty ha;rcases hb with hb|⟨cs,hb⟩
 ·rw[q,show w.heap[n']?=_ from hb]at h1
  injection h1 with h1
  injection h1 with _ h1
  exact hne h1.symm
 ·rw[q,show w.heap[n']?=_ from hb]at h1
  injection h1 with h1
  injection h1 with _ h1
  exact hne h1.symm
theorem OW.head (h:OW f sz e base w A n c xs) {a:Addr} (ha:A=some a):∃b,A=some ⟨b,0,none⟩:=by
 subst ha;rcases h.1.2 with⟨h3,_⟩|⟨g',cap,cur,h3,_,hg',_⟩
 ·cases h3
 ·injection h3 with h3
  injection h3 with h3
  exact⟨g',by rw[h3]⟩
def mid (g:α→α) (l:List α) (k:Nat):List α:=(l.take k).map g++l.drop k
end
end Go.Proofs.YtjlkeoppppfeiaaGreat
namespace Go.Proofs.YtjlkeoppppfeiaaGreat
section
variable {α:Type} (key:α→Int)
def insR:List α→α→List α
 | [],x=>[x]
 |y::S,x=>if key x<key y then x::y::S else y::insR S x
def aK (l:List α):List α:=l.foldl (insR key) []
def mrg:List α→List α→List α
 | [],R=>R
 |l::L,[]=>l::L
 |l::L,r::R=>if key r<key l then r::mrg (l::L) R else l::mrg L (r::R)
termination_by L R=>L.length+R.length
def Srt (l:List α):Prop:=l.Pairwise fun a b=>key a≤key b
theorem uF:∀(S:List α) (x:α),(insR key S x).length=S.length+1
 | [],_=>rfl
 |y::S,x=>by unfold insR;split<;>simp[uF S x]
theorem qU:aK key ([]:List α)=[]:=rfl
theorem ssort_snoc (l:List α) (x:α):aK key (l++[x])=insR key (aK key l) x:=by simp[aK]
theorem eQ {P:List α→Prop} (h0:P []) (h1:∀l x,P l→P (l++[x])) (l:List α):P l:=by
 have:∀r:List α,P r.reverse:=by
  intro r
  induction r with
  |nil=>exact h0
  |cons x r ih=>rw[List.reverse_cons];exact h1 _ _ ih
 have h:=this l.reverse
 rwa [List.reverse_reverse]at h
theorem ssort_len (l:List α):(aK key l).length=l.length:=by
 induction l using eQ with
 |h0=>rfl
 |h1 l x ih=>rw[ssort_snoc,uF,ih,List.length_append];rfl
theorem cR (L:List α):mrg key L []=L:=by cases L<;>simp[mrg]
theorem cY (R:List α):mrg key [] R=R:=by simp[mrg]
theorem bL (l:α) (L:List α) (r:α) (R:List α):mrg key (l::L) (r::R)=if key r<key l then r::mrg key (l::L) R else l::mrg key L (r::R):=by rw[mrg]
theorem iU:∀(L R:List α),(mrg key L R).length=L.length+R.length
 | [],R=>by simp[mrg]
 |l::L,[]=>by simp[mrg]
 |l::L,r::R=>by
  rw[bL]
  split
  ·rw[List.length_cons,iU (l::L) R];simp only[List.length_cons];omega
  ·rw[List.length_cons,iU L (r::R)];simp only[List.length_cons];omega
termination_by L R=>L.length+R.length
theorem eF {x:α}:∀ {S1 S2:List α},(∀y∈S1,key y≤key x)→(∀y∈S2,key x<key y)→insR key (S1++S2) x=S1++x::S2
 | [],[],_,_=>rfl
 | [],z::S2,_,h2=>by simp[insR,h2 z (List.mem_cons_self ..)]
 |y::S1,S2,h1,h2=>by
  have:=h1 y (List.mem_cons_self ..);rw[List.cons_append,insR,if_neg (by omega),eF (fun z hz=>h1 z (List.mem_cons_of_mem _ hz)) h2]
  rfl
theorem insR_mem {S:List α} {x z:α} (h:z∈insR key S x):z=x∨z∈S:=by
 induction S with
 |nil=>simp[insR]at h;exact .inl h
 |cons y S ih=>
  unfold insR at h
  split at h
  ·rcases List.mem_cons.1 h with h|h
   ·exact .inl h
   ·exact .inr h
  ·rcases List.mem_cons.1 h with h|h
   ·exact .inr (by rw[h];exact List.mem_cons_self ..)
   ·rcases ih h with h|h
    ·exact .inl h
    ·exact .inr (List.mem_cons_of_mem _ h)
theorem Srt.insR {S:List α} (h:Srt key S) (x:α):Srt key (insR key S x):=by
 induction S with
 |nil=>exact List.pairwise_singleton _ _
 |cons y S ih=>
  obtain⟨h1,h2⟩:=List.pairwise_cons.1 h;unfold Go.Proofs.YtjlkeoppppfeiaaGreat.insR
  split
  ·rename_i hlt
   refine List.pairwise_cons.2 ⟨fun z hz=>?_,h⟩
   rcases List.mem_cons.1 hz with rfl|hz
   ·omega
   ·have:=h1 z hz;omega
  ·rename_i hge
   refine List.pairwise_cons.2 ⟨fun z hz=>?_,ih h2⟩
   rcases insR_mem key hz with rfl|hz
   ·omega
   ·exact h1 z hz
theorem bU (l:List α):Srt key (aK key l):=by
 induction l using eQ with
 |h0=>exact List.Pairwise.nil
 |h1 l x ih=>rw[ssort_snoc];exact ih.insR key x
theorem yQ:∀ {L R:List α},(∀l∈L,∀r∈R,key l≤key r)→mrg key L R=L++R
 | [],R,_=>by simp[mrg]
 |l::L,[],_=>by simp[mrg]
 |l::L,r::R,h=>by
  have:=h l (List.mem_cons_self ..) r (List.mem_cons_self ..);rw[bL,if_neg (by omega),yQ (L:=L) (fun x hx y hy=>h x (List.mem_cons_of_mem _ hx) y hy)]
  rfl
theorem uG:∀ {L R:List α},(∀r∈R,∀l∈L,key r<key l)→mrg key L R=R++L
 | [],R,_=>by simp[mrg]
 |l::L,[],_=>by simp[mrg]
 |l::L,r::R,h=>by
  have:=h r (List.mem_cons_self ..) l (List.mem_cons_self ..);rw[bL,if_pos this,uG (L:=l::L) (R:=R) (fun x hx y hy=>h x (List.mem_cons_of_mem _ hx) y hy)]
  rfl
theorem dG:∀ {L1 L2 R1 R2:List α},(∀l∈L1,∀r∈R2,key l≤key r)→(∀r∈R1,∀l∈L2,key r<key l)→mrg key (L1++L2) (R1++R2)=mrg key L1 R1++mrg key L2 R2
 | [],L2,[],R2,_,_=>by simp[mrg]
 | [],[],r::R1,R2,_,h2=>by simp[mrg]
 | [],l::L2,r::R1,R2,h1,h2=>by
  have:=h2 r (List.mem_cons_self ..) l (List.mem_cons_self ..);have ih:=dG (L1:=[]) (L2:=l::L2) (R1:=R1) (R2:=R2) (fun x hx=>by cases hx) (fun x hx y hy=>h2 x (List.mem_cons_of_mem _ hx) y hy)
  rw[cY]at ih ⊢;rw[List.nil_append,List.cons_append,bL,if_pos this];rw[List.nil_append]at ih;rw[ih]
  rfl
 |l::L1,L2,[],R2,h1,h2=>by
  have ih:=dG (L1:=L1) (L2:=L2) (R1:=[]) (R2:=R2) (fun x hx y hy=>h1 x (List.mem_cons_of_mem _ hx) y hy) (fun x hx=>by cases hx)
  rw[cR]at ih ⊢;rw[List.nil_append]at ih ⊢;rcases R2 with _|⟨r,R2⟩
  ·rw[cR,cR]
  ·have:=h1 l (List.mem_cons_self ..) r (List.mem_cons_self ..)
   rw[List.cons_append,bL,if_neg (by omega),ih]
   rfl
 |l::L1,L2,r::R1,R2,h1,h2=>by
  rw[List.cons_append,List.cons_append,bL,bL]
  split
  ·have ih:=dG (L1:=l::L1) (L2:=L2) (R1:=R1) (R2:=R2) h1 (fun x hx y hy=>h2 x (List.mem_cons_of_mem _ hx) y hy)
   rw[List.cons_append]at ih;rw[ih]
   rfl
  ·have ih:=dG (L1:=L1) (L2:=L2) (R1:=r::R1) (R2:=R2) (fun x hx y hy=>h1 x (List.mem_cons_of_mem _ hx) y hy) h2
   rw[List.cons_append]at ih;rw[ih]
   rfl
termination_by L1 _ R1 _=>L1.length+R1.length
theorem lC:∀(L R:List α) (x:α),insR key (mrg key L R) x=mrg key L (insR key R x)
 | [],R,x=>by rw[cY,cY]
 |l::L,[],x=>by
  have ih:=lC L [] x;rw[cR]at ih ⊢;simp only[insR]at ih ⊢;rw[bL,cR,ih]
 |l::L,r::R,x=>by
  rw[bL];by_cases h1:key r<key l
  ·rw[if_pos h1]
   have ih:=lC (l::L) R x;by_cases h2:key x<key r
   ·simp only[insR,if_pos h2]
    rw[bL,if_pos (by omega),bL,if_pos h1]
   ·simp only[insR,if_neg h2]
    rw[bL,if_pos h1,ih]
  ·rw[if_neg h1]
   have ih:=lC L (r::R) x;by_cases h2:key x<key l
   ·have h3:key x<key r:=by omega
    simp only[insR,if_pos h2,if_pos h3];rw[bL,if_pos h2,bL,if_neg h1]
   ·simp only[insR,if_neg h2]
    by_cases h3:key x<key r
    ·simp only[insR,if_pos h3]at ih ⊢
     rw[bL,if_neg h2,ih]
    ·simp only[insR,if_neg h3]at ih ⊢
     rw[bL,if_neg h1,ih]
termination_by L R=>L.length+R.length
theorem jP (A B:List α):mrg key (aK key A) (aK key B)=aK key (A++B):=by
 induction B using eQ with
 |h0=>rw[qU,cR,List.append_nil]
 |h1 B x ih=>rw[ssort_snoc,←List.append_assoc,ssort_snoc,←ih,lC]
theorem lD {l:List α} (h:Srt key l):aK key l=l:=by
 induction l using eQ with
 |h0=>rfl
 |h1 l x ih=>
  obtain⟨h1,_,h3⟩:=List.pairwise_append.1 h;rw[ssort_snoc,ih h1];have:=eF key (x:=x) (S1:=l) (S2:=[]) (fun y hy=>h3 y hy x (List.mem_cons_self ..)) (fun y hy=>by cases hy)
  rw[List.append_nil]at this;exact this
theorem Srt.sub {l l':List α} (h:Srt key l) (hs:l'.Sublist l):Srt key l':=h.sublist hs
def bl (s:Nat):Nat→List α→List α
 |0,l=>l
 |k+1,l=>aK key (l.take s)++bl s k (l.drop s)
theorem oB (s:Nat):∀(k:Nat) (l:List α),k*s≤l.length→∃A:List α,A.length=k*s∧bl key s k l=A++((l.drop (k*s)).take s++(l.drop (k*s)).drop s) ∧
  bl key s (k+1) l=A++(aK key ((l.drop (k*s)).take s)++(l.drop (k*s)).drop s)
 |0,l,_=>⟨[],by simp,by simp[bl],by simp[bl]⟩
 |k+1,l,h=>by
  have hm:(k+1)*s=k*s+s:=Nat.succ_mul k s;obtain⟨A,h1,h2,h3⟩:=oB s k (l.drop s) (by rw[List.length_drop];omega)
  rw[List.drop_drop,show s+k*s=(k+1)*s by omega]at h2 h3
  refine⟨aK key (l.take s)++A,?_,?_,?_⟩
  ·rw[List.length_append,ssort_len,List.length_take,h1];omega
  ·rw[bl,h2,List.append_assoc]
  ·rw[bl,h3,List.append_assoc]
theorem bl_more (s:Nat):∀(k:Nat) (l:List α),l.length≤k*s→bl key s (k+1) l=bl key s k l
 |0,l,h=>by
  have:l=[]:=List.eq_nil_of_length_eq_zero (by omega)
  subst this;simp[bl,qU]
 |k+1,l,h=>by
  have hm:(k+1)*s=k*s+s:=Nat.succ_mul k s;rw[bl,bl_more s k (l.drop s) (by rw[List.length_drop];omega)]
  rfl
theorem aDX (s k k':Nat) (l:List α) (h:l.length≤k*s) (h':l.length≤k'*s):bl key s k l=bl key s k' l:=by
 have:∀d k,l.length≤k*s→bl key s (k+d) l=bl key s k l:=by
  intro d
  induction d with
  |zero=>intro k _;rfl
  |succ d ih=>
   intro k hk;rw[←Nat.add_assoc,bl_more key s (k+d) l (Nat.le_trans hk (Nat.mul_le_mul_right s (Nat.le_add_right k d)))];exact ih k hk
 rcases Nat.le_total k k' with hh|hh
 ·obtain⟨d,rfl⟩:=Nat.exists_eq_add_of_le hh
  exact(this d k h).symm
 ·obtain⟨d,rfl⟩:=Nat.exists_eq_add_of_le hh
  exact this d k' h'
def bs (s:Nat) (l:List α):List α:=bl key s l.length l
theorem qV {s k:Nat} {l:List α} (hs:1≤s) (h:l.length≤k*s):bl key s k l=bs key s l:=
 aDX key s k l.length l h (Nat.le_mul_of_pos_right _ hs)
theorem bs_one {s:Nat} {l:List α} (hs:1≤s) (h:l.length≤s):bs key s l=aK key l:=by
 rw[←qV key (k:=1) hs (by omega),bl,bl,List.take_of_length_le h,List.drop_of_length_le h,List.append_nil]
theorem oC {s:Nat} (l:List α) (hs:1≤s):bs key s l=aK key (l.take s)++bs key s (l.drop s):=by
 have h1:l.length≤(l.length+1)*s:=Nat.le_trans (Nat.le_succ _) (Nat.le_mul_of_pos_right _ hs);rw[←qV key (k:=l.length+1) hs h1,bl,qV key hs (by rw[List.length_drop];exact Nat.le_trans (Nat.sub_le _ _) (Nat.le_mul_of_pos_right _ hs))]
def mx (s:Nat):Nat→List α→List α
 |0,l=>bs key s l
 |k+1,l=>aK key (l.take (2*s))++mx s k (l.drop (2*s))
theorem oD (s:Nat) (hs:1≤s):∀(k:Nat) (l:List α),k*(2*s)≤l.length→∃A:List α,A.length=k*(2*s)∧mx key s k l=A++bs key s (l.drop (k*(2*s))) ∧
  mx key s (k+1) l=A++(aK key ((l.drop (k*(2*s))).take (2*s))++bs key s ((l.drop (k*(2*s))).drop (2*s)))
 |0,l,_=>⟨[],by simp,by simp[mx],by simp[mx]⟩
 |k+1,l,h=>by
  have hm:(k+1)*(2*s)=k*(2*s)+2*s:=Nat.succ_mul k (2*s);obtain⟨A,h1,h2,h3⟩:=oD s hs k (l.drop (2*s)) (by rw[List.length_drop];omega)
  rw[List.drop_drop,show 2*s+k*(2*s)=(k+1)*(2*s) by omega]at h2 h3
  refine⟨aK key (l.take (2*s))++A,?_,?_,?_⟩
  ·rw[List.length_append,ssort_len,List.length_take,h1];omega
  ·rw[mx,h2,List.append_assoc]
  ·rw[mx,h3,List.append_assoc]
theorem wW {s:Nat} (l:List α) (hs:1≤s):bs key s l=aK key (l.take s)++(aK key ((l.drop s).take s)++bs key s (l.drop (2*s))):=by
 rw[oC key l hs,oC key (l.drop s) hs,List.drop_drop,show s+s=2*s by omega]
theorem oX {s:Nat} (l:List α):l.take s++(l.drop s).take s=l.take (2*s):=by
 rw[show 2*s=s+s by omega,List.take_add]
theorem sI {s k:Nat} (hs:1≤s):∀(l:List α),k*(2*s)≤l.length→l.length≤k*(2*s)+s→mx key s k l=bs key (2*s) l:=by
 induction k with
 |zero=>
  intro l _ h2;rw[mx,bs_one key hs (by omega),bs_one key (by omega) (by omega)]
 |succ k ih=>
  intro l h1 h2;have hm:(k+1)*(2*s)=k*(2*s)+2*s:=Nat.succ_mul k (2*s);rw[mx,ih (l.drop (2*s)) (by rw[List.length_drop];omega) (by rw[List.length_drop];omega),←oC key l (by omega)]
theorem wX {s k:Nat} (hs:1≤s):∀(l:List α),l.length≤k*(2*s)→mx key s k l=bs key (2*s) l:=by
 induction k with
 |zero=>
  intro l h;have:l=[]:=List.eq_nil_of_length_eq_zero (by omega)
  subst this;rw[mx,bs_one key hs (by simp),bs_one key (by omega) (by simp)]
 |succ k ih=>
  intro l h;have hm:(k+1)*(2*s)=k*(2*s)+2*s:=Nat.succ_mul k (2*s);rw[mx,ih (l.drop (2*s)) (by rw[List.length_drop];omega),←oC key l (by omega)]
end
section
variable {α:Type}
theorem aL (P:List α) (u:α) (Q:List α) {i:Nat} (h:P.length=i):(P++u::Q)[i]?=some u:=by
 subst h;simp
theorem oE (P:List α) (u v:α) (Q:List α) {i:Nat} (h:P.length=i):(P++u::Q).set i v=P++v::Q:=by
 subst h;simp
theorem jQ (P:List α) (u:α) (M:List α) (v:α) (Q:List α) {i j:Nat} (hi:P.length=i) (hj:P.length+M.length+1=j) :
  ((P++u::(M++v::Q)).set i v).set j u=P++v::(M++u::Q):=by
 rw[oE P u v _ hi];have:P++v::(M++v::Q)=(P++v::M)++v::Q:=by simp
 rw[this,oE (P++v::M) v u Q (by simp;omega)]
 simp
theorem aS (P:List α) (u:α) (M:List α) (v:α) (Q:List α) {j:Nat} (hj:P.length+M.length+1=j):(P++u::(M++v::Q))[j]?=some v:=by
 have:P++u::(M++v::Q)=(P++u::M)++v::Q:=by simp
 rw[this];exact aL _ v Q (by simp;omega)
end
end Go.Proofs.YtjlkeoppppfeiaaGreat
namespace Go.Proofs.YtjlkeoppppfeiaaGreat
open Go.RowKit Go.Shelf Go.Sort Go.Proofs
set_option maxRecDepth 100000 in
set_option maxHeartbeats 4000000 in
theorem oY (pa:Option Addr) (pn pc:Nat) (ca:Option Addr) (cn cc:Nat) (ja:Option Addr) (jn jc:Nat) (R:Road) (pa2:Option Addr) (pn2 pc2:Nat) (ca2:Option Addr) (cn2 cc2:Nat) (ja2:Option Addr) (jn2 jc2:Nat) (R2:Road) (w:World)
  (h:RD w w.heap.size pa pn ca cn ja jn R) (h2:RD w w.heap.size pa2 pn2 ca2 cn2 ja2 jn2 R2) (hv:OK R) (hv2:OK R2) :
  Calls Tryz.prog 39 #[.agg #[.slice pa pn pc,.slice ca cn cc,.slice ja jn jc],.agg #[.slice pa2 pn2 pc2,.slice ca2 cn2 cc2,.slice ja2 jn2 jc2]] w fun e w'=>
   ((sumL R.ps=sumL R2.ps→∃g ba bq g2 ba2 bq2,e = .returned (.tuple #[.pointer (some ⟨g,0,none⟩),.pointer (some ⟨g2,0,none⟩),.int .i64 0])∧MS w' w'.heap.size g pa pn pc ca cn cc ja jn jc ba bq R∧MS w' w'.heap.size g2 pa2 pn2 pc2 ca2 cn2 cc2 ja2 jn2 jc2 ba2 bq2 R2) ∧
    (¬sumL R.ps=sumL R2.ps→e = .returned (.tuple #[.pointer none,.pointer none,.int .i64 2])))∧Below w.heap.size w w':=by
 have hR:=Lib.hid h;have hR2:=Lib.hid h2;have hv':=Lib.hid hv;have hv2':=Lib.hid hv2;have hmo:Tryz.prog.follows .mixedOrders=true:=by kernel_rfl
 have hpn:pn≤2000:=by rw[h.p.1];exact hv.p2
 have hpn2:pn2≤2000:=by rw[h2.p.1];exact hv2.p2
 have hc:=Lib.hid (oZ hv);have hc2:=Lib.hid (oZ hv2);clear h h2 hv hv2;obtain⟨W0,hW0⟩ : ∃W0,W0=(w.alloc (.cells #[.slice pa pn pc,.slice ca cn cc,.slice ja jn jc] 26)).alloc (.cells #[.slice pa2 pn2 pc2,.slice ca2 cn2 cc2,.slice ja2 jn2 jc2] 26):=⟨_,rfl⟩
 have hB0:Below w.heap.size w W0:=by rw[hW0];exact((Below.refl w.heap.size w).alloc (Nat.le_refl _) _).alloc (by simp) _
 have hX0:BK W0 w.heap.size 26 #[.slice pa pn pc,.slice ca cn cc,.slice ja jn jc]:=by rw[hW0];exact(BK.new w _ _).alloc _
 have hY0:BK W0 (w.heap.size+1) 26 #[.slice pa2 pn2 pc2,.slice ca2 cn2 cc2,.slice ja2 jn2 jc2]:=by rw[hW0];have:=BK.new (w.alloc (.cells #[.slice pa pn pc,.slice ca cn cc,.slice ja jn jc] 26)) 26 #[.slice pa2 pn2 pc2,.slice ca2 cn2 cc2,.slice ja2 jn2 jc2];rw[World.size_alloc]at this;exact this
 go_enter Tryz.func39,Tryz.ntmps39
 go_wp2_with fail
 rw[←hW0];clear hW0;refine(fD _ _ _ _ _ _ _ _ _ R _ (hR.out.grow hB0 hB0.size)).mono ?_
 rintro e W1 ⟨rfl,hk0⟩;rw[hc.out];have hB1:=hB0.trans (hk0.mono hB0.size);have hX1:=hX0.below hk0 hX0.lt;have hY1:=hY0.below hk0 hY0.lt;have y0:=hY1.cell 0;have y1:=hY1.cell 1;have y2:=hY1.cell 2;simp only[List.getElem?_toArray,List.getElem?_cons_zero,List.getElem?_cons_succ]at y0 y1 y2
 go_wp2_with fail
 clear y0 y1 y2;refine(fD _ _ _ _ _ _ _ _ _ R2 _ (hR2.out.grow hB1 hB1.size)).mono ?_
 rintro e W2 ⟨rfl,hk1⟩;rw[hc2.out];have hB2:=hB1.trans (hk1.mono hB1.size);have hX2:=hX1.below hk1 hX1.lt;have hY2:=hY1.below hk1 hY1.lt;have x0:=fun d os=>cell_regrown (hX2.cell 0) d os
 have x1:=fun d os=>cell_regrown (hX2.cell 1) d os
 have x2:=fun d os=>cell_regrown (hX2.cell 2) d os
 have y0:=fun d os=>cell_regrown (hY2.cell 0) d os
 have y1:=fun d os=>cell_regrown (hY2.cell 1) d os
 have y2:=fun d os=>cell_regrown (hY2.cell 2) d os
 go_wp2_with fail
 refine aM 4 [1,3] hmo (by kernel_rfl) ?_
 simp only[List.take_succ_cons,List.take_zero,List.drop_succ_cons,List.drop_zero]
 repeat (refine aH (by decide) (by decide) (fun K hK=>?_);go_simp;refine hK _ ?_;clear hK K)
 refine fZ (ι:=Nat) 118 #[.agg #[.slice pa pn pc,.slice ca cn cc,.slice ja jn jc]] (fun g=>.pointer (some ⟨g,0,none⟩)) (fun g x=>∃ba bq,MS x x.heap.size g pa pn pc ca cn cc ja jn jc ba bq R) (by decide) (by decide) rfl (fun w=>by go_simp) aB (fun g x y ⟨ba,bq,hm⟩ hb=>⟨ba,bq,hm.grow hb hb.size⟩) (fun W hW _=>?_) (fun g1 hs1=>?_)
 ·obtain⟨p,rfl⟩:=hW
  have hb:=below_regrown W2 p.d p.os;have hb':=hB2.trans (hb.mono hB2.size);refine(fR pa pn pc ca cn cc ja jn jc R _ (hR.out.grow hb' hb'.size) hv'.out.pk (by omega)).mono ?_
  rintro e w' ⟨g,ba,bq,rfl,hM,_,hbl⟩;exact⟨g,rfl,⟨ba,bq,hM⟩,hbl⟩
 repeat (refine aH (by decide) (by decide) (fun K hK=>?_);go_simp;refine hK _ ?_;clear hK K)
 refine fZ (ι:=Nat) 118 #[.agg #[.slice pa2 pn2 pc2,.slice ca2 cn2 cc2,.slice ja2 jn2 jc2]] (fun g=>.pointer (some ⟨g,0,none⟩)) (fun g x=>∃ba bq,MS x x.heap.size g pa2 pn2 pc2 ca2 cn2 cc2 ja2 jn2 jc2 ba bq R2) (by decide) (by decide) rfl (fun w=>by go_simp) hs1 (fun g x y ⟨ba,bq,hm⟩ hb=>⟨ba,bq,hm.grow hb hb.size⟩) (fun W hW _=>?_) (fun g2 hs2=>?_)
 ·obtain⟨p,rfl⟩:=hW
  have hb:=below_regrown W2 p.d p.os;have hb':=hB2.trans (hb.mono hB2.size);refine(fR pa2 pn2 pc2 ca2 cn2 cc2 ja2 jn2 jc2 R2 _ (hR2.out.grow hb' hb'.size) hv2'.out.pk (by omega)).mono ?_
  rintro e w' ⟨g,ba,bq,rfl,hM,_,hbl⟩;exact⟨g,rfl,⟨ba,bq,hM⟩,hbl⟩
 repeat (refine aH (by decide) (by decide) (fun K hK=>?_);go_simp;refine hK _ ?_;clear hK K)
 refine bI ?_
 intro W3 hb3 hΦ;obtain⟨⟨-,ba,bq,hM⟩,ba2,bq2,hM2⟩:=hΦ;clear x0 x1 x2 y0 y1 y2 hs1 hs2;have hB3:=hB2.trans (hb3.mono hB2.size);go_wp2_with fail
 refine(iW _ _ _ _ _ _ _ _ _ _ _ _ R _ _ hM (by omega)).mono ?_
 rintro e W4' ⟨rfl,nd,hw4⟩;obtain⟨W4,hw4e⟩ : ∃W4,W4=W4':=⟨_,rfl⟩
 rw[←hw4e]at hw4 ⊢;have hk4:Below W3.heap.size W3 W4:=by rw[hw4];exact aD (Below.refl _ _) _
 clear hw4 hw4e;have hM4:=hM.grow hk4 hk4.size;have hM24:=hM2.grow hk4 hk4.size;have hB4:=hB3.trans (hk4.mono hB3.size);go_wp2_with fail
 refine(iW _ _ _ _ _ _ _ _ _ _ _ _ R2 _ _ hM24 (by omega)).mono ?_
 rintro e W5' ⟨rfl,nd,hw5⟩;obtain⟨W5,hw5e⟩ : ∃W5,W5=W5':=⟨_,rfl⟩
 rw[←hw5e]at hw5 ⊢;have hk5:Below W4.heap.size W4 W5:=by rw[hw5];exact aD (Below.refl _ _) _
 clear hw5 hw5e;have hB5:=hB4.trans (hk5.mono hB4.size);have hM5:=hM4.grow hk5 hk5.size;have hM25:=hM24.grow hk5 hk5.size;by_cases he:sumL R.ps=sumL R2.ps
 ·have HH:=Lib.hid (And.intro hM5 (And.intro hM25 hB5))
  have HE:=Lib.hid he;clear hM5 hM25 hM4 hM24 hM hM2;go_wp2_with fail
  go_ret3
  exact⟨⟨fun _=>⟨g1,ba,bq,g2,ba2,bq2,rfl,HH.out.1,HH.out.2.1⟩,fun h=>absurd HE.out h⟩,HH.out.2.2⟩
 ·have HE:=Lib.hid he
  clear hM5 hM25 hM4 hM24 hM hM2;go_wp2_with fail
  go_ret3
  exact⟨⟨fun h=>absurd h HE.out,fun _=>rfl⟩,hB5⟩
end Go.Proofs.YtjlkeoppppfeiaaGreat
namespace Go.Proofs.YtjlkeoppppfeiaaGreat
open Go.RowKit Go.Shelf Go.Sort Go.Proofs
theorem aDP:(Tryz.prog.info? 142).map (fun i=>(i.zero,i.size,i.bytes))=some (some (.agg #[.int .i64 0,.int .i64 0]),2,16):=by kernel_rfl
theorem yR {p:Piece} (h:pOk p=true):0≤p.rad∧p.rad≤2000:=by
 simp only[pOk,inR,Bool.and_eq_true,decide_eq_true_eq]at h;obtain⟨_,_,_,_,h3⟩:=h;by_cases ht:p.turn=0
 ·rw[if_pos ht]at h3;simp at h3;omega
 ·rw[if_neg ht]at h3;simp at h3;omega
end Go.Proofs.YtjlkeoppppfeiaaGreat
namespace Go.Proofs.YtjlkeoppppfeiaaGreat
open Go.RowKit Go.Proofs
theorem sJ {α:Type} (f:α→Int):∀(l:List α),(∀i,i<l.length→∀c d,l[i]?=some c→0<i→l[i-1]?=some d→f d<f c)→l.Pairwise fun a b=>f a<f b
 | [],_=>List.Pairwise.nil
 | [_],_=>List.pairwise_singleton ..
 |a::b::l,h=>by
  have ih:=sJ f (b::l) (fun i hi c d hc h0 hd=>h (i+1) (by simp at hi ⊢;omega) c d (by simpa using hc) (by omega) (by
   obtain⟨j,rfl⟩ : ∃j,i=j+1:=⟨i-1,by omega⟩
   simpa using hd))
  have hab:=h 1 (by simp) b a rfl (by omega) rfl
  refine List.pairwise_cons.2 ⟨fun x hx=>?_,ih⟩
  rcases List.mem_cons.1 hx with rfl|hx
  ·exact hab
  ·have:=(List.pairwise_cons.1 ih).1 x hx;omega
theorem yS {α:Type} {f:α→Int} {l:List α} (h:l.Pairwise fun a b=>f a<f b) (i:Nat) {c d:α} (hc:l[i]?=some c) (h0:0<i) (hd:l[i-1]?=some d):f d<f c:=by
 obtain⟨h1,rfl⟩:=List.getElem?_eq_some_iff.1 hc
 obtain⟨h2,rfl⟩:=List.getElem?_eq_some_iff.1 hd
 exact List.pairwise_iff_getElem.1 h (i-1) i h2 h1 (by omega)
theorem fG (n:Int) (cs:List Crest):(∀i,i<cs.length→cAt n cs i)↔(∀c∈cs,inR c.pos 0 n=true∧inR c.siz 1 3=true)∧cs.Pairwise fun a b=>a.pos<b.pos:=by
 constructor
 ·intro h
  refine⟨fun c hc=>?_,sJ Crest.pos cs (fun i hi c d hc h0 hd=>(h i hi c hc).2.2 d h0 hd)⟩
  obtain⟨i,hi,rfl⟩:=List.getElem_of_mem hc;have:=h i hi _ (List.getElem?_eq_getElem hi)
  exact⟨this.1,this.2.1⟩
 ·rintro⟨h1,h2⟩ i hi c hc
  have hm:=h1 c (List.mem_of_getElem? hc);exact⟨hm.1,hm.2,fun d h0 hd=>yS (f:=Crest.pos) h2 i hc h0 hd⟩
theorem gF (n:Int) (js:List Junc):(∀i,i<js.length→jAt n js i)↔(∀c∈js,inR c.pos 0 n=true∧inR c.arms 2 6=true∧inR c.way 1 c.arms=true)∧js.Pairwise fun a b=>a.pos<b.pos:=by
 constructor
 ·intro h
  refine⟨fun c hc=>?_,sJ Junc.pos js (fun i hi c d hc h0 hd=>(h i hi c hc).2.2.2 d h0 hd)⟩
  obtain⟨i,hi,rfl⟩:=List.getElem_of_mem hc;have:=h i hi _ (List.getElem?_eq_getElem hi)
  exact⟨this.1,this.2.1,this.2.2.1⟩
 ·rintro⟨h1,h2⟩ i hi c hc
  have hm:=h1 c (List.mem_of_getElem? hc);exact⟨hm.1,hm.2.1,hm.2.2,fun d h0 hd=>yS (f:=Junc.pos) h2 i hc h0 hd⟩
end Go.Proofs.YtjlkeoppppfeiaaGreat
