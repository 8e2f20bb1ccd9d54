/- Lemmas. -/
import Derived.Test.YtjlkeoppppfeiaaGreatProg
import Derived.Test.YtjlkeoppppfeiaaGreatQBase
import Derived.WalkLawsBesides
import Derived.Deep.QuietTactic
import Derived.BigQuiet
import Derived.BigGuardPart
import Derived.Deep.RegionHeld3
namespace Go.Proofs.YtjlkeoppppfeiaaGreat
open Go.RowKit Go.Proofs
theorem cN {a b:Bool} (h:a=b):Ending.returned (.bool a) = .returned (.bool b):=by rw[h]
theorem dT {a b:Int} (h:a=b):Ending.returned (.int .i64 a) = .returned (.int .i64 b):=by rw[h]
theorem aW (x lo hi:Int) (w:World) :
  Calls Tryz.prog 51 #[.int .i64 x,.int .i64 lo,.int .i64 hi] w fun e w'=>e = .returned (.bool (inR x lo hi))∧w=w':=by
 by_cases h:lo≤x
 ·have e:inR x lo hi=decide (x≤hi):=by simp[inR,h]
  rw[e];clear e;go_enter Tryz.func51,Tryz.ntmps51
  go_wp2
  go_ret
  exact⟨rfl,rfl⟩
 ·have e:inR x lo hi=false:=by simp[inR,h]
  rw[e];clear e;go_enter Tryz.func51,Tryz.ntmps51
  go_wp2
  go_ret
  exact⟨rfl,rfl⟩
theorem dP (x lo hi:Int) (w:World) :
  Calls Tryz.prog 115 #[.int .i64 x,.int .i64 lo,.int .i64 hi] w fun e w'=>e = .returned (.bool (inR x lo hi))∧w=w':=by
 by_cases h:lo≤x
 ·have e:inR x lo hi=decide (x≤hi):=by simp[inR,h]
  rw[e];clear e;go_enter Tryz.func115,Tryz.ntmps115
  go_wp2
  go_ret
  exact⟨rfl,rfl⟩
 ·have e:inR x lo hi=false:=by simp[inR,h]
  rw[e];clear e;go_enter Tryz.func115,Tryz.ntmps115
  go_wp2
  go_ret
  exact⟨rfl,rfl⟩
theorem nL (a b:Int) (w:World) (h0:0≤a) (h1:a≤1000000000) (h2:1≤b) (h3:b≤1000000000) :
  Calls Tryz.prog 192 #[.int .i64 a,.int .i64 b] w fun e w'=>e = .returned (.int .i64 ((2*a+b)/(2*b)))∧w=w':=by
 go_enter Tryz.func192,Tryz.ntmps192
 go_wp2
 go_ret
 exact⟨rfl,rfl⟩
theorem uT (a b:Int) (w:World) (h0 : -1000000000≤a) (h1:a≤1000000000) (h2:1≤b) (h3:b≤1000000000) :
  Calls Tryz.prog 192 #[.int .i64 a,.int .i64 b] w fun e w'=>e = .returned (.int .i64 (rnd a b))∧w=w':=by
 by_cases h:a<0
 ·have e:rnd a b = -((2*(-a)+b) / (2*b)):=by simp[rnd,h]
  have q0:0≤(2*(-a)+b) / (2*b):=Int.ediv_nonneg (by omega) (by omega)
  have q1:(2*(-a)+b) / (2*b)≤3000000000:=Int.ediv_le_of_le_mul (by omega) (by omega)
  rw[e];clear e;go_enter Tryz.func192,Tryz.ntmps192
  go_wp2_with(go_at_call 192;refine(nL _ _ _ (by omega) (by omega) (by omega) (by omega)).mono ?_;rintro e w' ⟨rfl,rfl⟩)
  go_ret
  exact⟨rfl,rfl⟩
 ·have e:rnd a b=((2*a+b) / (2*b)):=by simp[rnd,h]
  rw[e];exact nL a b w (by omega) h1 h2 h3
set_option maxHeartbeats 400000 in
theorem xG (p:Piece) (m:Int) (w:World) (h0 : -10000≤m) (h1:m≤10000) (ht:tOk p) :
  Calls Tryz.prog 135 #[.agg #[.int .i64 p.len,.int .i64 p.turn,.int .i64 p.rad,.int .i64 p.wid,.int .i64 p.sur],.int .i64 m] w fun e w'=>e = .returned (.int .i64 (trn p m))∧Below w.heap.size w w':=by
 obtain⟨ht0,ht1,hr⟩:=ht;have hbd:=wY p m h0 h1 ⟨ht0,ht1,hr⟩;by_cases h:p.turn=0
 ·have e:trn p m=0:=by simp[trn,h]
  rw[e];clear e hr hbd;go_enter Tryz.func135,Tryz.ntmps135
  go_wp2
  go_ret
  exact⟨rfl,(Below.refl _ _).alloc (Nat.le_refl _) _⟩
 ·obtain⟨hr1,hr2⟩:=hr h
  have hne:(p.turn == 0)=false:=by simpa using h
  have hq:=aAw (1000*m) p.rad (by omega) (by omega) (by omega) (by omega)
  have hq1:=hq.1;have hq2:=hq.2;have hb:trn p m=p.turn*rnd (1000*m) p.rad:=by simp[trn,h]
  rw[hb]at hbd ⊢;have hm1:=hbd.1;have hm2:=hbd.2;clear hq h hb hbd hr;go_enter Tryz.func135,Tryz.ntmps135
  go_wp2
  go_quiet((go_at_call 192;exact Calls.quiet_of_same ((uT _ _ _ (by omega) (by omega) (by omega) (by omega)).mono fun _ _ ⟨a,b⟩=>⟨a,b.symm⟩)))
  go_wp2
  go_ret
  exact⟨rfl,aD ((Below.refl _ _).alloc (Nat.le_refl _) _) _⟩
set_option maxHeartbeats 400000 in
theorem rD (p:Piece) (w:World) :
  Calls Tryz.prog 130 #[.agg #[.int .i64 p.len,.int .i64 p.turn,.int .i64 p.rad,.int .i64 p.wid,.int .i64 p.sur]] w fun e w'=>e = .returned (.bool (pOk p))∧Below w.heap.size w w':=by
 go_enter Tryz.func130,Tryz.ntmps130
 go_wp2_with(go_at_call 51;refine(aW _ _ _ _).mono ?_;rintro e w' ⟨rfl,rfl⟩)
 all_goals (go_ret;exact⟨cN (by simp_all [pOk]),(Below.refl _ _).alloc (Nat.le_refl _) _⟩)
set_option maxHeartbeats 400000 in
theorem rE (p:Piece) (w:World) :
  Calls Tryz.prog 116 #[.agg #[.int .i64 p.len,.int .i64 p.turn,.int .i64 p.rad,.int .i64 p.wid,.int .i64 p.sur]] w fun e w'=>e = .returned (.bool (pOk p))∧Below w.heap.size w w':=by
 go_enter Tryz.func116,Tryz.ntmps116
 go_wp2_with(go_at_call 115;refine(dP _ _ _ _).mono ?_;rintro e w' ⟨rfl,rfl⟩)
 all_goals (go_ret;exact⟨cN (by first|(simp_all [pOk];done)|(simp_all [pOk];rw[Bool.eq_iff_iff];simp)),(Below.refl _ _).alloc (Nat.le_refl _) _⟩)
end Go.Proofs.YtjlkeoppppfeiaaGreat
namespace Go.Proofs.YtjlkeoppppfeiaaGreat
open Go.RowKit Go.Proofs
theorem yX:(Tryz.prog.info? 3).map (fun i=>(i.zero,i.size,i.bytes))=some (some (.int .i64 0),1,8):=by kernel_rfl
def aBM (pa:Option Addr) (pn pc:Nat) (ca:Option Addr) (cn cc:Nat) (ja:Option Addr) (jn jc:Nat) (R:Road) (w:World) (e:Ending) (w':World):Prop:=
 ∃g ba bc,e = .returned (.pointer (some ⟨g,0,none⟩))∧MS w' w'.heap.size g pa pn pc ca cn cc ja jn jc ba bc R∧w.heap.size≤g∧Below w.heap.size w w'
set_option maxHeartbeats 2000000 in
theorem fR (pa:Option Addr) (pn pc:Nat) (ca:Option Addr) (cn cc:Nat) (ja:Option Addr) (jn jc:Nat) (R:Road) (w:World)
  (h:RD w w.heap.size pa pn ca cn ja jn R) (hk:∀p∈R.ps,pOk p=true) (hl:pn≤100000) :
  Calls Tryz.prog 118 #[.agg #[.slice pa pn pc,.slice ca cn cc,.slice ja jn jc]] w (aBM pa pn pc ca cn cc ja jn jc R w):=by
 obtain⟨hP,hC,hJ⟩:=h;have hlp:=Lib.hid hP.1;have hk':=Lib.hid hk;clear hk;go_enter Tryz.func118,Tryz.ntmps118
 go_wp2_with fail
 go_loopw [4,13] (fun s i wr=>∃(k:Nat) (A:Option Addr) (c:Nat),k≤pn∧i = .int .i64 k∧s = .int .i64 (sumL (R.ps.take k))∧BK wr (w.heap.size+1) 229 #[.slice pa pn pc,.slice ca cn cc,.slice ja jn jc,.slice A k c] ∧
   OW iC 1 3 (w.heap.size+2) wr A k c (bgk R.ps k)∧Below (w.heap.size+1) (w.alloc (.cells #[.slice pa pn pc,.slice ca cn cc,.slice ja jn jc] 26)) wr)
  (fun _ i _=>pn-(intOf i).toNat)
 case atStart=>
  refine⟨0,none,0,Nat.zero_le _,rfl,rfl,?_,OW.nil_,(Below.refl _ _).alloc (by simp) _⟩
  have:=BK.new (w.alloc (.cells #[.slice pa pn pc,.slice ca cn cc,.slice ja jn jc] 26)) 229 #[.slice pa pn pc,.slice ca cn cc,.slice ja jn jc,.slice none 0 0];rw[World.size_alloc]at this;exact this
 case round=>
  obtain⟨k,A,c,hkn,rfl,rfl,hm,how,hb⟩:=hrel;have hW0:Below w.heap.size w (w.alloc (.cells #[.slice pa pn pc,.slice ca cn cc,.slice ja jn jc] 26)):=(Below.refl w.heap.size w).alloc (Nat.le_refl _) _;have hBr:Below w.heap.size w wr:=hW0.trans (hb.mono (by omega))
  have hsz:=hm.lt;have m3:wr.cell? ⟨w.heap.size+1,3,none⟩=some (.slice A k c):=hm.cell 3;have f3:=hm.frozen 3;have hbd0:0≤sumL (R.ps.take k)∧sumL (R.ps.take k)≤500000000:=by
   have h1:=eO (R.ps.take k) (fun p hp=>hk'.out p (List.mem_of_mem_take hp))
   have h2:(R.ps.take k).length≤k:=List.length_take_le ..;omega
  have hbd1:=hbd0.1;have hbd2:=hbd0.2;clear hbd0;by_cases hlt:k<pn
  ·have hkl:k<R.ps.length:=by rw[←hlp.out];exact hlt
   have hw:=hP.grow hBr hBr.size;obtain⟨b,off,hA,hbB,c0,c1,c2,c3,c4⟩:=PS.at_ hw (k:=k) hkl;have hst:=Lib.hid (dH R.ps k hkl);have hpl:=aP (hk'.out _ (List.getElem_mem hkl))
   generalize R.ps[k]'hkl=p at c0 c1 c2 c3 c4 hst hpl
   have hp1:=hpl.1;have hp2:=hpl.2;clear hw hkl hpl;subst hA;go_wp2_with(at_builtin;refine nJ rfl _ _ 27 rfl (w.heap.size+2) 3 _ 1 8 Tryz.underlying27 yX rfl (by decide) iC _ A k c (bgk R.ps k) rfl (how.alloc _) (sumL (R.ps.take k)) _ rfl rfl 3 _ rfl (by simp) (by simp[iC,Value.oneCell']) (by omega) (by omega) (by simp;omega) ?_;intro g c' w1 hown1 hbl hfar hlt1;have hcl:w1.cell? ⟨wr.heap.size,0,none⟩=some (.int .i64 p.len):=(World.cell?_of_block (hfar wr.heap.size (by simp) (fun g hg=>by have:=(how.lt hg).2;omega))).trans (by simp);have hm1:=hm.alloc (.cells #[.int .i64 p.len,.int .i64 p.turn,.int .i64 p.rad,.int .i64 p.wid,.int .i64 p.sur] 112) |>.same (hfar (w.heap.size+1) (by simp;omega) (fun g hg=>by have:=(how.lt hg).1;omega));have m31:=hm1.cell 3;have f31:=hm1.frozen 3;clear hfar)
   have hgl:=(hown1.lt rfl).1;have hb2:Below (w.heap.size+1) (w.alloc (.cells #[.slice (some ⟨b,off,none⟩) pn pc,.slice ca cn cc,.slice ja jn jc] 26)) w1:=(hb.alloc (by omega) _).trans (hbl.mono (by omega))
   go_roundw
   case rel=>exact⟨k+1,_,_,by omega,by go_num,by rw[hst.out],hm1.set_ 3 _,by rw[uH];exact hown1.setCell (fun g hg=>by cases hg;simp;simp at hgl;omega) _,hb2.setCell (by simp) _⟩
   case measure=>simp[intOf];omega
  ·obtain rfl:k=pn:=by omega
   have HN:=Lib.hid (show sumL (R.ps.take k)=sumL R.ps by rw[hlp.out,List.take_length])
   go_wp2_with(at_builtin;refine nJ rfl _ _ 27 rfl (w.heap.size+2) 3 _ 1 8 Tryz.underlying27 yX rfl (by decide) iC _ A k c (bgk R.ps k) rfl how (sumL (R.ps.take k)) _ rfl rfl 3 _ rfl (by simp) (by simp[iC,Value.oneCell']) (by omega) (by omega) (by omega) ?_;intro g c' w1 hown1 hbl hfar hlt1;have hm1:=hm.same (hfar (w.heap.size+1) (by omega) (fun g hg=>by have:=(how.lt hg).1;omega));have m31:=hm1.cell 3;have f31:=hm1.frozen 3;clear hfar)
   have hm2:=hm1.set_ 3 (.slice (some ⟨g,0,none⟩) (k+1) c');have how2:OW iC 1 3 (w.heap.size+2) (w1.setCell ⟨w.heap.size+1,3,none⟩ (.slice (some ⟨g,0,none⟩) (k+1) c')) (some ⟨g,0,none⟩) (k+1) c' (bgk R.ps (k+1)):=by
    have hgl:=(hown1.lt rfl).1;rw[uH];exact hown1.setCell (fun g hg=>by cases hg;simp;simp at hgl;omega) _
   have hb2:Below w.heap.size w (w1.setCell ⟨w.heap.size+1,3,none⟩ (.slice (some ⟨g,0,none⟩) (k+1) c')):=(hBr.trans (hbl.mono (by omega))).setCell (by simp) _
   go_ret
   refine⟨w.heap.size+1,some ⟨g,0,none⟩,c',rfl,⟨hm2.lt,?_,?_,?_,?_,(RD.mk hP hC hJ).grow hb2 hb2.size,how2.sl aD0⟩,by omega,hb2⟩
   ·exact hm2.cell 0
   ·exact hm2.cell 1
   ·exact hm2.cell 2
   ·exact hm2.cell 3
theorem iW (g:Nat) (pa:Option Addr) (pn pc:Nat) (ca:Option Addr) (cn cc:Nat) (ja:Option Addr) (jn jc:Nat) (ba:Option Addr) (bc:Nat) (R:Road) (w:World) (B:Nat)
  (h:MS w B g pa pn pc ca cn cc ja jn jc ba bc R) (hl:pn≤100000) :
  Calls Tryz.prog 119 #[.pointer (some ⟨g,0,none⟩)] w fun e w'=>e = .returned (.int .i64 (sumL R.ps))∧∃n,w'=w.drewN n:=by
 have h0:=h.c0;have h3:=h.c3;have hpn:=h.r.p.1;obtain⟨b,off,hA,hbB,hc⟩:=IS.at_ h.b (k:=pn) (by rw[oG];omega)
 rw[wZ]at hc;have e:sumL (R.ps.take pn)=sumL R.ps:=by rw[hpn,List.take_length]
 rw[e]at hc;have hlt:(pn:Int)<(pn:Int)+1:=by omega
 have hge:(0:Int)≤pn:=by omega
 clear h e hpn;subst hA;go_enter Tryz.func119,Tryz.ntmps119
 go_wp2
 go_quiet(fail)
 go_wp2
 go_ret
 exact⟨rfl,_,rfl⟩
end Go.Proofs.YtjlkeoppppfeiaaGreat
