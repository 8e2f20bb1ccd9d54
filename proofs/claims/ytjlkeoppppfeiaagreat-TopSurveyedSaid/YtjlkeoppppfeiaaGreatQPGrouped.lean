/- Lemmas. -/
import Derived.Test.YtjlkeoppppfeiaaGreatQAlike
import Derived.Test.YtjlkeoppppfeiaaGreatQGrouped
import Derived.Test.YtjlkeoppppfeiaaGreatQAppS
import Derived.Deep.RegionLaw
namespace Go.Proofs.YtjlkeoppppfeiaaGreat
open Go.RowKit Go.Shelf Go.Sort Go.Proofs
theorem addP_flat (gs:List (List Piece)) (x:Piece):(addP gs x).flatten=gs.flatten++[x]:=by
 unfold addP
 split
 ·rename_i y hy
  split
  ·cases hg:gs.getLast? with
   |none=>rw[hg]at hy;cases hy
   |some g=>
    obtain⟨ds,rfl⟩ : ∃ds,gs=ds++[g]:=⟨gs.dropLast,by rw[List.getLast?_eq_some_iff]at hg;obtain⟨d,rfl⟩:=hg;simp⟩
    simp
  ·simp
 ·simp
theorem gK (l:List Piece):(eX l).flatten=l:=by
 have key:∀(l:List Piece) (gs:List (List Piece)),(l.foldl (addP) gs).flatten=gs.flatten++l:=by
  intro l
  induction l with
  |nil=>intro gs;simp
  |cons x l ih=>intro gs;rw[List.foldl_cons,ih,addP_flat];simp
 have:=key l [];simpa[eX]using this
theorem aBk (gs:List (List Piece)) (x:Piece):(addP gs x).length≤gs.length+1:=by
 unfold addP
 split
 ·split
  ·simp
  ·simp
 ·simp
theorem vK (l:List Piece):(eX l).length≤l.length:=by
 have key:∀(l:List Piece) (gs:List (List Piece)),(l.foldl (addP) gs).length≤gs.length+l.length:=by
  intro l
  induction l with
  |nil=>intro gs;simp
  |cons x l ih=>intro gs;rw[List.foldl_cons,List.length_cons];have:=ih (addP gs x);have:=aBk gs x;omega
 have:=key l [];simpa[eX]using this
theorem rS (l:List Piece) {g:List Piece} (h:g∈eX l):g.length≤l.length:=by
 rw[←gK l]
 conv=>rhs;rw[gK]
 have h2:g.length≤(eX l).flatten.length:=by
  obtain⟨s,t,e⟩:=List.append_of_mem h;rw[e];simp;omega
 rwa [gK]at h2
set_option maxRecDepth 100000 in
set_option maxHeartbeats 4000000 in
theorem tG (A:Option Addr) (n c:Nat) (bs:List Piece) (w:World) (hb:SL pC 5 w w.heap.size A n bs) (hn:n≤100000) :
  Calls Tryz.prog 121 #[.slice A n c,.func (.func 122) #[] #[]] w fun e w'=>
   ∃A' n' c' gs,e = .returned (.slice A' n' c')∧GP w' w.heap.size A' n' c' gs∧gs.map (·.2)=eX bs∧Below w.heap.size w w':=by
 have hlb:=Lib.hid hb.1;have hmo:Tryz.prog.follows .mixedOrders=true:=by kernel_rfl
 go_enter Tryz.func121,Tryz.ntmps121
 go_wp2_with fail
 go_loopw [5,10] (fun o i wr=>∃(k:Nat) (A':Option Addr) (n' c':Nat) (gs:List (Hdr×List Piece)),k≤n∧i = .int .i64 k∧o = .slice A' n' c'∧GP wr w.heap.size A' n' c' gs∧Hid (gs.map (·.2)=eX (bs.take k))∧Below w.heap.size w wr)
  (fun _ i _=>n-(intOf i).toNat)
 case atStart=>exact⟨0,none,0,0,[],Nat.zero_le _,rfl,rfl,GP.nil_ _ _,rfl,Below.refl _ _⟩
 case round=>
  obtain⟨k,A',n',c',gs,hk,rfl,rfl,hG,hgs,hbr⟩:=hrel;have hsz:=hbr.size;by_cases hlt:k<n
  ·have hkl:k<bs.length:=by rw[←hlb.out];exact hlt
   obtain⟨b,off,hA,hbB,hcells⟩:=(hb.grow hbr hsz).at_ hkl;have c0:wr.cell? ⟨b,off+k*5,none⟩=some (.int .i64 bs[k].len):=hcells 0 _ rfl;have c1:wr.cell? ⟨b,off+k*5+1,none⟩=some (.int .i64 bs[k].turn):=hcells 1 _ rfl;have c2:wr.cell? ⟨b,off+k*5+2,none⟩=some (.int .i64 bs[k].rad):=hcells 2 _ rfl;have c3:wr.cell? ⟨b,off+k*5+3,none⟩=some (.int .i64 bs[k].wid):=hcells 3 _ rfl;have c4:wr.cell? ⟨b,off+k*5+4,none⟩=some (.int .i64 bs[k].sur):=hcells 4 _ rfl;have htk:bs.take (k+1)=bs.take k++[bs[k]]:=by rw[List.take_add_one,List.getElem?_eq_getElem hkl];rfl
   have hgl:gs.length≤k:=by
    have h1:=congrArg List.length hgs.out;have h2:=vK (bs.take k);rw[List.length_map]at h1;have h3:(bs.take k).length≤k:=List.length_take_le ..;omega
   have hnl:n'≤k:=by have:=hG.out.len;rw[List.length_map]at this;omega
   have hprev:0<k→∃(y:Piece) (dsP:List (Hdr×List Piece)) (qq:Hdr×List Piece) (g0:List Piece),gs=dsP++[qq]∧qq.2=g0++[y]∧Hid (dsP.map (·.2)++[g0++[y]]=eX (bs.take k)) ∧
     wr.cell? ⟨b,off+(k-1)*5,none⟩=some (.int .i64 y.len)∧wr.cell? ⟨b,off+(k-1)*5+1,none⟩=some (.int .i64 y.turn)∧wr.cell? ⟨b,off+(k-1)*5+2,none⟩=some (.int .i64 y.rad) ∧
     wr.cell? ⟨b,off+(k-1)*5+3,none⟩=some (.int .i64 y.wid)∧wr.cell? ⟨b,off+(k-1)*5+4,none⟩=some (.int .i64 y.sur):=by
    intro h0;have hk1:k-1<bs.length:=by omega
    obtain⟨b',off',hA',_,hc'⟩:=(hb.grow hbr hsz).at_ hk1;rw[hA]at hA';cases hA'
    have e1:bs.take k=bs.take (k-1)++[bs[k-1]]:=by
     have:bs.take (k-1+1)=bs.take (k-1)++[bs[k-1]]:=by rw[List.take_add_one,List.getElem?_eq_getElem hk1];rfl
     rwa [show k-1+1=k by omega]at this
    obtain⟨ds,g,e2⟩:=z7 (bs.take (k-1)) bs[k-1];have e3:=hgs.out;rw[e1,e2]at e3;obtain⟨dsP,q1,rfl,e4,e5⟩:=List.map_eq_append_iff.1 e3;obtain⟨qq,rfl,e6⟩:=List.map_eq_singleton_iff.1 e5;exact⟨bs[k-1],dsP,qq,g,rfl,e6,by rw[e1,e2,e4];exact rfl,hc' 0 _ rfl,hc' 1 _ rfl,hc' 2 _ rfl,hc' 3 _ rfl,hc' 4 _ rfl⟩
   have hnew:Hid (eX (bs.take (k+1))=addP (eX (bs.take k)) bs[k]):=by rw[htk];exact qS _ _
   generalize bs[k]'hkl=x at c0 c1 c2 c3 c4 htk hnew
   subst hA;clear hcells htk;have hG1:=hG.call ((Below.refl wr.heap.size wr).alloc (Nat.le_refl _) (.cells #[.int .i64 x.len,.int .i64 x.turn,.int .i64 x.rad,.int .i64 x.wid,.int .i64 x.sur] 112));go_wp2_with fail
   by_cases hk0:k=0
   ·go_quiet(fail)
    obtain⟨w2,hw2⟩ : ∃w2,w2=(wr.alloc (.cells #[.int .i64 x.len,.int .i64 x.turn,.int .i64 x.rad,.int .i64 x.wid,.int .i64 x.sur] 112)).drewN nq:=⟨_,rfl⟩
    have hb2:Below wr.heap.size wr w2:=by rw[hw2];exact aD ((Below.refl _ _).alloc (Nat.le_refl _) _) _
    have HG2:Hid (GP w2 w.heap.size A' n' c' gs):=hG.call hb2;have HX2:Hid (BK w2 wr.heap.size 112 #[.int .i64 x.len,.int .i64 x.turn,.int .i64 x.rad,.int .i64 x.wid,.int .i64 x.sur]):=by rw[hw2];exact(BK.new wr _ _).drewN nq
    have HB2:Hid (Below w.heap.size w w2):=hbr.trans (hb2.mono hsz);have hsz2b:wr.heap.size<w2.heap.size:=HX2.out.lt;have Hnew7:Hid ((gs++[(⟨some ⟨w2.heap.size,0,none⟩,1,1⟩,[x])]:List (Hdr×List Piece)).map (·.2)=eX (bs.take (k+1))):=by
     have h1:=hgs.out;subst hk0;have:gs=[]:=by simpa[eX]using h1
     subst this;rw[hnew.out];exact rfl
    rw[←hw2];clear hw2 hprev hnew hgs hG hG1 c0 c1 c2 c3 c4;have hX2:BK w2 wr.heap.size 112 #[.int .i64 x.len,.int .i64 x.turn,.int .i64 x.rad,.int .i64 x.wid,.int .i64 x.sur]:=HX2.out;have x0:=hX2.cell 0;have x1:=hX2.cell 1;have x2:=hX2.cell 2;have x3:=hX2.cell 3;have x4:=hX2.cell 4;simp only[List.getElem?_toArray,List.getElem?_cons_zero,List.getElem?_cons_succ]at x0 x1 x2 x3 x4
    have hsz2:=HB2.out.size;have hN1:BK ((w2.alloc (.cells #[.int .i64 x.len,.int .i64 x.turn,.int .i64 x.rad,.int .i64 x.wid,.int .i64 x.sur] 112)).alloc (.cells #[.slice (some ⟨w2.heap.size,0,none⟩) 1 1] 22)) (w2.heap.size+1) 22 #[.slice (some ⟨w2.heap.size,0,none⟩) 1 1]:=by
     have:=BK.new (w2.alloc (.cells #[.int .i64 x.len,.int .i64 x.turn,.int .i64 x.rad,.int .i64 x.wid,.int .i64 x.sur] 112)) 22 #[.slice (some ⟨w2.heap.size,0,none⟩) 1 1];rw[World.size_alloc]at this;exact this
    have hN0:BK ((w2.alloc (.cells #[.int .i64 x.len,.int .i64 x.turn,.int .i64 x.rad,.int .i64 x.wid,.int .i64 x.sur] 112)).alloc (.cells #[.slice (some ⟨w2.heap.size,0,none⟩) 1 1] 22)) w2.heap.size 112 #[.int .i64 x.len,.int .i64 x.turn,.int .i64 x.rad,.int .i64 x.wid,.int .i64 x.sur]:=(BK.new w2 _ _).alloc _;have hbb:=((Below.refl w2.heap.size w2).alloc (Nat.le_refl _) (.cells #[.int .i64 x.len,.int .i64 x.turn,.int .i64 x.rad,.int .i64 x.wid,.int .i64 x.sur] 112)).alloc (by simp) (.cells #[.slice (some ⟨w2.heap.size,0,none⟩) 1 1] 22)
    have hGo:=((HG2.out).call hbb).out;go_wp2_with(at_builtin;refine aT rfl _ _ 230 rfl w.heap.size 22 _ 1 24 Tryz.underlying230 aAr rfl (by decide) hC A' n' c' (gs.map (·.1)) rfl hGo ⟨some ⟨w2.heap.size,0,none⟩,1,1⟩ #[.slice (some ⟨w2.heap.size,0,none⟩) 1 1] rfl rfl 22 (w2.heap.size+1) rfl hN1 (by simp[hC,Value.oneCell']) (by omega) (by omega) (by simp;omega) ?_;intro g c'' w3 hap;have HAP:=Lib.hid hap;clear hap)
    go_roundw
    case rel=>
     have hap:=HAP.out;have hAA:∀b,A'=some b→b.block<w2.heap.size:=fun b hb=>(HG2.out.out.lt hb).2
     refine⟨k+1,_,_,_,gs++[(⟨some ⟨w2.heap.size,0,none⟩,1,1⟩,[x])],hlt,by go_num,rfl,HG2.out.push (Nat.le_refl _) (fun j hj hne=>?_) ((OW.one hN0 rfl rfl (by omega)).keep (fun g hg=>?_)) hap.own ?_,?_,(HB2.out.trans (hbb.mono hsz2)).trans hap.bel⟩
     ·rw[hap.far j (by simp;omega) hne];exact hbb.block j hj
     ·cases hg
      exact hap.far _ (by simp;omega) (fun b hb e=>by have:=hAA b hb;simp only at e;omega)
     ·rcases hap.at_ with h|h
      ·exact .inl h
      ·exact .inr (by rw[h];simp only[World.size_alloc];omega)
     ·exact Hnew7.out
    case measure=>simp[intOf];omega
   ·obtain⟨y,dsP,qq,g0,hgsE,hqq,hcat,d0,d1,d2,d3,d4⟩:=hprev (by omega)
    obtain⟨w1,hw1⟩ : ∃w1,w1=wr.alloc (.cells #[.int .i64 x.len,.int .i64 x.turn,.int .i64 x.rad,.int .i64 x.wid,.int .i64 x.sur] 112):=⟨_,rfl⟩
    have hb1:Below wr.heap.size wr w1:=by rw[hw1];exact(Below.refl _ _).alloc (Nat.le_refl _) _
    have hX1:BK w1 wr.heap.size 112 #[.int .i64 x.len,.int .i64 x.turn,.int .i64 x.rad,.int .i64 x.wid,.int .i64 x.sur]:=by rw[hw1];exact BK.new wr _ _
    rw[←hw1];clear hw1;have x0:=hX1.cell 0;have x1:=hX1.cell 1;have x2:=hX1.cell 2;have x3:=hX1.cell 3;have x4:=hX1.cell 4;simp only[List.getElem?_toArray,List.getElem?_cons_zero,List.getElem?_cons_succ]at x0 x1 x2 x3 x4
    have d0:=(bc hb1 hbB).trans d0;have d1:=(bc hb1 hbB).trans d1;have d2:=(bc hb1 hbB).trans d2;have d3:=(bc hb1 hbB).trans d3;have d4:=(bc hb1 hbB).trans d4;have k0:=fun d os=>cell_regrown d0 d os
    have k1:=fun d os=>cell_regrown d1 d os
    have k2:=fun d os=>cell_regrown d2 d os
    have k3:=fun d os=>cell_regrown d3 d os
    have k4:=fun d os=>cell_regrown d4 d os
    have l0:=fun d os=>cell_regrown x0 d os
    have l1:=fun d os=>cell_regrown x1 d os
    have l2:=fun d os=>cell_regrown x2 d os
    have l3:=fun d os=>cell_regrown x3 d os
    have l4:=fun d os=>cell_regrown x4 d os
    have HT:=Lib.hid (fun(W:World)=>aAp y x W)
    have hk1:0<k:=by omega
    have hwk:IntKind.i64.wrap ((k:Int)-1)=(k:Int)-1:=IntWalk.i64_in _ (by omega)
    have hik1:(1:Int)≤(k:Int):=by omega
    have hik2:(k:Int)-1<n:=by omega
    have hik3:((k:Int)-1).toNat=k-1:=by omega
    refine dW 11 hmo (by kernel_rfl) ?_
    simp only[List.take_succ_cons,List.take_zero,List.drop_succ_cons,List.drop_zero]
    repeat (quiet_step ((go_at_call 122;exact Calls.regrown_of (HT.out _))))
    refine wpQuiet_nil ?_
    intro w2 hbw;have hbw2:Below wr.heap.size wr w2:=hb1.trans (hbw.mono hb1.size);have HG2:Hid (GP w2 w.heap.size A' n' c' gs):=hG.call hbw2;have HX2:Hid (BK w2 wr.heap.size 112 #[.int .i64 x.len,.int .i64 x.turn,.int .i64 x.rad,.int .i64 x.wid,.int .i64 x.sur]):=hX1.below hbw hX1.lt;have HB2:Hid (Below w.heap.size w w2):=hbr.trans (hbw2.mono hsz);have hsz2b:wr.heap.size<w2.heap.size:=HX2.out.lt;have HE:=Lib.hid hgsE;have HQ:=Lib.hid hqq;clear hprev hgs hG hG1 c0 c1 c2 c3 c4 d0 d1 d2 d3 d4 k0 k1 k2 k3 k4 l0 l1 l2 l3 l4 x0 x1 x2 x3 x4 hwk hik1 hik2 hik3 HT hbw hb1 hX1 hgsE hqq;cases htg:alk y x
    ·have Hnew7:Hid ((gs++[(⟨some ⟨w2.heap.size,0,none⟩,1,1⟩,[x])]:List (Hdr×List Piece)).map (·.2)=eX (bs.take (k+1))):=by
      rw[hnew.out,←hcat.out,addP_at,htg,HE.out];show _=_
      simp[HQ.out]
     clear hnew hcat htg;have hX2:BK w2 wr.heap.size 112 #[.int .i64 x.len,.int .i64 x.turn,.int .i64 x.rad,.int .i64 x.wid,.int .i64 x.sur]:=HX2.out;have x0:=hX2.cell 0;have x1:=hX2.cell 1;have x2:=hX2.cell 2;have x3:=hX2.cell 3;have x4:=hX2.cell 4;simp only[List.getElem?_toArray,List.getElem?_cons_zero,List.getElem?_cons_succ]at x0 x1 x2 x3 x4
     have hsz2:=HB2.out.size;have hN1:BK ((w2.alloc (.cells #[.int .i64 x.len,.int .i64 x.turn,.int .i64 x.rad,.int .i64 x.wid,.int .i64 x.sur] 112)).alloc (.cells #[.slice (some ⟨w2.heap.size,0,none⟩) 1 1] 22)) (w2.heap.size+1) 22 #[.slice (some ⟨w2.heap.size,0,none⟩) 1 1]:=by
      have:=BK.new (w2.alloc (.cells #[.int .i64 x.len,.int .i64 x.turn,.int .i64 x.rad,.int .i64 x.wid,.int .i64 x.sur] 112)) 22 #[.slice (some ⟨w2.heap.size,0,none⟩) 1 1];rw[World.size_alloc]at this;exact this
     have hN0:BK ((w2.alloc (.cells #[.int .i64 x.len,.int .i64 x.turn,.int .i64 x.rad,.int .i64 x.wid,.int .i64 x.sur] 112)).alloc (.cells #[.slice (some ⟨w2.heap.size,0,none⟩) 1 1] 22)) w2.heap.size 112 #[.int .i64 x.len,.int .i64 x.turn,.int .i64 x.rad,.int .i64 x.wid,.int .i64 x.sur]:=(BK.new w2 _ _).alloc _;have hbb:=((Below.refl w2.heap.size w2).alloc (Nat.le_refl _) (.cells #[.int .i64 x.len,.int .i64 x.turn,.int .i64 x.rad,.int .i64 x.wid,.int .i64 x.sur] 112)).alloc (by simp) (.cells #[.slice (some ⟨w2.heap.size,0,none⟩) 1 1] 22)
     have hGo:=((HG2.out).call hbb).out;go_wp2_with(at_builtin;refine aT rfl _ _ 230 rfl w.heap.size 22 _ 1 24 Tryz.underlying230 aAr rfl (by decide) hC A' n' c' (gs.map (·.1)) rfl hGo ⟨some ⟨w2.heap.size,0,none⟩,1,1⟩ #[.slice (some ⟨w2.heap.size,0,none⟩) 1 1] rfl rfl 22 (w2.heap.size+1) rfl hN1 (by simp[hC,Value.oneCell']) (by omega) (by omega) (by simp;omega) ?_;intro g c'' w3 hap;have HAP:=Lib.hid hap;clear hap)
     go_roundw
     case rel=>
      have hap:=HAP.out;have hAA:∀b,A'=some b→b.block<w2.heap.size:=fun b hb=>(HG2.out.out.lt hb).2
      refine⟨k+1,_,_,_,gs++[(⟨some ⟨w2.heap.size,0,none⟩,1,1⟩,[x])],hlt,by go_num,rfl,HG2.out.push (Nat.le_refl _) (fun j hj hne=>?_) ((OW.one hN0 rfl rfl (by omega)).keep (fun g hg=>?_)) hap.own ?_,?_,(HB2.out.trans (hbb.mono hsz2)).trans hap.bel⟩
      ·rw[hap.far j (by simp;omega) hne];exact hbb.block j hj
      ·cases hg
       exact hap.far _ (by simp;omega) (fun b hb e=>by have:=hAA b hb;simp only at e;omega)
      ·rcases hap.at_ with h|h
       ·exact .inl h
       ·exact .inr (by rw[h];simp only[World.size_alloc];omega)
      ·exact Hnew7.out
     case measure=>simp[intOf];omega
    ·have Hnew6:Hid (∀h:Hdr,(dsP++[(h,qq.2++[x])]:List (Hdr×List Piece)).map (·.2)=eX (bs.take (k+1))):=by
      intro h;rw[hnew.out,←hcat.out,addP_at,htg];simp[HQ.out]
     clear hnew hcat htg;have hg2:=HG2.out;rw[HE.out]at hg2;have hqm:qq∈dsP++[qq]:=by simp
     have hOq:=(hg2.grp qq hqm).1;have hOq2:qq.1.n≤k:=by
      have h1:=hOq.len;have h2:=rS (bs.take (k+1)) (g:=qq.2++[x]) (by rw[←Hnew6.out ⟨none,0,0⟩];simp)
      have h3:(bs.take (k+1)).length≤k+1:=List.length_take_le ..;simp at h2;omega
     have hnn:n'=dsP.length+1:=by have:=hg2.out.len;simpa using this
     obtain⟨a0,hA0⟩ : ∃a0,A'=some a0:=by
      cases A' with
      |none=>have:=hg2.out.none_.1;omega
      |some a0=>exact⟨a0,rfl⟩
     obtain⟨b0,rfl,hb0,hbb0,hfz,hrow⟩:=hg2.out.at_ mM a0 hA0;subst hA0;have hh:=hrow (n'-1) qq.1 (by rw[hnn];simp) 0 _ rfl
     have hfh:=hfz (n'-1);have hX2:BK w2 wr.heap.size 112 #[.int .i64 x.len,.int .i64 x.turn,.int .i64 x.rad,.int .i64 x.wid,.int .i64 x.sur]:=HX2.out;have x0:=hX2.cell 0;have x1:=hX2.cell 1;have x2:=hX2.cell 2;have x3:=hX2.cell 3;have x4:=hX2.cell 4;simp only[List.getElem?_toArray,List.getElem?_cons_zero,List.getElem?_cons_succ]at x0 x1 x2 x3 x4
     obtain⟨⟨qA,qn,qc⟩,ql⟩:=qq;have hh:w2.cell? ⟨b0,n'-1,none⟩=some (.slice qA qn qc):=by rw[←hh];congr 1;simp
     have hOq:OW pC 5 112 w.heap.size w2 qA qn qc ql:=hOq;have hOq2:qn≤k:=hOq2;have hi1:(1:Int)≤(n':Int):=by omega
     have hi2:(n':Int)-1<n':=by omega
     have hi3:((n':Int)-1).toNat=n'-1:=by omega
     have hwn:IntKind.i64.wrap ((n':Int)-1)=(n':Int)-1:=IntWalk.i64_in _ (by omega)
     have HFZ:Hid (∀w3 g c'',App1 pC 5 112 w.heap.size (w2.drew.alloc (.cells #[.int .i64 x.len,.int .i64 x.turn,.int .i64 x.rad,.int .i64 x.wid,.int .i64 x.sur] 112)) qA qn qc ql x g c'' w3→w3.heap[b0]?=w2.heap[b0]?):=by
      intro w3 g c'' hap;rw[hap.far b0 (by simp;omega) (fun b hb=>hg2.off _ hqm b _ hb rfl)]
      exact Below.heap_alloc w2.drew _ _ hb0
     have HNN:=Lib.hid hnn;clear hnn;go_wp2_with fail
     go_region_law ((refine uO (by rfl) _ _ 22 (by rfl) w.heap.size 112 _ 5 40 Tryz.underlying22 yP rfl (by decide) pC qA qn qc ql (by rfl) ((hOq.drew).alloc _) x #[.int .i64 x.len,.int .i64 x.turn,.int .i64 x.rad,.int .i64 x.wid,.int .i64 x.sur] rfl rfl 112 w2.heap.size (by rfl) (BK.new w2.drew _ _) (by simp[pC,pC,Value.oneCell']) (by omega) (by omega) (by simp;omega) ?_;intro g c'' w3 hap;have HAP:=Lib.hid hap;have hf3:=(World.cell?_of_block (HFZ.out w3 _ _ hap)).trans hh;have hf4:=(World.frozen?_of_block (HFZ.out w3 _ _ hap)).trans hfh;clear hap))
     all_goals
      go_wp2_with fail
      go_roundw
      case rel=>
       have hap:=HAP.out;have hbd2:Below w2.heap.size w2 (w2.drew.alloc (.cells #[.int .i64 x.len,.int .i64 x.turn,.int .i64 x.rad,.int .i64 x.wid,.int .i64 x.sur] 112)):=((Below.refl _ w2).drew).alloc (Nat.le_refl _) _;refine⟨k+1,_,_,_,_,hlt,by go_num,rfl,(hg2.call hbd2).more hap b0 rfl ?_ (fun j hj=>Below.heap_setCell _ _ _ _ hj),Hnew6.out _,?_⟩
       ·have h1:=hg2.out.keep (w':=w3) (fun a ha=>by cases ha;exact HFZ.out w3 _ _ hap)
        have h2:=h1.set1 mM (n'-1) ⟨some ⟨g,0,none⟩,qn+1,c''⟩ _ rfl;have e1:((dsP++[(⟨qA,qn,qc⟩,ql)]:List (Hdr×List Piece)).map (·.1)).set (n'-1) ⟨some ⟨g,0,none⟩,qn+1,c''⟩=dsP.map (·.1)++[⟨some ⟨g,0,none⟩,qn+1,c''⟩]:=by
         rw[HNN.out];simp
        rw[e1]at h2;exact h2
       ·exact((HB2.out.trans (hbd2.mono HB2.out.size)).trans hap.bel).setCell hbb0 _
      case measure=>simp[intOf];omega
  ·obtain rfl:k=n:=by omega
   have hgs':Hid (gs.map (·.2)=eX bs):=by have:=hgs.out;rw[hlb.out,List.take_length]at this;exact this
   go_wp2_with fail
   go_ret
   exact⟨_,_,_,gs,rfl,hG,hgs'.out,hbr⟩
end Go.Proofs.YtjlkeoppppfeiaaGreat
