/- Lemmas. -/
import Derived.Test.YtjlkeoppppfeiaaGreatQOrdM
import Derived.Test.YtjlkeoppppfeiaaGreatQReg
import Derived.BigQuiet
import Derived.Sort.CutIn
namespace Go.Proofs.YtjlkeoppppfeiaaGreat
open Go.RowKit Go.Shelf Go.Proofs
attribute [local go_sem] Oper.semAt_some
theorem qE {ps qs:List Piece} {f i j:Nat} {fr:Int} (h:¬i<ps.length):strs ps qs f i j fr=[]:=by
 have hn:ps[i]?=none:=List.getElem?_eq_none (by omega)
 cases f with
 |zero=>rfl
 |succ f=>rw[strs,hn]
theorem j6 {ps qs:List Piece} {f i j:Nat} {fr:Int} (hi:i<ps.length) (hj:j<qs.length) {t:Int} (ht:t=min (sumL (ps.take (i+1))) (sumL (qs.take (j+1)))) :
  strs ps qs (f+1) i j fr=⟨fr,t,ps[i],qs[j]⟩::strs ps qs f (nxI ps i t) (nxI qs j t) t:=by
 have hpi:ps[i]?=some ps[i]:=List.getElem?_eq_getElem hi
 have hqj:qs[j]?=some qs[j]:=List.getElem?_eq_getElem hj
 rw[strs,hpi,hqj];simp only;rw[←ht]
theorem qF:∀(ps qs:List Piece) (f i j:Nat) (fr:Int),(strs ps qs f i j fr).length≤f
 |_,_,0,_,_,_=>Nat.le_refl _
 |ps,qs,f+1,i,j,fr=>by
  rw[strs]
  split
  ·have:=qF ps qs f (nxI ps i (min (sumL (ps.take (i+1))) (sumL (qs.take (j+1))))) (nxI qs j (min (sumL (ps.take (i+1))) (sumL (qs.take (j+1))))) (min (sumL (ps.take (i+1))) (sumL (qs.take (j+1))))
   simp only[List.length_cons];omega
  ·simp
theorem wQ (ps qs:List Piece):(strL ps qs).length≤ps.length+qs.length:=qF _ _ _ _ _ _
structure At2 (ps qs:List Piece) (pre:List Str) (i j:Nat) (fr:Int) (f:Nat):Prop where
 l1:Lie ps i fr
 l2:Lie qs j fr
 all:pre++strs ps qs f i j fr=strL ps qs
 fuel:(ps.length-i)+(qs.length-j)≤f
theorem At2.next {ps qs:List Piece} {pre:List Str} {i j f:Nat} {fr t:Int} (h:At2 ps qs pre i j fr f) (hp:∀q∈ps,1≤q.len) (hq:∀q∈qs,1≤q.len) (hi:i<ps.length) (hj:j<qs.length)
  (ht:t=min (sumL (ps.take (i+1))) (sumL (qs.take (j+1)))) :
  fr≤t∧t≤sumL ps∧0≤fr∧∃f',f=f'+1∧At2 ps qs (pre++[⟨fr,t,ps[i],qs[j]⟩]) (nxI ps i t) (nxI qs j t) t f':=by
 obtain⟨h1,h2,h3,h4⟩:=h;have t1:=h1.hi hi;have t2:=h2.hi hj;have t3:=iG hp (i+1);obtain⟨f',rfl⟩ : ∃f',f=f'+1:=⟨f-1,by omega⟩
 have a1:=mV ps i t;have a2:=mV qs j t;have a3:nxI ps i t=i+1∨nxI qs j t=j+1:=by
  unfold nxI;rcases Int.le_total (sumL (ps.take (i+1))) (sumL (qs.take (j+1))) with h|h
  ·exact .inl (if_pos (by omega))
  ·exact .inr (if_pos (by omega))
 refine⟨by omega,by omega,h1.nn,f',rfl,h1.next hp hi (by omega) (by omega),h2.next hq hj (by omega) (by omega),?_,by omega⟩
 rw[j6 hi hj ht]at h3;rw[←h3];simp
theorem At2.len {ps qs:List Piece} {pre:List Str} {i j f:Nat} {fr:Int} (h:At2 ps qs pre i j fr f) (hi:i<ps.length) (hj:j<qs.length):pre.length<ps.length+qs.length:=by
 have h1:=congrArg List.length h.all;have h2:=wQ ps qs;obtain⟨f',hf⟩ : ∃f',f=f'+1:=⟨f-1,by have:=h.fuel;omega⟩
 rw[hf,j6 hi hj rfl,List.length_append,List.length_cons]at h1;omega
theorem At2.pre_ {ps qs:List Piece} {pre:List Str} {i j f:Nat} {fr:Int} (h:At2 ps qs pre i j fr f):pre <+: strL ps qs:=⟨_,h.all⟩
set_option maxRecDepth 100000 in
set_option maxHeartbeats 4000000 in
theorem qR (n:Nat) (hn:1≤n) (l bm bm2 n0 g g2:Nat) (pa:Option Addr) (pn pc:Nat) (ca:Option Addr) (cn cc:Nat) (ja:Option Addr) (jn jc:Nat) (ba:Option Addr) (bq:Nat) (R:Road)
  (pa2:Option Addr) (pn2 pc2:Nat) (ca2:Option Addr) (cn2 cc2:Nat) (ja2:Option Addr) (jn2 jc2:Nat) (ba2:Option Addr) (bq2:Nat) (R2:Road)
  (hl:pn≤2000) (hl2:pn2≤2000) (hk:∀p∈R.ps,pOk p=true) (hk2:∀p∈R2.ps,pOk p=true) (hs:sumL R.ps=sumL R2.ps) (J Jx:List BS→World→Prop)
  (hJA:∀(s:List BS) (A B:World),J s A→A.grownBy B none→J s B)
  (hY:∀pre x W,J pre W→pre.length<pn+pn2→YieldAt Fence.wide (n-1) Tryz.prog l (bsV x) W fun e W'=>
   (e = .returned (.bool true)∧J (pre++[x]) W'∧KB2 n0 bm bm2 W W')∨(e = .returned (.bool false)∧Jx (pre++[x]) W'))
  (W:World) (hm:W.cell? ⟨bm,0,none⟩=some (.pointer (some ⟨g,0,none⟩))) (hm2:W.cell? ⟨bm2,0,none⟩=some (.pointer (some ⟨g2,0,none⟩))) (hbm:bm<W.heap.size) (hbm2:bm2<W.heap.size) (hn0:n0≤W.heap.size)
  (h:MS W n0 g pa pn pc ca cn cc ja jn jc ba bq R) (h2:MS W n0 g2 pa2 pn2 pc2 ca2 cn2 cc2 ja2 jn2 jc2 ba2 bq2 R2) (h0:J [] W) :
  CallsIn Fence.wide n Tryz.prog 120 #[.func (.yield l) #[] #[],.pointer (some ⟨bm,0,none⟩),.pointer (some ⟨bm2,0,none⟩)] W fun e W'=>(∃v,e = .returned v) ∧
   ((∃ys:List BS,ys.map (·.1)=strL R.ps R2.ps∧J ys W')∨(∃pre:List BS,pre.map (·.1) <+: strL R.ps R2.ps∧Jx pre W')):=by
 have hlp:=Lib.hid h.r.p.1;have hlp2:=Lib.hid h2.r.p.1;have hM:=Lib.hid h;have hM2:=Lib.hid h2;have g0:=h.c0;have g1:=h.lt;have g20:=h2.c0;have g21:=h2.lt;have hk':=Lib.hid hk;have hk2':=Lib.hid hk2;have hs':=Lib.hid hs;have hp1:=Lib.hid (fun q (hq:q∈R.ps)=>(aP (hk q hq)).1)
 have hp2:=Lib.hid (fun q (hq:q∈R2.ps)=>(aP (hk2 q hq)).1)
 have hsb:sumL R.ps≤500000000:=by have h1:=eO R.ps hk;have h2:=hlp.out;omega
 have hSB:=Lib.hid hsb;clear h h2 hk hk2 hs hsb;have hat0:Hid (At2 R.ps R2.ps [] 0 0 0 (R.ps.length+R2.ps.length)):=⟨Lie.start hp1.out,Lie.start hp2.out,rfl,by omega⟩
 have hmo:Tryz.prog.follows .mixedOrders=true:=by kernel_rfl
 refine callsIn_of_wp Tryz.func120 rfl trivial ?_ rfl
 simp only[Tryz.ntmps120,List.size_toArray,List.length_cons,List.length_nil,Nat.reduceAdd,Nat.reduceSub,Array.replicate_succ,Array.replicate_zero,List.push_toArray,List.append_toArray,List.nil_append,List.cons_append]
 gi_wp2
 gi_loopw [4,5,6] (fun i j fr wr=>∃(ki kj f:Nat) (fi:Int) (pre:List BS),i = .int .i64 ki∧j = .int .i64 kj∧fr = .int .i64 fi∧Hid (At2 R.ps R2.ps (pre.map (·.1)) ki kj fi f)∧J pre wr∧KB2 n0 bm bm2 W wr∧W.heap.size≤wr.heap.size)
  (fun i j _ _=>(pn+pn2)-((intOf i).toNat+(intOf j).toNat))
 case atStart=>exact⟨0,0,_,0,[],rfl,rfl,rfl,hat0,h0,KB2.refl _ _ _ _,Nat.le_refl _⟩
 case round=>
  obtain⟨k,kj,f,fi,pre,rfl,rfl,rfl,hat,hJs,hnx,hsz⟩:=hrel;have hkle:=hat.out.l1.le;have hkpn:k≤pn:=by rw[hlp.out];exact hkle
  have hkjle:=hat.out.l2.le;by_cases hlt:k<pn
  ·have hkl:k<R.ps.length:=by rw[←hlp.out];exact hlt
   have hkjl:kj<R2.ps.length:=hat.out.l1.both hat.out.l2 hs'.out hp1.out hkl;have hltj:kj<pn2:=by have:=hlp2.out;omega
   have hMw:=hM.out.grow hnx.1 (Nat.le_refl _);have hMw2:=hM2.out.grow hnx.1 (Nat.le_refl _);have m0:=hMw.c0;have m3:=hMw.c3;have m20:=hMw2.c0;have m23:=hMw2.c3;have hmw:wr.cell? ⟨bm,0,none⟩=_:=(World.cell?_of_block hnx.2.1).trans hm
   have hmw2:wr.cell? ⟨bm2,0,none⟩=_:=(World.cell?_of_block hnx.2.2).trans hm2
   obtain⟨b,off,hA,hbB,c0,c1,c2,c3',c4⟩:=PS.at_ hMw.r.p (k:=k) hkl;obtain⟨b2,off2,hA2,hbB2,d0,d1,d2,d3,d4⟩:=PS.at_ hMw2.r.p (k:=kj) hkjl;obtain⟨b3,off3,hA3,hbB3,e0⟩:=IS.at_ hMw.b (k:=k+1) (by rw[oG];omega)
   obtain⟨b4,off4,hA4,hbB4,e1⟩:=IS.at_ hMw2.b (k:=kj+1) (by rw[oG];omega)
   rw[wZ]at e0 e1;have hpk:=hk'.out _ (List.getElem_mem hkl);have hqk:=hk2'.out _ (List.getElem_mem hkjl);obtain⟨s1,hs1⟩ : ∃s,s=sumL (R.ps.take (k+1)):=⟨_,rfl⟩
   obtain⟨s2,hs2⟩ : ∃s,s=sumL (R2.ps.take (kj+1)):=⟨_,rfl⟩
   obtain⟨t,ht⟩ : ∃t,t=min s1 s2:=⟨_,rfl⟩
   obtain⟨ht1,ht2,ht0,f',hf,hat1⟩:=hat.out.next hp1.out hp2.out hkl hkjl (t:=t) (by rw[ht,hs1,hs2])
   have hlen:=hat.out.len hkl hkjl;rw[List.length_map,←hlp.out,←hlp2.out]at hlen;have hn1:Hid (nxI R.ps k t=if s1=t then k+1 else k):=by rw[hs1];exact rfl
   have hn2:Hid (nxI R2.ps kj t=if s2=t then kj+1 else kj):=by rw[hs2];exact rfl
   have hite:(if s2<s1 then s2 else s1)=t:=by rw[ht];split<;>omega
   rw[←hs1]at e0;rw[←hs2]at e1
   generalize R.ps[k]'hkl=p at c0 c1 c2 c3' c4 hpk hat1
   generalize R2.ps[kj]'hkjl=q at d0 d1 d2 d3 d4 hqk hat1
   have htm:t≤500000000:=by have:=hSB.out;omega
   have X:∃x:BS,x.1=⟨fi,t,p,q⟩:=⟨⟨⟨fi,t,p,q⟩,hpk,hqk,ht0,ht1,htm⟩,rfl⟩
   obtain⟨x,hx⟩:=X;have hz1:bm<wr.heap.size:=by omega
   have hz2:bm2<wr.heap.size:=by omega
   have hi1:(0:Int)≤(k:Int):=by omega
   have hi2:(k:Int)+1<(pn:Int)+1:=by omega
   have hi3:(0:Int)≤(kj:Int):=by omega
   have hi4:(kj:Int)+1<(pn2:Int)+1:=by omega
   have hAT1:Hid (At2 R.ps R2.ps ((pre++[x]).map (·.1)) (nxI R.ps k t) (nxI R2.ps kj t) t f'):=by
    rw[List.map_append,List.map_cons,List.map_nil,hx];exact hat1
   have HPX:=Lib.hid hat1.pre_;have hYx:=Lib.hid (fun W' hJ'=>hY pre x W' hJ' (by omega))
   have HJs:=Lib.hid hJs;have HKB:=Lib.hid hnx;clear hat1 hMw hMw2 hY hat hf ht hs1 hs2 hkle hkjle ht1 ht2 hJs hnx hM hM2 hat0;subst hA;subst hA2;subst hA3;subst hA4;have hwk:IntKind.i64.wrap ((k:Int)+1)=(k:Int)+1:=IntWalk.i64_in _ (by omega)
   have hwkj:IntKind.i64.wrap ((kj:Int)+1)=(kj:Int)+1:=IntWalk.i64_in _ (by omega)
   have htk:((k:Int)+1).toNat=k+1:=by omega
   have htkj:((kj:Int)+1).toNat=kj+1:=by omega
   have hi5:(0:Int)≤(k:Int)+1:=by omega
   have hi6:(0:Int)≤(kj:Int)+1:=by omega
   gi_wp2
   refine iP 17 hmo (by kernel_rfl) ?_
   simp only[List.take_succ_cons,List.take_zero,List.drop_succ_cons,List.drop_zero];have k1:=fun d os=>cell_regrown hmw d os
   have k2:=fun d os=>cell_regrown hmw2 d os
   have k3:=fun d os=>cell_regrown m3 d os
   have k4:=fun d os=>cell_regrown m23 d os
   have k5:=fun d os=>cell_regrown e0 d os
   have k6:=fun d os=>cell_regrown e1 d os
   repeat (quiet_step (fail))
   refine wpQuiet_nil ?_
   intro w1 hb1;clear k1 k2 k3 k4 k5 k6
   gi_wp2
   have hB1:=Lib.hid hb1;have q1:=(bc hb1 hz1).trans hmw;have q2:=(bc hb1 hz2).trans hmw2;have q3:=(bc hb1 (show g<wr.heap.size by omega)).trans m0
   have q4:=(bc hb1 (show g2<wr.heap.size by omega)).trans m20
   have v0:=(bc hb1 (show b<wr.heap.size by omega)).trans c0
   have v1:=(bc hb1 (show b<wr.heap.size by omega)).trans c1
   have v2:=(bc hb1 (show b<wr.heap.size by omega)).trans c2
   have v3:=(bc hb1 (show b<wr.heap.size by omega)).trans c3'
   have v4:=(bc hb1 (show b<wr.heap.size by omega)).trans c4
   have u0:=(bc hb1 (show b2<wr.heap.size by omega)).trans d0
   have u1:=(bc hb1 (show b2<wr.heap.size by omega)).trans d1
   have u2:=(bc hb1 (show b2<wr.heap.size by omega)).trans d2
   have u3:=(bc hb1 (show b2<wr.heap.size by omega)).trans d3
   have u4:=(bc hb1 (show b2<wr.heap.size by omega)).trans d4
   refine iP 21 hmo (by kernel_rfl) ?_
   simp only[List.take_succ_cons,List.take_zero,List.drop_succ_cons,List.drop_zero];have kq1:=fun d os=>cell_regrown q1 d os
   have kq2:=fun d os=>cell_regrown q2 d os
   have kq3:=fun d os=>cell_regrown q3 d os
   have kq4:=fun d os=>cell_regrown q4 d os
   have kv0:=fun d os=>cell_regrown v0 d os
   have kv1:=fun d os=>cell_regrown v1 d os
   have kv2:=fun d os=>cell_regrown v2 d os
   have kv3:=fun d os=>cell_regrown v3 d os
   have kv4:=fun d os=>cell_regrown v4 d os
   have ku0:=fun d os=>cell_regrown u0 d os
   have ku1:=fun d os=>cell_regrown u1 d os
   have ku2:=fun d os=>cell_regrown u2 d os
   have ku3:=fun d os=>cell_regrown u3 d os
   have ku4:=fun d os=>cell_regrown u4 d os
   repeat (quiet_step (fail))
   refine wpQuiet_nil ?_
   intro w2 hb2;clear kq1 kq2 kq3 kq4 kv0 kv1 kv2 kv3 kv4 ku0 ku1 ku2 ku3 ku4 q1 q2 q3 q4 v0 v1 v2 v3 v4 u0 u1 u2 u3 u4;have hbw:=hb1.trans (hb2.mono hb1.size);have hJ2:J pre w2:=hJA pre wr w2 HJs.out (gV hbw);have hy2:=hYx.out w2 hJ2;have hbA:KB2 n0 bm bm2 wr w2:=KB2.of_below hbw (by omega) (by omega) (by omega)
   have hy3:=hy2.mono (R':=fun e W'=>∃b:Bool,e = .returned (.bool b)∧(b=true→J (pre++[x]) W'∧KB2 n0 bm bm2 wr W'∧wr.heap.size≤W'.heap.size)∧(b=false→Jx (pre++[x]) W')) (by
    rintro e W' (⟨rfl,h1,h2⟩|⟨rfl,h1⟩)
    ·exact⟨true,rfl,fun _=>⟨h1,hbA.t h2,by have:=h2.1.size;have:=hbw.size;omega⟩,(fun h=>by cases h)⟩
    ·exact⟨false,rfl,(fun h=>by cases h),fun _=>h1⟩)
   obtain⟨fn,tmps,assign,body,hy,hR⟩:=hy3;have HR:=Lib.hid hR;simp only[bsV,hx]at hy;clear hR hy2 hJ2 hYx hb1 hb2 hbw hbA
   gi_upto_if 55 with(refine HR.out.mono ?_;rintro e W3 ⟨b,rfl,hpost⟩;have hpost':=Lib.hid hpost;clear hpost)
   cases b
   ·gi_wp2
    refine bodyPost_ret (results_none rfl _ _ _) rfl ?_
    exact⟨⟨_,rfl⟩,.inr ⟨pre++[x],hAT1.out.pre_,hpost'.out.2 (by trivial)⟩⟩
   ·have h1:=(hpost'.out.1 (by trivial)).1
    have h2:=(hpost'.out.1 (by trivial)).2.1
    have h3:=(hpost'.out.1 (by trivial)).2.2
    have r1:W3.cell? ⟨bm,0,none⟩=_:=(World.cell?_of_block h2.2.1).trans hmw
    have r2:W3.cell? ⟨bm2,0,none⟩=_:=(World.cell?_of_block h2.2.2).trans hmw2
    have r3:=(bc h2.1 g1).trans m3;have r4:=(bc h2.1 g21).trans m23;have r5:=(bc h2.1 hbB3).trans e0;have r6:=(bc h2.1 hbB4).trans e1;have hor:s1=t∨s2=t:=by omega
    by_cases c1:s1=t
    ·by_cases c2:s2=t
     case pos=>
      have eas1:(s1 == t)=true:=by simpa using c1
      have eas2:(s2 == t)=true:=by simpa using c2
      have hk1:Hid (nxI R.ps k t=k+1):=by rw[hn1.out,if_pos c1];exact rfl
      have hk2:Hid (nxI R2.ps kj t=kj+1):=by rw[hn2.out,if_pos c2];exact rfl
      clear c1 c2 hn1 hn2
      gi_wp2
      go_roundw
      case rel=>exact⟨nxI R.ps k t,nxI R2.ps kj t,f',t,pre++[x],by rw[hk1.out];try go_num,by rw[hk2.out];try go_num,rfl,hAT1,h1,HKB.out.t h2,by omega⟩
      case measure=>simp[intOf];omega
     case neg=>
      have ebs1:(s1 == t)=true:=by simpa using c1
      have ebs2:(s2 == t)=false:=by simpa using c2
      have hk1:Hid (nxI R.ps k t=k+1):=by rw[hn1.out,if_pos c1];exact rfl
      have hk2:Hid (nxI R2.ps kj t=kj):=by rw[hn2.out,if_neg c2];exact rfl
      clear c1 c2 hn1 hn2
      gi_wp2
      go_roundw
      case rel=>exact⟨nxI R.ps k t,nxI R2.ps kj t,f',t,pre++[x],by rw[hk1.out];try go_num,by rw[hk2.out];try go_num,rfl,hAT1,h1,HKB.out.t h2,by omega⟩
      case measure=>simp[intOf];omega
    ·have c2:s2=t:=by omega
     have ecs1:(s1 == t)=false:=by simpa using c1
     have ecs2:(s2 == t)=true:=by simpa using c2
     have hk1:Hid (nxI R.ps k t=k):=by rw[hn1.out,if_neg c1];exact rfl
     have hk2:Hid (nxI R2.ps kj t=kj+1):=by rw[hn2.out,if_pos c2];exact rfl
     clear c1 c2 hn1 hn2
     gi_wp2
     go_roundw
     case rel=>exact⟨nxI R.ps k t,nxI R2.ps kj t,f',t,pre++[x],by rw[hk1.out];try go_num,by rw[hk2.out];try go_num,rfl,hAT1,h1,HKB.out.t h2,by omega⟩
     case measure=>simp[intOf];omega
  ·obtain rfl:k=pn:=by omega
   have hall:Hid (pre.map (·.1)=strL R.ps R2.ps):=by
    have h1:=hat.out.all;rw[qE (by rw[←hlp.out];omega),List.append_nil]at h1
    exact h1
   have hMw:=hM.out.grow hnx.1 (Nat.le_refl _);have m0:=hMw.c0;have hmw:wr.cell? ⟨bm,0,none⟩=_:=(World.cell?_of_block hnx.2.1).trans hm
   have HKB:=Lib.hid hnx;clear hMw
   gi_wp2
   go_end0
   exact⟨⟨_,rfl⟩,.inl ⟨pre,hall.out,hJs⟩⟩
theorem iQ (n:Nat) (hn:1≤n) (bm bm2 n0 g g2:Nat) (pa:Option Addr) (pn pc:Nat) (ca:Option Addr) (cn cc:Nat) (ja:Option Addr) (jn jc:Nat) (ba:Option Addr) (bq:Nat) (R:Road)
  (pa2:Option Addr) (pn2 pc2:Nat) (ca2:Option Addr) (cn2 cc2:Nat) (ja2:Option Addr) (jn2 jc2:Nat) (ba2:Option Addr) (bq2:Nat) (R2:Road)
  (hl:pn≤2000) (hl2:pn2≤2000) (hk:∀p∈R.ps,pOk p=true) (hk2:∀p∈R2.ps,pOk p=true) (hs:sumL R.ps=sumL R2.ps) (w:World)
  (hm:w.cell? ⟨bm,0,none⟩=some (.pointer (some ⟨g,0,none⟩))) (hm2:w.cell? ⟨bm2,0,none⟩=some (.pointer (some ⟨g2,0,none⟩))) (hbm:bm<w.heap.size) (hbm2:bm2<w.heap.size) (hn0:n0≤w.heap.size)
  (h:MS w n0 g pa pn pc ca cn cc ja jn jc ba bq R) (h2:MS w n0 g2 pa2 pn2 pc2 ca2 cn2 cc2 ja2 jn2 jc2 ba2 bq2 R2) :
  SeqStopsK Fence.wide n Tryz.prog 120 #[.pointer (some ⟨bm,0,none⟩),.pointer (some ⟨bm2,0,none⟩)] bsV (KB2 n0 bm bm2) (fun ys=>ys.map (·.1)=strL R.ps R2.ps) (fun pre=>pre.map (·.1) <+: strL R.ps R2.ps) (pn+pn2) w:=by
 intro l J Jx W hW hJ hJx hY h0;have hb:=hW.mono hn0;exact qR n hn l bm bm2 n0 g g2 pa pn pc ca cn cc ja jn jc ba bq R pa2 pn2 pc2 ca2 cn2 cc2 ja2 jn2 jc2 ba2 bq2 R2 hl hl2 hk hk2 hs J Jx (fun s A B hs hg=>hJ s A B none hs hg (fun r e=>by cases e)) hY W ((bc hW hbm).trans hm) ((bc hW hbm2).trans hm2)
  (Nat.lt_of_lt_of_le hbm hW.size) (Nat.lt_of_lt_of_le hbm2 hW.size) (Nat.le_trans hn0 hW.size) (h.grow hb (Nat.le_refl _)) (h2.grow hb (Nat.le_refl _)) h0
end Go.Proofs.YtjlkeoppppfeiaaGreat
