/- Lemmas. -/
import Derived.Test.YtjlkeoppppfeiaaGreatQNWords
namespace Go.Proofs.YtjlkeoppppfeiaaGreat
open Go.RowKit Go.Shelf Go.Sort Go.Proofs
attribute [local go_sem] Oper.semAt_some
structure AI (w:World) (m:Nat) (pre:List Wd) (W:World) (A:Option Addr) (c:Nat):Prop where
 o:BK W m 42 #[.slice none 0 0]
 e:BK W (m+1) 36 #[.int .i64 0]
 g:BK W (m+2) 300 #[.slice A pre.length c]
 p:BK W (m+3) 297 #[.pointer (some ⟨m+2,0,none⟩)]
 ow:OW tC 1 9 (m+5) W A pre.length c pre
 b:Below m w W
 z:m+5≤W.heap.size
theorem AI.keep {w:World} {m:Nat} {pre:List Wd} {W W':World} {A:Option Addr} {c:Nat} {row:Option Nat} (h:AI w m pre W A c) (hg:W.grownBy W' row) (hr:∀r,row=some r→r=m+4∨m+5≤r∧∃o:Obj,W.heap[r]?=some o∧o.isCells=false):AI w m pre W' A c:=by
 have ne:∀k,k<m+4→some k≠row:=fun k hk e=>by
  rcases hr k e.symm with h|⟨h,_⟩<;>omega
 refine⟨h.o.grownBy hg (ne _ (by omega)),h.e.grownBy hg (ne _ (by omega)),h.g.grownBy hg (ne _ (by omega)),h.p.grownBy hg (ne _ (by omega)),?_,?_,Nat.le_trans h.z hg.size⟩
 ·refine h.ow.keep (fun a ha=>hg.block a.block (h.ow.lt ha).2 (fun e=>?_))
  subst ha;rcases hr _ e.symm with h1|⟨_,o,ho,hc⟩
  ·have:=(h.ow.lt rfl).1
   omega
  ·rcases h.ow.1.2 with⟨h3,_⟩|⟨g',cap,cur,h3,_,hg',_⟩
   ·cases h3
   ·injection h3 with h3
    injection h3 with h3
    subst h3;rw[hg']at ho;cases ho
    cases hc
 ·have hz:=h.z
  exact⟨hg.os.trans h.b.os,hg.tape.trans h.b.tape,hg.output.trans h.b.output,Nat.le_trans h.b.size hg.size,fun k hk=>(hg.block k (by omega) (ne k (by omega))).trans (h.b.block k hk)⟩
def RA (w:World) (s:List UInt8) (e:Ending) (w':World):Prop:=
 (∃L A c,kF s=some L∧e = .returned (.tuple #[.slice A L.length c,.int .i64 0])∧OW nC 10 118 w.heap.size w' A L.length c L∧Below w.heap.size w w') ∨
 (kF s=none∧e = .returned (.tuple #[.slice none 0 0,.int .i64 3])∧Below w.heap.size w w')
theorem xM (s:List UInt8):(dQ s).length≤s.length+1:=by
 unfold dQ
 split
 ·simp
 ·exact pI s
theorem pE:∀(s:List UInt8) (x:Wd),x∈bK s→x.length≤s.length
 | [],x,h=>by simp[bK]at h;simp[h]
 |b::r,x,h=>by
  have ih:=pE r;unfold bK at h
  split at h
  ·rcases List.mem_cons.1 h with h|h
   ·simp[h]
   ·have:=ih x h;simp;omega
  ·split at h
   ·simp at h;simp[h]
   ·rename_i y ys he
    rw[he]at ih;rcases List.mem_cons.1 h with h|h
    ·subst h;have:=ih y (List.mem_cons_self ..);simp;omega
    ·have:=ih x (List.mem_cons_of_mem _ h);simp;omega
theorem xN (s:List UInt8) (x:Wd) (h:x∈dQ s):x.length≤s.length:=by
 unfold dQ at h
 split at h
 ·cases h
 ·exact pE s x h
def u6 (w:World) (k:Nat):Nat:=match w.cell? ⟨k,0,none⟩ with|some (.slice _ n _)=>n|_=>0
theorem u7 {w:World} {g B:Nat} {ws:List Wd} (h:PA w g B ws):u6 w g=ws.length:=by
 obtain⟨_,_,A,n,c,hB,_,_,h3,_⟩:=h;have c:=hB.cell 0;simp only[List.getElem?_toArray,List.getElem?_cons_zero]at c
 unfold u6;rw[c];exact h3
theorem AI.pa {w W:World} {m c:Nat} {pre:List Wd} {A:Option Addr} (h:AI w m pre W A c) (hl:pre.length≤1000000):PA W (m+2) W.heap.size pre:=by
 have hz:=h.z;refine⟨by omega,Nat.le_refl _,A,pre.length,c,h.g,h.ow.cap,hl,rfl,fun h0=>?_⟩
 rcases A with _|a
 ·have:=h.ow.none_.1;omega
 ·have h1:=h.ow.lt rfl
  obtain⟨b,off,e,hb,hc⟩:=(h.ow.sl pK).2 h0;obtain⟨b',e',-⟩:=h.ow.at_ pK a rfl
  injection e with e
  subst e;simp only at h1;refine⟨b,off,rfl,by omega,h1.2,fun i x hx=>?_⟩
  have:=hc i x hx 0 (.string (nbs x)) (by simp[tC])
  simpa using this
structure AL (w W:World) (D:Nat) (s:List UInt8) (L0:List NoteR) (r:List Wd) (Ao:Option Addr) (co:Nat) (wr:World):Prop where
 e:Hid (kF s=(nV r).map (L0++·))
 m:∀x∈r,x∈dQ s
 m0:L0.length+r.length≤100001
 p:PA wr (w.heap.size+2) W.heap.size r
 o:BK wr w.heap.size 42 #[.slice Ao L0.length co]
 ow:OW nC 10 118 W.heap.size wr Ao L0.length co L0
 er:BK wr (w.heap.size+1) 36 #[.int .i64 0]
 q:BK wr (w.heap.size+3) 297 #[.pointer (some ⟨w.heap.size+2,0,none⟩)]
 k:wr.heap[D]?=some (.deferred (some []))
 b:Below w.heap.size w wr
theorem aEK (b0 b1:Nat) (W:World):(invoke (.fn (.func 184) #[.pointer (some ⟨b0,0,none⟩),.pointer (some ⟨b1,0,none⟩)]) #[]).run Tryz.prog W = .ok (.enter 184 #[.pointer (some ⟨b0,0,none⟩),.pointer (some ⟨b1,0,none⟩)]) W:=by
 simp[invoke,go_sem]
theorem rK {w W:World} {n D:Nat} (h:Below n w W) (hD:n≤D) (o:Obj):Below n w (W.putObj D o):=
 ⟨h.os,h.tape,h.output,by simpa[World.putObj]using h.size,fun b hb=>(World.putObj_heap_other (by omega)).trans (h.block b hb)⟩
theorem aDk {tmps:Array Value} {w W:World} {D c:Nat} {s:List UInt8} {L:List NoteR} {A:Option Addr} (hD:W.heap[D]?=some (.deferred (some []))) (hDm:w.heap.size+5≤D) (h0:BK W w.heap.size 42 #[.slice A L.length c]) (h1:BK W (w.heap.size+1) 36 #[.int .i64 0])
  (hb:Below w.heap.size w W) (how:OW nC 10 118 w.heap.size W A L.length c L) (hs:kF s=some L)
  (hres:∀(W:World) (v0 v1:Value),BK W w.heap.size 42 #[v0]→BK W (w.heap.size+1) 36 #[v1]→(results Tryz.f117 tmps).run Tryz.prog W = .ok (.tuple #[v0,v1]) W) :
  LeavesInM Fence.wide 10 Tryz.prog Tryz.f117 tmps (RA w s) [{ target:=.collected D,args:=#[] },{ target:=.fn (.func 184) #[.pointer (some ⟨w.heap.size,0,none⟩),.pointer (some ⟨w.heap.size+1,0,none⟩)],args:=#[] }] .returning W:=by
 refine⟨by simp,.inl ⟨_,_,rfl,run_takeDeferred hD,?_⟩⟩
 refine⟨by simp,.inr ⟨fun _=>by omega,_,_,_,_,rfl,aEK _ _ _,fun _ _=>trivial,?_⟩⟩
 refine(xS 9 _ _ _).mono ?_
 rintro e u' w' ⟨rfl,rfl,rfl⟩;have k0:BK (W.putObj D (.deferred none)) w.heap.size 42 #[.slice A L.length c]:=(World.putObj_heap_other (by omega)).trans h0
 have k1:BK (W.putObj D (.deferred none)) (w.heap.size+1) 36 #[.int .i64 0]:=(World.putObj_heap_other (by omega)).trans h1
 refine⟨_,hres _ _ _ k0 k1,.inl ⟨L,A,c,hs,rfl,how.keep (fun g hg=>World.putObj_heap_other (fun e=>?_)),rK hb (by omega) _⟩⟩
 rcases how.1.2 with⟨h3,_⟩|⟨g',cap,cur,h3,_,hg',_⟩
 ·injection h3 with h3
  rw[h3]at hg;cases hg
 ·injection h3 with h3
  rw[hg]at h3
  injection h3 with h3
  rw[h3]at e;simp only at e;rw[e,hD]at hg';cases hg'
theorem xO {tmps:Array Value} {w W:World} {D:Nat} {s:List UInt8} {v0 v1:Value} (hD:W.heap[D]?=some (.deferred (some []))) (hDm:w.heap.size+5≤D) (h0:BK W w.heap.size 42 #[v0]) (h1:BK W (w.heap.size+1) 36 #[v1])
  (hb:Below w.heap.size w W) (hs:kF s=none)
  (hres:∀(W:World) (v0 v1:Value),BK W w.heap.size 42 #[v0]→BK W (w.heap.size+1) 36 #[v1]→(results Tryz.f117 tmps).run Tryz.prog W = .ok (.tuple #[v0,v1]) W) :
  LeavesInM Fence.wide 10 Tryz.prog Tryz.f117 tmps (RA w s) [{ target:=.collected D,args:=#[] },{ target:=.fn (.func 184) #[.pointer (some ⟨w.heap.size,0,none⟩),.pointer (some ⟨w.heap.size+1,0,none⟩)],args:=#[] }]
   (.panicking [{ v:=.iface 295 (.agg #[.int .i64 3]),recovered:=false }]) W:=by
 refine⟨by simp,.inl ⟨_,_,rfl,run_takeDeferred hD,?_⟩⟩
 refine⟨by simp,.inr ⟨fun _=>by omega,_,_,_,_,rfl,aEK _ _ _,fun _ _=>trivial,?_⟩⟩
 have k0:BK (W.putObj D (.deferred none)) w.heap.size 42 #[v0]:=(World.putObj_heap_other (by omega)).trans h0
 have k1:BK (W.putObj D (.deferred none)) (w.heap.size+1) 36 #[v1]:=(World.putObj_heap_other (by omega)).trans h1
 refine(tD 9 _ _ v0 v1 [] _ k0 k1 (by omega)).mono ?_
 rintro e u' w' ⟨rfl,rfl,hA,hB,hbb,-⟩;have hbp:=rK hb (by omega:w.heap.size≤D) (.deferred none)
 exact⟨_,hres _ _ _ hA hB,.inr ⟨hs,rfl,hbp.trans (hbb _ (Nat.le_refl _) (by omega) hbp.size)⟩⟩
theorem lP:(Tryz.prog.info? 118).map (fun i=>(i.zero,i.size,i.bytes))=some (some (.agg #[.int .i64 0,.int .i64 0,.int .i64 0,.int .i64 0,.int .i64 0,.int .i64 0,.int .i64 0,.int .i64 0,.int .i64 0,.int .i64 0]),10,80):=by kernel_rfl
theorem lQ {F:Fence} {n:Nat} {P:Program} {ops:Array Oper} {Q:Exit→Act→World→Prop} {a:Act} {w w':World} {o:Oper} {v:Value} {K:Act→World→Prop} {X:Prop} (hw:Region.wanted o (yielded ops a.tmps)=true) (hab:∀f,o.about P w a.eval=some f→F.fn f)
  (hx:(o.semAt F.round a.eval).run P w = .ok (.value v) w') (hK:K (a.put o.dst v) w'):if Region.wanted o (yielded ops a.tmps)=true then Oper.wpIn F n P o a w K Q else X:=by
 rw[if_pos hw];exact⟨hab,by rw[hx];exact hK⟩
theorem lR (nt:NoteR) {w1:World} {Ao:Option Addr} {n co B:Nat} {L0:List NoteR} (how:OW nC 10 118 B w1 Ao n co L0) (hn:n≤100001) (hB:B≤w1.heap.size) :
  ∃A' c' w3,(Builtin.append_ #[42,42] 42 #[.slice Ao n co,.slice (some ⟨w1.heap.size,0,none⟩) 1 1]).run Tryz.prog (w1.alloc (.cells #[.int .i64 nt.k,.int .i64 nt.tu,.int .i64 nt.gr,.int .i64 nt.lo,.int .i64 nt.ch,.int .i64 nt.ton,.int .i64 nt.me,.int .i64 nt.si,.int .i64 nt.wa,.int .i64 nt.ar] 118)) = .ok (.slice A' (n+1) c') w3 ∧
   AppS nC 10 118 B (w1.alloc (.cells #[.int .i64 nt.k,.int .i64 nt.tu,.int .i64 nt.gr,.int .i64 nt.lo,.int .i64 nt.ch,.int .i64 nt.ton,.int .i64 nt.me,.int .i64 nt.si,.int .i64 nt.wa,.int .i64 nt.ar] 118)) Ao n co 1 L0 [nt] A' c' w3:=by
 obtain⟨ie,hie,hiz,his,hib⟩:=info_parts lP;have hX:=BK.new w1 118 #[.int .i64 nt.k,.int .i64 nt.tu,.int .i64 nt.gr,.int .i64 nt.lo,.int .i64 nt.ch,.int .i64 nt.ton,.int .i64 nt.me,.int .i64 nt.si,.int .i64 nt.wa,.int .i64 nt.ar];have hsl:SL nC 10 (w1.alloc (.cells #[.int .i64 nt.k,.int .i64 nt.tu,.int .i64 nt.gr,.int .i64 nt.lo,.int .i64 nt.ch,.int .i64 nt.ton,.int .i64 nt.me,.int .i64 nt.si,.int .i64 nt.wa,.int .i64 nt.ar] 118)) (w1.alloc (.cells #[.int .i64 nt.k,.int .i64 nt.tu,.int .i64 nt.gr,.int .i64 nt.lo,.int .i64 nt.ch,.int .i64 nt.ton,.int .i64 nt.me,.int .i64 nt.si,.int .i64 nt.wa,.int .i64 nt.ar] 118)).heap.size (some ⟨w1.heap.size,0,none⟩) 1 [nt]:=⟨rfl,fun _=>⟨w1.heap.size,0,rfl,hX.lt,fun i y hy j v hv=>by
  match i,hy with
  |0,hy=>
   cases hy
   have hc:=hX.cell j;rw[show (0+0*10+j)=j by omega,hc]
   rw[←hv];simp[nC]⟩⟩
 exact oW (P:=Tryz.prog) (c2:=1) 42 42 ie _ 80 Tryz.underlying42 hie hiz his hib rfl (by decide) (how.alloc _) hsl jB (by simp[nC,Value.oneCell']) (by omega) (by decide) (by rw[World.size_alloc];omega)
theorem AL.step {w W wr w1 w3:World} {D:Nat} {s:List UInt8} {L0:List NoteR} {r r':List Wd} {nt:NoteR} {Ao A':Option Addr} {co c':Nat} {o:Obj} (HA:AL w W D s L0 r Ao co wr) (hWZ:w.heap.size+5≤W.heap.size) (hDZ:w.heap.size+5≤D) (hg:wr.drew.grownBy w1 (some (w.heap.size+2)))
  (hP:PA w1 (w.heap.size+2) W.heap.size r') (hp:aQ r=some (nt,r')) (hap:AppS nC 10 118 W.heap.size (w1.alloc o) Ao L0.length co 1 L0 [nt] A' c' w3) :
  AL w W D s (L0++[nt]) r' A' c' (w3.setCell ⟨w.heap.size,0,none⟩ (.slice A' (L0.length+1) c'))∧u6 (w3.setCell ⟨w.heap.size,0,none⟩ (.slice A' (L0.length+1) c')) (w.heap.size+2)<u6 wr (w.heap.size+2):=by
 have hPr:=HA.p;obtain⟨h5,h6,-⟩:=hPr;have hs1:wr.heap.size≤w1.heap.size:=hg.size;have hs3:=hap.size;rw[World.size_alloc]at hs3;have low:∀k,k<W.heap.size→w3.heap[k]?=w1.heap[k]?:=fun k hk=>(hap.far k (by rw[World.size_alloc];omega) (fun b hb=>by have:=(HA.ow.lt hb).1;omega)).trans (Below.heap_alloc _ _ _ (by omega))
 have lowB:∀ {k:Nat} {t:TypeId} {cs:Array Value},k<W.heap.size→BK w1 k t cs→BK w3 k t cs:=fun hk hb=>(low _ hk).trans hb
 have hP3:PA (w3.setCell ⟨w.heap.size,0,none⟩ (.slice A' (L0.length+1) c')) (w.heap.size+2) W.heap.size r':=by
  have k1:w1.grownBy w3 (Ao.map (·.block)):=⟨hap.bel.os,hap.bel.tape,hap.bel.output,by omega,fun k hk hne=>(hap.far k (by rw[World.size_alloc];omega) (fun b hb e=>hne (by rw[hb,←e];rfl))).trans (Below.heap_alloc _ _ _ hk)⟩
  have k2:=hP.grown k1 (fun q hq=>by
   rcases Ao with _|a
   ·cases hq
   ·simp only[Option.map_some,Option.some.injEq]at hq;subst hq;exact(HA.ow.lt rfl).1)
  exact k2.low (m:=w.heap.size) ⟨rfl,rfl,rfl,by simp,fun k hk hne=>Below.heap_setCell _ _ _ k (by simp only;exact fun e=>hne (by rw[e]))⟩ (by omega)
 have hlt:=vP hp;have hO:BK w3 w.heap.size 42 #[.slice Ao L0.length co]:=lowB (by omega) (HA.o.drew.grownBy hg (by simp))
 refine⟨⟨?_,fun x hx=>HA.m x (by rw[aAd hp];exact List.mem_append_right _ hx),?_,hP3,?_,?_,?_,?_,?_,?_⟩,?_⟩
 ·show _=_
  rw[HA.e.out,rU hp];cases nV r' with
  |none=>rfl
  |some L=>simp
 ·have:=HA.m0
  simp;omega
 ·rw[List.length_append,List.length_singleton]
  exact hO.set_ 0 _
 ·rw[List.length_append,List.length_singleton]
  exact hap.own.setCell (fun g hg'=>by have:=(hap.own.lt hg').1;simp only;omega) _
 ·exact(lowB (by omega) (HA.er.drew.grownBy hg (by simp))).far (p:=⟨w.heap.size,0,none⟩) (by simp) _
 ·exact(lowB (by omega) (HA.q.drew.grownBy hg (by simp))).far (p:=⟨w.heap.size,0,none⟩) (by simp) _
 ·have hk:wr.drew.heap[D]?=some (.deferred (some [])):=HA.k
  refine(Below.heap_setCell _ _ _ _ (by simp;omega)).trans ?_
  have hDl:=(Array.getElem?_eq_some_iff.1 hk).1
  have hk1:=(hg.block D hDl (by simp;omega)).trans hk
  have hDl1:=(Array.getElem?_eq_some_iff.1 hk1).1
  refine(hap.far D (by rw[World.size_alloc];omega) (fun b hb e=>?_)).trans ((Below.heap_alloc _ _ _ hDl1).trans hk1)
  have how:=HA.ow;subst hb;rcases how.1.2 with⟨h3,_⟩|⟨g',cap,cur,h3,_,hg',_⟩
  ·cases h3
  ·injection h3 with h3
   injection h3 with h3
   rw[h3]at e;simp only at e;rw[e,HA.k]at hg';cases hg'
 ·have b1:Below w.heap.size w w1:=HA.b.drew.trans ⟨hg.os,hg.tape,hg.output,hg.size,fun b hb=>hg.block b (by have:=HA.b.size;simp;omega) (by simp;omega)⟩
  exact(b1.trans ((Below.refl _ w1).alloc b1.size o) |>.trans (hap.bel.mono (by omega))).setCell (p:=⟨w.heap.size,0,none⟩) (Nat.le_refl _) _
 ·rw[u7 hP3,u7 HA.p]
  exact hlt
theorem AL.box {w W wr w1 w3:World} {D n:Nat} {s:List UInt8} {L0:List NoteR} {r:List Wd} {nt:NoteR} {Ao A':Option Addr} {co c':Nat} {o:Obj} (HA:AL w W D s L0 r Ao co wr) (hWZ:w.heap.size+5≤W.heap.size) (hg:wr.drew.grownBy w1 (some (w.heap.size+2)))
  (hap:AppS nC 10 118 W.heap.size (w1.alloc o) Ao n co 1 L0 [nt] A' c' w3):w3.cell? ⟨w.heap.size,0,none⟩=some (.slice Ao L0.length co)∧w3.frozen? ⟨w.heap.size,0,none⟩=false:=by
 have hs1:wr.heap.size≤w1.heap.size:=hg.size;have h6:=HA.p.lt.2;have k:BK w3 w.heap.size 42 #[.slice Ao L0.length co]:=((hap.far _ (by rw[World.size_alloc];omega) (fun b hb=>by have:=(HA.ow.lt hb).1;omega)).trans (Below.heap_alloc _ _ _ (by omega))).trans (HA.o.drew.grownBy hg (by simp))
 have k0:=k.cell 0;simp only[List.getElem?_toArray,List.getElem?_cons_zero]at k0
 exact⟨k0,k.frozen 0⟩
set_option maxRecDepth 100000 in
set_option maxHeartbeats 4000000 in
theorem aDl (s:List UInt8) (hl:s.length≤100000) (w:World):CallsIn Fence.wide 10 Tryz.prog 117 #[.string (nbs s)] w (RA w s):=by
 have hmf:∀(fn:Fn) (first cap:Array Value) (w:World),(Instr.makeFunc fn first cap).run Tryz.prog w = .ok (.func fn first cap) w:=fun _ _ _ _=>rfl
 have hmo:Tryz.prog.follows .mixedOrders=true:=by kernel_rfl
 have hw:=rM s;refine callsIn_of_wp_marks Tryz.func117 rfl trivial ?_ rfl
 simp only[Tryz.ntmps117,List.size_toArray,List.length_cons,List.length_nil,Nat.reduceAdd,Nat.reduceSub,Array.replicate_succ,Array.replicate_zero,List.push_toArray,List.append_toArray,List.nil_append,List.cons_append];obtain⟨w0,hw0⟩ : ∃w0,w0=(((w.alloc (.cells #[.slice none 0 0] 42)).alloc (.cells #[.int .i64 0] 36)).alloc (.cells #[.slice none 0 0] 300)).alloc (.cells #[.pointer (some ⟨w.heap.size+2,0,none⟩)] 297):=⟨_,rfl⟩
 have hA0:BK w0 w.heap.size 42 #[.slice none 0 0]:=by rw[hw0];exact(((BK.new w _ _).alloc _).alloc _).alloc _
 have hE0:BK w0 (w.heap.size+1) 36 #[.int .i64 0]:=by
  rw[hw0];have:=BK.new (w.alloc (.cells #[.slice none 0 0] 42)) 36 #[.int .i64 0];rw[World.size_alloc]at this;exact(this.alloc _).alloc _
 have hG0:BK w0 (w.heap.size+2) 300 #[.slice none 0 0]:=by
  rw[hw0];have:=BK.new ((w.alloc (.cells #[.slice none 0 0] 42)).alloc (.cells #[.int .i64 0] 36)) 300 #[.slice none 0 0];rw[World.size_alloc,World.size_alloc]at this;exact this.alloc _
 have hQ0:BK w0 (w.heap.size+3) 297 #[.pointer (some ⟨w.heap.size+2,0,none⟩)]:=by
  rw[hw0];have:=BK.new (((w.alloc (.cells #[.slice none 0 0] 42)).alloc (.cells #[.int .i64 0] 36)).alloc (.cells #[.slice none 0 0] 300)) 297 #[.pointer (some ⟨w.heap.size+2,0,none⟩)];rw[World.size_alloc,World.size_alloc,World.size_alloc]at this;exact this
 have hB0:Below w.heap.size w w0:=by rw[hw0];exact((((Below.refl w.heap.size w).alloc (Nat.le_refl _) _).alloc (by simp) _).alloc (by simp;omega) _).alloc (by simp;omega) _
 have hsz0:w0.heap.size=w.heap.size+4:=by rw[hw0];simp
 gi_wp2_with fail
 rw[←hw0];clear hw0;refine cin ((rM s w0).mono ?_)
 rintro e w1 ⟨rfl,hw1⟩;rw[hsz0];have hS1:BK w1 (w.heap.size+4) 9 #[.string (nbs s)]:=by rw[hw1,←hsz0];exact BK.new w0 _ _
 have hI1:AI w w.heap.size [] w1 none 0:=by
  rw[hw1];exact⟨hA0.alloc _,hE0.alloc _,hG0.alloc _,hQ0.alloc _,OW.nil_,hB0.alloc hB0.size _,by simp[hsz0]⟩
 have hsz1:w1.heap.size=w.heap.size+5:=by rw[hw1];simp[hsz0]
 clear hw1 hA0 hE0 hG0 hQ0 hB0 hsz0;have HSZ:=Lib.hid hsz1
 gi_wp2_with fail
 refine kN (fun a0 ha0=>?_)
 refine kO (α:=Wd) (w.heap.size+4) (by omega) rfl (by omega) (gf:=233) (lb:=#[.pointer (some ⟨w.heap.size+4,0,none⟩)]) (by rw[ha0];simp[Act.eval]) trivial (enters_of Tryz.func233 (by kernel_rfl) rfl)
  (xR 9 (by omega) s (Nat.le_trans hl (by omega)) (w.heap.size+4) w1 hS1) (fun h k=>k.trans h) (fun W l o o' hl' h hc _=>?kb) (fun _=>rfl)
  (fun pre W=>∃A c,AI w w.heap.size pre W A c) ?own ?ownb ⟨none,0,hI1⟩ (fun x=>{ tmps:=(a0.tmps.setIfInBounds 11 (.string (nbs x))).setIfInBounds 5 (.string (nbs x)),defers:=[] }) ?assign ?body ?done
 case kb=>exact World.putObj_heap_other (by omega)
 case own=>
  rintro pre W W' row ⟨A,c,h⟩ hg hr;exact⟨A,c,h.keep hg (fun r e=>.inr (by obtain⟨h1,h2⟩:=hr r e;exact⟨by omega,h2⟩))⟩
 case ownb=>
  rintro pre W W' ⟨A,c,h⟩ hg;exact⟨A,c,h.keep hg (fun r e=>by cases e;exact .inl rfl)⟩
 case assign=>
  intro l x W K hK;rw[ha0]at hK ⊢;simp only[List.setIfInBounds_toArray,List.set_cons_succ,List.set_cons_zero]at hK ⊢
  gi_wp2
  exact hK
 case body=>
  rintro l pre x W ⟨A,c,hI⟩ hlt;rw[ha0];simp only[List.setIfInBounds_toArray,List.set_cons_succ,List.set_cons_zero]
  gi_wp2_with fail
  have HWL:Hid ((w.heap.size+4:Nat)<W.heap.size):=by show _<_;have:=hI.z;omega
  obtain⟨M,hM2,hM3,hM4,hM1,hMm,hMA,t0,cs0,hMB⟩ : ∃M,M≠w.heap.size+2∧M≠w.heap.size+3∧M≠w.heap.size+4∧M≠w.heap.size+1∧w.heap.size≤M∧(∀a,A=some a→a.block=M)∧∃t cs,BK W M t cs:=by
   rcases A with _|a
   ·exact⟨w.heap.size,by omega,by omega,by omega,by omega,Nat.le_refl _,(fun a h=>by cases h),_,_,hI.o⟩
   ·have h1:=(hI.ow.lt rfl).1
    obtain⟨b,rfl,hb,-⟩:=hI.ow.at_ pK a rfl;simp only at h1;obtain⟨cur,hcur⟩:=aDq hI.ow;exact⟨b,by omega,by omega,by omega,by omega,by omega,(fun a h=>by cases h;rfl),_,_,hcur⟩
  have hlM:=hMB.lt;have g2:∀o,BK (W.putObj M o) (w.heap.size+3) 297 #[.pointer (some ⟨w.heap.size+2,0,none⟩)]:=fun o=>(World.putObj_heap_other (Ne.symm hM3)).trans hI.p
  have g3:∀o,BK (W.putObj M o) (w.heap.size+2) 300 #[.slice A pre.length c]:=fun o=>(World.putObj_heap_other (Ne.symm hM2)).trans hI.g
  have k3:=fun o d os=>cell_regrown ((g2 o).cell 0) d os
  have k4:=fun o d os=>cell_regrown ((g3 o).cell 0) d os
  have HCC:=Lib.hid (show ∀W',But M W W'→(∃o,W'.heap[M]?=some o)→∃q:RegO,W'=grow (redrawn (W.putObj M q.o) q.d) q.os from fun W' h1 ⟨o,ho⟩=>by
   obtain⟨p,hp⟩:=aEe h1 hlM ho;exact⟨⟨o,p.d,p.os⟩,hp⟩)
  have HCB:=Lib.hid (show ∀W',(∃q:RegO,W'=grow (redrawn (W.putObj M q.o) q.d) q.os)→But M W W' from fun W' ⟨q,hq⟩=>by rw[hq];exact aCx _ _ _ _ _)
  have HB1:=Lib.hid (show ∀W',But M W W'→∃o,W'.heap[M]?=some o from fun W' h=>by
   have h2:M<W'.heap.size:=Nat.lt_of_lt_of_le hlM h.size;exact⟨_,Array.getElem?_eq_getElem h2⟩)
  have HI:=Lib.hid hI;have HLT:=Lib.hid hlt;have hOW:=hI.ow;clear hI hlt;have hdr:But M W W.drew:=But.of_below (Below.refl _ _).drew;refine nZ (fun W'=>∃q:RegO,W'=grow (redrawn (W.putObj M q.o) q.d) q.os) 8 [6,7] (fun W'=>OW tC 1 9 (w.heap.size+5) W' A pre.length c pre∧BK W' w.heap.size 42 #[.slice none 0 0]) (HCC.out _ hdr (HB1.out _ hdr)) ⟨hOW.drew,HI.out.o.drew⟩ hmo (by kernel_rfl) ?_
  clear hdr hOW;simp only[List.take_succ_cons,List.take_zero,List.drop_succ_cons,List.drop_zero]
  repeat (refine aDu (by decide) (by decide) (fun K hK=>?_);go_simp;refine hK _ ?_;clear hK K)
  refine aCD (ι:=Nat) (fun X=>.slice (some ⟨X,0,none⟩) 1 1) (fun X W'=>BK W' X 9 #[.string (nbs x)]∧OW tC 1 9 (w.heap.size+5) W' A pre.length c pre∧BK W' w.heap.size 42 #[.slice none 0 0]) (by decide) (by decide) rfl
   (fun W' hW' hΦ=>⟨W'.heap.size,W'.alloc (.cells #[.string (nbs x)] 9),?_,⟨BK.new _ _ _,hΦ.1.alloc _,hΦ.2.alloc _⟩,?_⟩) (fun X=>?_)
  ·clear k3 k4 g2 g3 hW'
   go_simp
  ·have h1:=(HCB.out _ hW').trans (But.of_below ((Below.refl _ _).alloc (Nat.le_refl _) (.cells #[.string (nbs x)] 9)))
   exact HCC.out _ h1 (HB1.out _ h1)
  obtain⟨ie,hie,hiz,his,hib⟩:=info_parts aEO;refine aCD (ι:=Nat×Nat) (fun p=>.slice (some ⟨p.1,0,none⟩) (pre.length+1) p.2) (fun p W'=>OW tC 1 9 (w.heap.size+5) W' (some ⟨p.1,0,none⟩) (pre.length+1) p.2 (pre++[x])∧BK W' w.heap.size 42 #[.slice none 0 0]) (by decide) (by decide) rfl
   (fun W' hW' hΦ=>?_) (fun p=>?_)
  ·obtain⟨hX2,hX3,hX4⟩:=hΦ
   have hsl:SL tC 1 W' W'.heap.size (some ⟨X,0,none⟩) 1 [x]:=⟨rfl,fun _=>⟨X,0,rfl,hX2.lt,fun i y hy j v hv=>by
    match i,hy with
    |0,hy=>
     cases hy
     match j,hv with
     |0,hv=>cases hv;exact hX2.cell 0
     |j+1,hv=>cases hv⟩⟩
   have hbz:=(HCB.out _ hW').size;obtain⟨A',c',W'',hr1,hap⟩:=oW (P:=Tryz.prog) (c2:=1) 298 298 ie _ 16 Tryz.underlying298 hie hiz his hib rfl (by decide) hX3 hsl pK (by simp[tC,Value.oneCell']) (by have:=HLT.out;omega) (by decide) (by have:=HWL.out;omega)
   rcases A' with _|a'
   ·have:=hap.own.none_.1;omega
   obtain⟨b',rfl,-⟩:=hap.own.at_ pK a' rfl;have hbt:But M W' W'':=⟨hap.bel.os,hap.bel.tape,hap.bel.output,hap.size,fun k hk hne=>hap.far k hk (fun q hq=>by rw[hMA q hq];exact Ne.symm hne)⟩
   have h1:=(HCB.out _ hW').trans hbt;refine⟨(b',c'),W'',?_,⟨hap.own,hX4.same (hap.far _ hX4.lt (fun q hq e=>by have:=(hX3.lt hq).1;omega))⟩,HCC.out _ h1 (HB1.out _ h1)⟩
   clear k3 k4 g2 g3 hW' hbt h1 HCC HCB HB1;simp[execOp,resolve,invoke,builtin,Act.eval,Act.put,hr1,Result.andThen]
  refine aCC ?_
  intro W10 hC10 ⟨hO10,hA10⟩;have hb10:=HCB.out _ hC10;clear hC10 HCC HCB HB1 k3 k4 g2 g3;have hP10:=hb10.bk HI.out.p (Ne.symm hM3);have hG10:=hb10.bk HI.out.g (Ne.symm hM2);have c3:=hG10.cell 0;have f3:=hG10.frozen 0;have hgl:=hG10.lt;simp only[List.getElem?_toArray,List.getElem?_cons_zero]at c3
  gi_wp2_with fail
  have hlp:=(hO10.lt rfl);refine⟨(hb10.keeps hMB _).trans ((KeepsOthers.setCell _ _ _).from _),?_,some ⟨p.1,0,none⟩,p.2,?_⟩
  ·exact(Below.heap_setCell _ _ _ _ (by simp)).trans (hb10.block _ HWL.out (Ne.symm hM4))
  ·have hz:=HI.out.z
   have hzb:=HI.out.b.size;exact⟨hA10.far (p:=⟨w.heap.size+2,0,none⟩) (by simp) _,(hb10.bk HI.out.e (by omega)).far (p:=⟨w.heap.size+2,0,none⟩) (by simp) _,by rw[List.length_append,List.length_singleton];exact hG10.set_ 0 _,hP10.far (p:=⟨w.heap.size+2,0,none⟩) (by simp) _,
    by rw[List.length_append,List.length_singleton];exact hO10.setCell (p:=⟨w.heap.size+2,0,none⟩) (fun q hq=>by cases hq;have:=hlp.1;simp only at this ⊢;omega) _,
    (HI.out.b.trans (hb10.below hMm hzb)).setCell (p:=⟨w.heap.size+2,0,none⟩) (by simp) _,by rw[World.size_setCell];exact Nat.le_trans hz hb10.size⟩
 case done=>
  rintro D xs W hD hxs ⟨A,c,hI⟩ hK;rw[ha0];clear ha0 hw;have hxw:xs=dQ s:=hxs;have hxl:=xM s;have hzW:=hI.z;have hPA0:PA W (w.heap.size+2) W.heap.size xs:=hI.pa (by rw[hxw];omega)
  gi_wp2_with fail
  have HWZ:=Lib.hid (show w.heap.size+5≤W.heap.size from hzW)
  have HDZ:=Lib.hid (show w.heap.size+5≤D by omega)
  have HXL:Hid ((dQ s).length≤100001):=by show _≤_;omega
  clear hzW hxl HSZ hS1 hI1;simp only[show w.heap.size+1+1+1=w.heap.size+3 from rfl,show w.heap.size+1+1=w.heap.size+2 from rfl]
  gi_loopw [22] (fun _ wr=>∃(L0:List NoteR) (r:List Wd) (Ao:Option Addr) (co:Nat),AL w W D s L0 r Ao co wr) (fun _ wr=>u6 wr (w.heap.size+2))
  case atStart=>
   exact⟨[],xs,none,0,⟨by rw[hxw];show Hid (_=_);show _=_;simp[kF],fun x hx=>by rw[hxw]at hx;exact hx,by rw[hxw];simpa using HXL.out,hPA0,hI.o,OW.nil_,hI.e,hI.p,hK,hI.b⟩⟩
  case round=>
   obtain⟨L0,r,Ao,co,HA⟩:=hrel;have HAH:=Lib.hid HA;obtain⟨h5,h6,A',n',c',hB,h1,h2,h3,h4⟩:=HA.p;have c1:=hB.cell 0;have c2:=HA.q.cell 0;have f0:=HA.o.frozen 0;have c0:=HA.o.cell 0;have fe:=HA.er.frozen 0;have ce:=HA.er.cell 0;simp only[List.getElem?_toArray,List.getElem?_cons_zero]at c0 c1 c2 ce
   have H3:=Lib.hid h3;have hlm:=Lib.hid HA.m0;clear HA h3 h4;rcases Nat.eq_zero_or_pos n' with hn0|hn0
   ·subst hn0
    gi_wp2_with fail
    have hr:r=[]:=List.length_eq_zero_iff.1 H3.out.symm;have hsz:=HAH.out.b.size;have hDZ:w.heap.size+5≤D:=HDZ.out;refine aDk ?_ hDZ ((HAH.out.o.set_ 0 _).far (p:=⟨w.heap.size+1,0,none⟩) (by simp) _) ((HAH.out.er.far (p:=⟨w.heap.size,0,none⟩) (by simp) _).set_ 0 _) ((HAH.out.b.setCell (p:=⟨w.heap.size,0,none⟩) (Nat.le_refl _) _).setCell (p:=⟨w.heap.size+1,0,none⟩) (by simp) _)
     (((HAH.out.ow.drop0 (by have:=HWZ.out;omega)).setCell (p:=⟨w.heap.size,0,none⟩) (fun g hg=>?_) _).setCell (p:=⟨w.heap.size+1,0,none⟩) (fun g hg=>?_) _) ?_ ?_
    ·exact(Below.heap_setCell _ _ _ _ (by simp;omega)).trans ((Below.heap_setCell _ _ _ _ (by simp;omega)).trans HAH.out.k)
    ·have:=(HAH.out.ow.lt hg).1;have:=HWZ.out;simp only;omega
    ·have:=(HAH.out.ow.lt hg).1;have:=HWZ.out;simp only;omega
    ·rw[HAH.out.e.out,hr,pN];simp
    ·intro W v0 v1 k0 k1
     have q0:=k0.cell 0;have q1:=k1.cell 0;simp only[List.getElem?_toArray,List.getElem?_cons_zero]at q0 q1
     simp[results,Tryz.results117,go_sem,q0,q1]
   ·have hgt:decide (0<n')=true:=by simpa using hn0
    gi_wp2_with fail
    refine wpIn_region_any (by kernel_rfl) ?_
    change wpAnyIn _ _ _ _ _ _ _ _ _ (World.drew _)
    have hsz:=HAH.out.b.size;have hmem:∀x∈r,x.length≤1000000:=fun x hx=>Nat.le_trans (xN s x (HAH.out.m x hx)) (by omega)
    have hpa:PA wr.drew (w.heap.size+2) W.heap.size r:=HAH.out.p.below (Below.refl _ _).drew;have hK2:wr.drew.heap[D]?=some (.deferred (some [])):=HAH.out.k;have hcl:=aCw _ _ r hmem wr.drew hpa;rcases hp:aQ r with _|⟨nt,r'⟩
    ·have hcl2:Calls Tryz.prog 186 #[.pointer (some ⟨w.heap.size+2,0,none⟩)] wr.drew fun e w'=>e=unE∧(∀tmps,(∀(W:World) (v0 v1:Value),BK W w.heap.size 42 #[v0]→BK W (w.heap.size+1) 36 #[v1]→(results Tryz.f117 tmps).run Tryz.prog W = .ok (.tuple #[v0,v1]) W)→LeavesInM Fence.wide 10 Tryz.prog Tryz.f117 tmps (RA w s) [{ target:=.collected D,args:=#[] },{ target:=.fn (.func 184) #[.pointer (some ⟨w.heap.size,0,none⟩),.pointer (some ⟨w.heap.size+1,0,none⟩)],args:=#[] }]
   (.panicking [{ v:=.iface 295 (.agg #[.int .i64 3]),recovered:=false }]) w'):=by
      refine hcl.mono ?_
      rintro e w' ⟨⟨n1,r1,h1,-⟩|⟨-,rfl⟩,hg⟩
      ·rw[hp]at h1;cases h1
      have hDZ:w.heap.size+5≤D:=HDZ.out;refine⟨rfl,fun tmps hres=>xO ?_ hDZ (HAH.out.o.drew.grownBy hg (by simp)) (HAH.out.er.drew.grownBy hg (by simp)) ?_ ?_ hres⟩
      ·exact(hg.block D (Array.getElem?_eq_some_iff.1 hK2).1 (by simp;omega)).trans hK2
      ·exact HAH.out.b.drew.trans ⟨hg.os,hg.tape,hg.output,hg.size,fun b hb=>hg.block b (by simp;omega) (by simp;omega)⟩
      ·have hn:r≠[]:=fun e=>by have:=H3.out;rw[e]at this;simp at this;omega
       rw[HAH.out.e.out,rT hn hp];rfl
     clear hcl;refine wpAnyIn_ready (rs:=[0,1]) (by kernel_rfl) (by simp) ?_
     refine AllReadyIn.cons rfl (fun K hK=>?_) (AllReadyIn.cons rfl (fun K hK=>?_) AllReadyIn.nil)
     ·go_simp
      refine hK _ _ ?_
      clear hK K;refine wpAnyIn_ready (rs:=[1]) (by kernel_rfl) (by simp) ?_
      refine AllReadyIn.cons rfl (fun K hK=>?_) AllReadyIn.nil
      go_simp
      refine hK _ _ ?_
      clear hK K;refine wpAnyIn_ready (rs:=[2]) (by kernel_rfl) (by simp) ?_
      refine AllReadyIn.cons rfl (fun K hK=>?_) AllReadyIn.nil
      go_simp
      refine cin (hcl2.mono ?_)
      rintro e w' ⟨rfl,hL⟩;refine hL _ ?_
      intro W v0 v1 k0 k1;have q0:=k0.cell 0;have q1:=k1.cell 0;simp only[List.getElem?_toArray,List.getElem?_cons_zero]at q0 q1
      simp[results,Tryz.results117,go_sem,q0,q1]
     ·go_simp
      refine hK _ _ ?_
      clear hK K;refine wpAnyIn_ready (rs:=[0,2]) (by kernel_rfl) (by simp) ?_
      refine AllReadyIn.cons rfl (fun K hK=>?_) (AllReadyIn.cons rfl (fun K hK=>?_) AllReadyIn.nil)
      ·go_simp
       refine hK _ _ ?_
       clear hK K;refine wpAnyIn_ready (rs:=[2]) (by kernel_rfl) (by simp) ?_
       refine AllReadyIn.cons rfl (fun K hK=>?_) AllReadyIn.nil
       go_simp
       refine cin (hcl2.mono ?_)
       rintro e w' ⟨rfl,hL⟩;refine hL _ ?_
       intro W v0 v1 k0 k1;have q0:=k0.cell 0;have q1:=k1.cell 0;simp only[List.getElem?_toArray,List.getElem?_cons_zero]at q0 q1
       simp[results,Tryz.results117,go_sem,q0,q1]
      ·go_simp
       refine cin (hcl2.mono ?_)
       rintro e w' ⟨rfl,hL⟩;refine hL _ ?_
       intro W v0 v1 k0 k1;have q0:=k0.cell 0;have q1:=k1.cell 0;simp only[List.getElem?_toArray,List.getElem?_cons_zero]at q0 q1
       simp[results,Tryz.results117,go_sem,q0,q1]
    ·have HP:=Lib.hid hp
     have HHG:Hid (∀w':World,wr.drew.grownBy w' (some (w.heap.size+2))→(w'.cell? ⟨w.heap.size,0,none⟩=some (.slice Ao L0.length co)∧(w'.alloc (.cells #[.int .i64 nt.k,.int .i64 nt.tu,.int .i64 nt.gr,.int .i64 nt.lo,.int .i64 nt.ch,.int .i64 nt.ton,.int .i64 nt.me,.int .i64 nt.si,.int .i64 nt.wa,.int .i64 nt.ar] 118)).cell? ⟨w.heap.size,0,none⟩=some (.slice Ao L0.length co))∧OW nC 10 118 W.heap.size w' Ao L0.length co L0∧W.heap.size≤w'.heap.size):=by
      intro w' hg;have k:=HAH.out.o.drew.grownBy hg (by simp)
      have k0:=k.cell 0;have k1:=(k.alloc (.cells #[.int .i64 nt.k,.int .i64 nt.tu,.int .i64 nt.gr,.int .i64 nt.lo,.int .i64 nt.ch,.int .i64 nt.ton,.int .i64 nt.me,.int .i64 nt.si,.int .i64 nt.wa,.int .i64 nt.ar] 118)).cell 0;simp only[List.getElem?_toArray,List.getElem?_cons_zero]at k0 k1
      exact⟨⟨k0,k1⟩,HAH.out.ow.keep (fun g hg'=>hg.block _ (HAH.out.ow.lt hg').2 (by have:=(HAH.out.ow.lt hg').1;simp;omega)),Nat.le_trans h6 hg.size⟩
     have HCL:Hid (Calls Tryz.prog 186 #[.pointer (some ⟨w.heap.size+2,0,none⟩)] wr.drew fun e w'=>e = .returned (nA nt)∧PA w' (w.heap.size+2) W.heap.size r'∧wr.drew.grownBy w' (some (w.heap.size+2))):=by
      refine hcl.mono ?_
      rintro e w' ⟨⟨n1,r1,h1,rfl,hP⟩|⟨h1,-⟩,hg⟩
      ·rw[hp]at h1
       injection h1 with h1
       injection h1 with h1 h2
       subst h1;subst h2;exact⟨rfl,hP,hg⟩
      ·rw[hp]at h1;cases h1
     clear hcl hp hpa;have hlm9:Hid (L0.length≤100001):=by show _≤_;have:=hlm.out;omega
     refine wpAnyIn_ready (rs:=[0,1]) (by kernel_rfl) (by simp) ?_
     refine AllReadyIn.cons rfl (fun K hK=>?_) (AllReadyIn.cons rfl (fun K hK=>?_) AllReadyIn.nil)
     ·go_simp
      refine hK _ _ ?_
      clear hK K;refine wpAnyIn_ready (rs:=[1]) (by kernel_rfl) (by simp) ?_
      refine AllReadyIn.cons rfl (fun K hK=>?_) AllReadyIn.nil
      go_simp
      refine hK _ _ ?_
      clear hK K;refine wpAnyIn_ready (rs:=[2]) (by kernel_rfl) (by simp) ?_
      refine AllReadyIn.cons rfl (fun K hK=>?_) AllReadyIn.nil
      go_simp
      refine cin (HCL.out.mono ?_)
      rintro e w' ⟨rfl,hP,hg⟩;refine hK _ _ ?_
      clear hK K;obtain⟨⟨k0,k1⟩,how1,hWw⟩:=HHG.out w' hg;have HPP:=Lib.hid hP;clear hP;refine wpAnyIn_ready (rs:=[3]) (by kernel_rfl) (by simp) ?_
      refine AllReadyIn.cons rfl (fun K hK=>?_) AllReadyIn.nil
      simp only[nA];go_simp
      refine hK _ _ ?_
      clear hK K;refine wpAnyIn_ready (rs:=[4]) (by kernel_rfl) (by simp) ?_
      refine AllReadyIn.cons rfl (fun K hK=>?_) AllReadyIn.nil
      obtain⟨A2,c2',w3,hr1,hap⟩:=lR nt how1 hlm9.out hWw;refine lQ (v:=.slice A2 (L0.length+1) c2') (w':=w3) (by kernel_rfl) (fun _ _=>trivial) (by simp[Oper.semAt,execOp,resolve,invoke,builtin,Act.eval,hr1,Result.andThen]) ?_
      refine hK _ _ ?_
      clear hK K;refine wpAnyIn_ready (rs:=[5]) (by kernel_rfl) (by simp) ?_
      refine AllReadyIn.cons rfl (fun K hK=>?_) AllReadyIn.nil
      obtain⟨k3,f3⟩:=HAH.out.box HWZ.out hg hap;have hst:=HAH.out.step HWZ.out HDZ.out hg HPP.out HP.out hap;have HST:=Lib.hid hst;clear hst hr1 k0 k1 c0 c1 c2 ce;go_simp
      refine hK _ _ ?_
      clear hK K;refine wpAnyIn_done (by kernel_rfl) ?_ _
      gi_wp2_with fail
      exact⟨⟨_,_,_,_,HST.out.1⟩,HST.out.2⟩
     ·go_simp
      refine hK _ _ ?_
      clear hK K;refine wpAnyIn_ready (rs:=[0,2]) (by kernel_rfl) (by simp) ?_
      refine AllReadyIn.cons rfl (fun K hK=>?_) (AllReadyIn.cons rfl (fun K hK=>?_) AllReadyIn.nil)
      ·go_simp
       refine hK _ _ ?_
       clear hK K;refine wpAnyIn_ready (rs:=[2]) (by kernel_rfl) (by simp) ?_
       refine AllReadyIn.cons rfl (fun K hK=>?_) AllReadyIn.nil
       go_simp
       refine cin (HCL.out.mono ?_)
       rintro e w' ⟨rfl,hP,hg⟩;refine hK _ _ ?_
       clear hK K;obtain⟨⟨k0,k1⟩,how1,hWw⟩:=HHG.out w' hg;have HPP:=Lib.hid hP;clear hP;refine wpAnyIn_ready (rs:=[3]) (by kernel_rfl) (by simp) ?_
       refine AllReadyIn.cons rfl (fun K hK=>?_) AllReadyIn.nil
       simp only[nA];go_simp
       refine hK _ _ ?_
       clear hK K;refine wpAnyIn_ready (rs:=[4]) (by kernel_rfl) (by simp) ?_
       refine AllReadyIn.cons rfl (fun K hK=>?_) AllReadyIn.nil
       obtain⟨A2,c2',w3,hr1,hap⟩:=lR nt how1 hlm9.out hWw;refine lQ (v:=.slice A2 (L0.length+1) c2') (w':=w3) (by kernel_rfl) (fun _ _=>trivial) (by simp[Oper.semAt,execOp,resolve,invoke,builtin,Act.eval,hr1,Result.andThen]) ?_
       refine hK _ _ ?_
       clear hK K;refine wpAnyIn_ready (rs:=[5]) (by kernel_rfl) (by simp) ?_
       refine AllReadyIn.cons rfl (fun K hK=>?_) AllReadyIn.nil
       obtain⟨k3,f3⟩:=HAH.out.box HWZ.out hg hap;have hst:=HAH.out.step HWZ.out HDZ.out hg HPP.out HP.out hap;have HST:=Lib.hid hst;clear hst hr1 k0 k1 c0 c1 c2 ce;go_simp
       refine hK _ _ ?_
       clear hK K;refine wpAnyIn_done (by kernel_rfl) ?_ _
       gi_wp2_with fail
       exact⟨⟨_,_,_,_,HST.out.1⟩,HST.out.2⟩
      ·go_simp
       refine cin (HCL.out.mono ?_)
       rintro e w' ⟨rfl,hP,hg⟩;refine hK _ _ ?_
       clear hK K;obtain⟨⟨k0,k1⟩,how1,hWw⟩:=HHG.out w' hg;have HPP:=Lib.hid hP;clear hP;refine wpAnyIn_ready (rs:=[0,3]) (by kernel_rfl) (by simp) ?_
       refine AllReadyIn.cons rfl (fun K hK=>?_) (AllReadyIn.cons rfl (fun K hK=>?_) AllReadyIn.nil)
       ·go_simp
        refine hK _ _ ?_
        clear hK K;refine wpAnyIn_ready (rs:=[3]) (by kernel_rfl) (by simp) ?_
        refine AllReadyIn.cons rfl (fun K hK=>?_) AllReadyIn.nil
        simp only[nA];go_simp
        refine hK _ _ ?_
        clear hK K;refine wpAnyIn_ready (rs:=[4]) (by kernel_rfl) (by simp) ?_
        refine AllReadyIn.cons rfl (fun K hK=>?_) AllReadyIn.nil
        obtain⟨A2,c2',w3,hr1,hap⟩:=lR nt how1 hlm9.out hWw;refine lQ (v:=.slice A2 (L0.length+1) c2') (w':=w3) (by kernel_rfl) (fun _ _=>trivial) (by simp[Oper.semAt,execOp,resolve,invoke,builtin,Act.eval,hr1,Result.andThen]) ?_
        refine hK _ _ ?_
        clear hK K;refine wpAnyIn_ready (rs:=[5]) (by kernel_rfl) (by simp) ?_
        refine AllReadyIn.cons rfl (fun K hK=>?_) AllReadyIn.nil
        obtain⟨k3,f3⟩:=HAH.out.box HWZ.out hg hap;have hst:=HAH.out.step HWZ.out HDZ.out hg HPP.out HP.out hap;have HST:=Lib.hid hst;clear hst hr1 k0 k1 c0 c1 c2 ce;go_simp
        refine hK _ _ ?_
        clear hK K;refine wpAnyIn_done (by kernel_rfl) ?_ _
        gi_wp2_with fail
        exact⟨⟨_,_,_,_,HST.out.1⟩,HST.out.2⟩
       ·simp only[nA]
        go_simp
        refine hK _ _ ?_
        clear hK K;refine wpAnyIn_ready (rs:=[0]) (by kernel_rfl) (by simp) ?_
        refine AllReadyIn.cons rfl (fun K hK=>?_) AllReadyIn.nil
        go_simp
        refine hK _ _ ?_
        clear hK K;refine wpAnyIn_ready (rs:=[4]) (by kernel_rfl) (by simp) ?_
        refine AllReadyIn.cons rfl (fun K hK=>?_) AllReadyIn.nil
        obtain⟨A2,c2',w3,hr1,hap⟩:=lR nt how1 hlm9.out hWw;refine lQ (v:=.slice A2 (L0.length+1) c2') (w':=w3) (by kernel_rfl) (fun _ _=>trivial) (by simp[Oper.semAt,execOp,resolve,invoke,builtin,Act.eval,hr1,Result.andThen]) ?_
        refine hK _ _ ?_
        clear hK K;refine wpAnyIn_ready (rs:=[5]) (by kernel_rfl) (by simp) ?_
        refine AllReadyIn.cons rfl (fun K hK=>?_) AllReadyIn.nil
        obtain⟨k3,f3⟩:=HAH.out.box HWZ.out hg hap;have hst:=HAH.out.step HWZ.out HDZ.out hg HPP.out HP.out hap;have HST:=Lib.hid hst;clear hst hr1 k0 k1 c0 c1 c2 ce;go_simp
        refine hK _ _ ?_
        clear hK K;refine wpAnyIn_done (by kernel_rfl) ?_ _
        gi_wp2_with fail
        exact⟨⟨_,_,_,_,HST.out.1⟩,HST.out.2⟩
end Go.Proofs.YtjlkeoppppfeiaaGreat
