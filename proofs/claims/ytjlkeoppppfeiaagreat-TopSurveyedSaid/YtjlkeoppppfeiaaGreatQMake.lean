/- Lemmas. -/
import Derived.Test.YtjlkeoppppfeiaaGreatQNAll
import Derived.Test.YtjlkeoppppfeiaaGreatQBackM
import Derived.Test.YtjlkeoppppfeiaaGreatQTStab
import Derived.Test.YtjlkeoppppfeiaaGreatQNoteV
import Derived.Test.YtjlkeoppppfeiaaGreatQNRead3
namespace Go.Proofs.YtjlkeoppppfeiaaGreat
open Go.RowKit Go.Shelf Go.Sort Go.Proofs
section
variable {α β:Type} {f:α→List Value} {f':β→List Value} {sz sz':Nat} {e e':TypeId} {base base':Nat} {w w':World} {A A':Option Addr} {n c n' c':Nat} {xs:List α} {ys:List β}
end
theorem aBN:(Tryz.prog.info? 147).map (fun i=>(i.zero,i.size,i.bytes))=some (some (.agg #[.int .i64 0,.int .i64 0,.int .i64 0,.int .i64 0,.int .i64 0,.int .i64 0,.int .i64 0,.int .i64 0,.int .i64 0,.int .i64 0,.int .i64 0,.int .i64 0,.int .i64 0]),13,104):=by kernel_rfl
theorem TS.at_ {w:World} {B n:Nat} {A:Option Addr} {xs:List ThR} (h:SL thC 13 w B A n xs) {k:Nat} (hk:k<xs.length):∃b off,A=some ⟨b,off,none⟩∧b<B ∧
  w.cell? ⟨b,off+k*13,none⟩=some (.int .i64 xs[k].at_)∧w.cell? ⟨b,off+k*13+1,none⟩=some (.int .i64 xs[k].en)∧w.cell? ⟨b,off+k*13+2,none⟩=some (.int .i64 ((xs[k].od:Nat):Int))∧w.cell? ⟨b,off+k*13+3,none⟩=some (.int .i64 xs[k].nk)∧w.cell? ⟨b,off+k*13+4,none⟩=some (.int .i64 xs[k].ntu)∧w.cell? ⟨b,off+k*13+5,none⟩=some (.int .i64 xs[k].ngr)∧w.cell? ⟨b,off+k*13+6,none⟩=some (.int .i64 xs[k].nlo)∧w.cell? ⟨b,off+k*13+7,none⟩=some (.int .i64 xs[k].nch)∧w.cell? ⟨b,off+k*13+8,none⟩=some (.int .i64 xs[k].nto)∧w.cell? ⟨b,off+k*13+9,none⟩=some (.int .i64 xs[k].nme)∧w.cell? ⟨b,off+k*13+10,none⟩=some (.int .i64 xs[k].nsi)∧w.cell? ⟨b,off+k*13+11,none⟩=some (.int .i64 xs[k].nwa)∧w.cell? ⟨b,off+k*13+12,none⟩=some (.int .i64 xs[k].nar):=by
 obtain⟨b,off,e,hb,hc⟩:=h.at_ hk;exact⟨b,off,e,hb,hc 0 _ rfl,hc 1 _ rfl,hc 2 _ rfl,hc 3 _ rfl,hc 4 _ rfl,hc 5 _ rfl,hc 6 _ rfl,hc 7 _ rfl,hc 8 _ rfl,hc 9 _ rfl,hc 10 _ rfl,hc 11 _ rfl,hc 12 _ rfl⟩
theorem aAQ {x:ThR} {w:World} {g:Nat} (h:BK w g 147 #[.int .i64 x.at_,.int .i64 x.en,.int .i64 ((x.od:Nat):Int),.int .i64 x.nk,.int .i64 x.ntu,.int .i64 x.ngr,.int .i64 x.nlo,.int .i64 x.nch,.int .i64 x.nto,.int .i64 x.nme,.int .i64 x.nsi,.int .i64 x.nwa,.int .i64 x.nar]) :
  w.cell? ⟨g,0,none⟩=some (.int .i64 x.at_)∧w.cell? ⟨g,1,none⟩=some (.int .i64 x.en)∧w.cell? ⟨g,2,none⟩=some (.int .i64 ((x.od:Nat):Int))∧w.cell? ⟨g,3,none⟩=some (.int .i64 x.nk)∧w.cell? ⟨g,4,none⟩=some (.int .i64 x.ntu)∧w.cell? ⟨g,5,none⟩=some (.int .i64 x.ngr)∧w.cell? ⟨g,6,none⟩=some (.int .i64 x.nlo)∧w.cell? ⟨g,7,none⟩=some (.int .i64 x.nch)∧w.cell? ⟨g,8,none⟩=some (.int .i64 x.nto)∧w.cell? ⟨g,9,none⟩=some (.int .i64 x.nme)∧w.cell? ⟨g,10,none⟩=some (.int .i64 x.nsi)∧w.cell? ⟨g,11,none⟩=some (.int .i64 x.nwa)∧w.cell? ⟨g,12,none⟩=some (.int .i64 x.nar):=by
 have c0:=h.cell 0;have c1:=h.cell 1;have c2:=h.cell 2;have c3:=h.cell 3;have c4:=h.cell 4;have c5:=h.cell 5;have c6:=h.cell 6;have c7:=h.cell 7;have c8:=h.cell 8;have c9:=h.cell 9;have c10:=h.cell 10;have c11:=h.cell 11;have c12:=h.cell 12;simp only[List.getElem?_toArray,List.getElem?_cons_zero,List.getElem?_cons_succ]at c0 c1 c2 c3 c4 c5 c6 c7 c8 c9 c10 c11 c12
 exact⟨c0,c1,c2,c3,c4,c5,c6,c7,c8,c9,c10,c11,c12⟩
theorem aC3 {w:World} {g:Nat} {v0 v1 v2 v3 v4 v5 v6 v7 v8 v9:Value} (h:BK w g 118 #[v0,v1,v2,v3,v4,v5,v6,v7,v8,v9]) :
  w.cell? ⟨g,0,none⟩=some v0∧w.cell? ⟨g,1,none⟩=some v1∧w.cell? ⟨g,2,none⟩=some v2∧w.cell? ⟨g,3,none⟩=some v3∧w.cell? ⟨g,4,none⟩=some v4∧w.cell? ⟨g,5,none⟩=some v5∧w.cell? ⟨g,6,none⟩=some v6∧w.cell? ⟨g,7,none⟩=some v7∧w.cell? ⟨g,8,none⟩=some v8∧w.cell? ⟨g,9,none⟩=some v9:=by
 have c0:=h.cell 0;have c1:=h.cell 1;have c2:=h.cell 2;have c3:=h.cell 3;have c4:=h.cell 4;have c5:=h.cell 5;have c6:=h.cell 6;have c7:=h.cell 7;have c8:=h.cell 8;have c9:=h.cell 9;simp only[List.getElem?_toArray,List.getElem?_cons_zero,List.getElem?_cons_succ]at c0 c1 c2 c3 c4 c5 c6 c7 c8 c9
 exact⟨c0,c1,c2,c3,c4,c5,c6,c7,c8,c9⟩
theorem OW.bk_ne {α:Type} {f:α→List Value} {sz:Nat} {e e':TypeId} {base:Nat} {w:World} {A:Option Addr} {n c:Nat} {xs:List α} {g:Nat} {cs:Array Value} (h:OW f sz e base w A n c xs) (hb:BK w g e' cs) (hne:e≠e') {a:Addr} (ha:A=some a):a.block≠g:=by
 intro q;obtain⟨c1,h1⟩:=h.ty ha;rw[q,show w.heap[g]?=_ from hb]at h1
 injection h1 with h1
 injection h1 with _ h1
 exact hne h1.symm
theorem aC4 {α:Type} (a:List α) (x:α) (y:List α):a++(([]:List α)++x::y)=a++[x]++y:=by simp
theorem aC5 {α:Type} (a:List α) (l x:α) (y:List α):a++([l]++x::y)=a++[l]++[x]++y:=by simp
theorem aC6 (b:BkR) (e:Int) (f:Bool):mkL b e f []=[]:=by unfold mkL;rfl
theorem aBO {a:Nat} (h:a≤6400):(a+1)*80≤140737488355328:=by omega
theorem aC7 {a:Nat} (h:a≤6400):(a+1+1)*80≤140737488355328:=by omega
theorem uU (k:Nat):decide (k+1=0)=false:=by simp
def RM (w:World) (b:BkR) (R:Road) (e:Ending) (w':World):Prop:=
 Below w.heap.size w w'∧((2000<(makeL b R).length∧e = .returned (.tuple #[.slice none 0 0,.int .i64 4])) ∨
  ((makeL b R).length≤2000∧∃A c,e = .returned (.tuple #[.slice A (makeL b R).length c,.int .i64 0])∧OW nC 10 118 w.heap.size w' A (makeL b R).length c (makeL b R)))
theorem aO {w:World} {g:Nat} {v0 v1 v2:Value} (h:BK w g 26 #[v0,v1,v2]):w.cell? ⟨g,0,none⟩=some v0∧w.cell? ⟨g,1,none⟩=some v1∧w.cell? ⟨g,2,none⟩=some v2:=by
 have c0:=h.cell 0;have c1:=h.cell 1;have c2:=h.cell 2;simp only[List.getElem?_toArray,List.getElem?_cons_zero,List.getElem?_cons_succ]at c0 c1 c2
 exact⟨c0,c1,c2⟩
set_option maxRecDepth 100000 in
set_option maxHeartbeats 8000000 in
theorem lI (b:BkR) (hv:BkOK b) (ba:Option Addr) (bc:Nat) (pa:Option Addr) (pn pc:Nat) (ca:Option Addr) (cn cc:Nat) (ja:Option Addr) (jn jc:Nat) (R:Road) (hR:OK R) (w:World)
  (h:RD w w.heap.size pa pn ca cn ja jn R) (hb:SL iC 1 w w.heap.size ba b.gs.length b.gs) :
  Calls Tryz.prog 12 #[.agg #[.slice pa pn pc,.slice ca cn cc,.slice ja jn jc],bkA ba bc b] w (RM w b R):=by
 have hmo:Tryz.prog.follows .mixedOrders=true:=by kernel_rfl
 obtain⟨w0,hw0⟩ : ∃w0,w0=(w.alloc (.cells #[.slice pa pn pc,.slice ca cn cc,.slice ja jn jc] 26)).alloc (.cells #[.slice ba b.gs.length bc,.int .i64 b.sh,.int .i64 b.lo,.int .i64 b.ra,.int .i64 b.an,.int .i64 b.io,.int .i64 b.st,.int .i64 b.ga,.int .i64 b.le] 31):=⟨_,rfl⟩
 have hX0:BK w0 w.heap.size 26 #[.slice pa pn pc,.slice ca cn cc,.slice ja jn jc]:=by rw[hw0];exact(BK.new w _ _).alloc _
 have hY0:BK w0 (w.heap.size+1) 31 #[.slice ba b.gs.length bc,.int .i64 b.sh,.int .i64 b.lo,.int .i64 b.ra,.int .i64 b.an,.int .i64 b.io,.int .i64 b.st,.int .i64 b.ga,.int .i64 b.le]:=by
  rw[hw0];have:=BK.new (w.alloc (.cells #[.slice pa pn pc,.slice ca cn cc,.slice ja jn jc] 26)) 31 #[.slice ba b.gs.length bc,.int .i64 b.sh,.int .i64 b.lo,.int .i64 b.ra,.int .i64 b.an,.int .i64 b.io,.int .i64 b.st,.int .i64 b.ga,.int .i64 b.le];rw[World.size_alloc]at this;exact this
 have hB0:Below w.heap.size w w0:=by rw[hw0];exact((Below.refl _ w).alloc (Nat.le_refl _) _).alloc (by simp) _
 have hsz0:w0.heap.size=w.heap.size+2:=by rw[hw0];simp
 have HR0:=Lib.hid (h.grow hB0 hB0.size);have HS0:=Lib.hid ((hb.below hB0).more hB0.size);have hcl:chk R=0:=by unfold chk;rw[if_pos ((jR R).2 hR)]
 have HV:=Lib.hid hv;have HOK:=Lib.hid hR;have HX0:=Lib.hid hX0;have HY0:=Lib.hid hY0;have HB0:=Lib.hid hB0;have HSZ:=Lib.hid hsz0;have hjl:R.js.length=jn:=h.j.1.symm;have hcnl:R.cs.length=cn:=h.c.1.symm;have hj200:jn≤200:=by rw[←hjl];exact hR.j1
 have hc1000:cn≤1000:=by rw[←hcnl];exact hR.c1
 have HJL:=Lib.hid hjl;have HCL:=Lib.hid hcnl;obtain⟨x0,x1,x2⟩:=aO hX0;obtain⟨y0,y1,y2,y3,y4,y5,y6,y7,y8⟩:=bk9 hY0;unfold bkA;clear hv hR h hb hX0 hY0 hB0 hsz0 hjl hcnl;go_enter Tryz.func12,Tryz.ntmps12
 go_wp2_with fail
 rw[←hw0];clear hw0;go_wp2_with(first|(go_at_call 52;refine(fD pa pn pc ca cn cc ja jn jc R _ HR0.out).mono ?_;rintro e w1 ⟨rfl,hb1⟩;rw[hcl];obtain⟨y0,y1,y2,y3,y4,y5,y6,y7,y8⟩:=bk9 (HY0.out.below hb1 HY0.out.lt);have HB1:=Lib.hid hb1;clear hb1)|(go_at_call 53;refine(rN b HV.out ba bc _ ((HS0.out.below HB1.out).more HB1.out.size)).mono ?_;rintro e w2 ⟨rfl,hb2⟩;obtain⟨x0,x1,x2⟩:=aO ((HX0.out.below HB1.out HX0.out.lt).below hb2 (Nat.lt_of_lt_of_le HX0.out.lt HB1.out.size));have HB2:=Lib.hid (HB1.out.trans (hb2.mono HB1.out.size));clear hb2))
 have HJ2:Hid (jn≤200):=hj200;have HC2:Hid (cn≤1000):=hc1000;clear hcl x0 x1 x2 y0 y1 y2 y3 y4 y5 y6 y7 y8;go_loopw [6,32] (fun tv iv wr=>∃(k:Nat) (A:Option Addr) (c:Nat),k≤jn∧iv = .int .i64 k∧tv = .slice A (k) c∧OW thC 13 147 w0.heap.size wr A (k) c ((R.js.map jTh).take k)∧Below w0.heap.size w0 wr) (fun _ iv _=>jn-(intOf iv).toNat)
 case atStart=>exact⟨0,none,0,Nat.zero_le _,rfl,rfl,OW.nil_,HB2.out⟩
 case round=>
  obtain⟨k,A,c,hk,rfl,rfl,hO,hbr⟩:=hrel;by_cases hlt:k<jn
  ·have hkl:k<R.js.length:=by rw[HJL.out];exact hlt
   have hw:=(HR0.out.grow hbr hbr.size).j;obtain⟨eb,off,hA,hbB,c0,c1,c2⟩:=JS.at_ hw (k:=k) hkl;subst hA;obtain⟨E,hE⟩ : ∃E,E=R.js[k]:=⟨_,rfl⟩
   rw[←hE]at c0 c1 c2;have HT:Hid ((R.js.map jTh).take (k+1)=(R.js.map jTh).take k++[jTh E]):=by
    show _=_
    rw[hE];rw[List.take_succ_eq_append_getElem (by simpa using hkl),List.getElem_map]
   have HO:=Lib.hid hO;have HBR:=Lib.hid hbr;have hzr:=hbr.size;clear hE hw hO hbr hbB;have hNew:BK ((wr.alloc (.cells #[.int .i64 E.pos,.int .i64 E.arms,.int .i64 E.way] 54)).alloc (.cells #[.int .i64 E.pos,.int .i64 E.pos,.int .i64 0,.int .i64 7,.int .i64 0,.int .i64 0,.int .i64 0,.int .i64 0,.int .i64 0,.int .i64 0,.int .i64 0,.int .i64 E.way,.int .i64 E.arms] 147)) (wr.heap.size+1) 147 #[.int .i64 E.pos,.int .i64 E.pos,.int .i64 0,.int .i64 7,.int .i64 0,.int .i64 0,.int .i64 0,.int .i64 0,.int .i64 0,.int .i64 0,.int .i64 0,.int .i64 E.way,.int .i64 E.arms]:=bk2 _ _ _ _ _;have hf:∀u∈thC (jTh E),u.oneCell'=true:=by simp[thC,jTh,thOf,Value.oneCell']
   have hj200':jn≤200:=HJ2.out;have hc1000':cn≤1000:=HC2.out;go_wp2_with(at_builtin;refine aT rfl _ _ 145 rfl w0.heap.size 147 _ 13 104 Tryz.underlying145 aBN rfl (by decide) thC A (k) c _ rfl ((HO.out.alloc _).alloc _) (jTh E) #[.int .i64 E.pos,.int .i64 E.pos,.int .i64 0,.int .i64 7,.int .i64 0,.int .i64 0,.int .i64 0,.int .i64 0,.int .i64 0,.int .i64 0,.int .i64 0,.int .i64 E.way,.int .i64 E.arms] rfl rfl 147 (wr.heap.size+1) rfl hNew hf (by omega) (by omega) (by simp;omega) ?_;intro g' c9 w8 hap;have HAP:=Lib.hid hap;clear hap)
   have hbN:=((HBR.out.alloc hzr (.cells #[.int .i64 E.pos,.int .i64 E.arms,.int .i64 E.way] 54)).alloc (by simp;omega) (.cells #[.int .i64 E.pos,.int .i64 E.pos,.int .i64 0,.int .i64 7,.int .i64 0,.int .i64 0,.int .i64 0,.int .i64 0,.int .i64 0,.int .i64 0,.int .i64 0,.int .i64 E.way,.int .i64 E.arms] 147)).trans HAP.out.bel
   go_roundw
   case rel=>exact⟨k+1,some ⟨g',0,none⟩,c9,by omega,by go_num,rfl,by rw[HT.out];exact HAP.out.own,hbN⟩
   case measure=>simp[intOf];omega
  ·obtain rfl:jn=k:=by omega
   have hx:(R.js.map jTh).take jn=R.js.map jTh:=by rw[List.take_of_length_le];rw[List.length_map,HJL.out];exact Nat.le_refl _
   rw[hx]at hO;obtain⟨x0,x1,x2⟩:=aO (HX0.out.below hbr HX0.out.lt);have HO:=Lib.hid hO;have HBR:=Lib.hid hbr;clear hx hO hbr hlt hk;go_wp2_with fail
   clear x0 x1 x2;go_loopw [6,53] (fun tv iv wr=>∃(k:Nat) (A:Option Addr) (c:Nat),k≤cn∧iv = .int .i64 k∧tv = .slice A (jn+k) c∧OW thC 13 147 w0.heap.size wr A (jn+k) c (R.js.map jTh++(R.cs.map cTh).take k)∧Below w0.heap.size w0 wr) (fun _ iv _=>cn-(intOf iv).toNat)
   case atStart=>exact⟨0,A,c,Nat.zero_le _,rfl,rfl,by simpa using HO.out,HBR.out⟩
   case round=>
    obtain⟨k,A,c,hk,rfl,rfl,hO,hbr⟩:=hrel;by_cases hlt:k<cn
    ·have hkl:k<R.cs.length:=by rw[HCL.out];exact hlt
     have hw:=(HR0.out.grow hbr hbr.size).c;obtain⟨eb,off,hA,hbB,c0,c1⟩:=CS.at_ hw (k:=k) hkl;subst hA;obtain⟨E,hE⟩ : ∃E,E=R.cs[k]:=⟨_,rfl⟩
     rw[←hE]at c0 c1;have HT:Hid (R.js.map jTh++(R.cs.map cTh).take (k+1)=R.js.map jTh++(R.cs.map cTh).take k++[cTh E]):=by
      show _=_
      rw[hE];rw[List.take_succ_eq_append_getElem (by simpa using hkl),List.getElem_map,List.append_assoc]
     have HO:=Lib.hid hO;have HBR:=Lib.hid hbr;have hzr:=hbr.size;clear hE hw hO hbr hbB;have hNew:BK ((wr.alloc (.cells #[.int .i64 E.pos,.int .i64 E.siz] 52)).alloc (.cells #[.int .i64 E.pos,.int .i64 E.pos,.int .i64 1,.int .i64 5,.int .i64 0,.int .i64 0,.int .i64 0,.int .i64 0,.int .i64 0,.int .i64 0,.int .i64 E.siz,.int .i64 0,.int .i64 0] 147)) (wr.heap.size+1) 147 #[.int .i64 E.pos,.int .i64 E.pos,.int .i64 1,.int .i64 5,.int .i64 0,.int .i64 0,.int .i64 0,.int .i64 0,.int .i64 0,.int .i64 0,.int .i64 E.siz,.int .i64 0,.int .i64 0]:=bk2 _ _ _ _ _;have hf:∀u∈thC (cTh E),u.oneCell'=true:=by simp[thC,cTh,thOf,Value.oneCell']
     have hj200':jn≤200:=HJ2.out;have hc1000':cn≤1000:=HC2.out;go_wp2_with(at_builtin;refine aT rfl _ _ 145 rfl w0.heap.size 147 _ 13 104 Tryz.underlying145 aBN rfl (by decide) thC A (jn+k) c _ rfl ((HO.out.alloc _).alloc _) (cTh E) #[.int .i64 E.pos,.int .i64 E.pos,.int .i64 1,.int .i64 5,.int .i64 0,.int .i64 0,.int .i64 0,.int .i64 0,.int .i64 0,.int .i64 0,.int .i64 E.siz,.int .i64 0,.int .i64 0] rfl rfl 147 (wr.heap.size+1) rfl hNew hf (by omega) (by omega) (by simp;omega) ?_;intro g' c9 w8 hap;have HAP:=Lib.hid hap;clear hap)
     have hbN:=((HBR.out.alloc hzr (.cells #[.int .i64 E.pos,.int .i64 E.siz] 52)).alloc (by simp;omega) (.cells #[.int .i64 E.pos,.int .i64 E.pos,.int .i64 1,.int .i64 5,.int .i64 0,.int .i64 0,.int .i64 0,.int .i64 0,.int .i64 0,.int .i64 0,.int .i64 E.siz,.int .i64 0,.int .i64 0] 147)).trans HAP.out.bel
     go_roundw
     case rel=>exact⟨k+1,some ⟨g',0,none⟩,c9,by omega,by go_num,rfl,by rw[HT.out];exact HAP.out.own,hbN⟩
     case measure=>simp[intOf];omega
    ·obtain rfl:cn=k:=by omega
     have hx:(R.cs.map cTh).take cn=R.cs.map cTh:=by rw[List.take_of_length_le];rw[List.length_map,HCL.out];exact Nat.le_refl _
     rw[hx]at hO;obtain⟨x0,x1,x2⟩:=aO (HX0.out.below hbr HX0.out.lt);obtain⟨y0,y1,y2,y3,y4,y5,y6,y7,y8⟩:=bk9 (HY0.out.below hbr HY0.out.lt);have HO2:=Lib.hid hO;have HBR2:=Lib.hid hbr;clear hx hO hbr hlt hk HO HBR;go_wp2_with fail
     refine(xC b.ga b.le pa pn pc ca cn cc ja jn jc R _ (HR0.out.grow HBR2.out HBR2.out.size) HOK.out (by have:=HV.out.ga1;have:=HV.out.ga2;have:=HV.out.le1;have:=HV.out.le2;simp[lE,inR];omega)).mono ?_
     rintro e w3 ⟨KA,kn,kc,rfl,hK3,hb3⟩;have hO3:=HO2.out.call hb3;have hB3:=HBR2.out.trans (hb3.mono HBR2.out.size);have hK3':=hK3.drop0 HBR2.out.size;have HKL:Hid ((eR b.ga b.le R).length=kn):=hK3.2.symm;have hk2000:kn≤2000:=by rw[←HKL.out];exact Nat.le_trans (pM _ _ _) HOK.out.p2
     have HK2:=Lib.hid hk2000;have HO3:=Lib.hid hO3;have HB3:=Lib.hid hB3;have HK3:=Lib.hid hK3';clear hO3 hB3 hK3 hK3' hb3 HO2 HBR2 x0 x1 x2 y0 y1 y2 y3 y4 y5 y6 y7 y8;go_wp2_with fail
     go_loopw [6,78] (fun tv iv wr=>∃(k:Nat) (A:Option Addr) (c:Nat),k≤kn∧iv = .int .i64 k∧tv = .slice A (jn+cn+k) c∧OW thC 13 147 w0.heap.size wr A (jn+cn+k) c (R.js.map jTh++R.cs.map cTh++((eR b.ga b.le R).map (kTh b)).take k)∧OW kC 7 152 w0.heap.size wr KA kn kc (eR b.ga b.le R)∧Below w0.heap.size w0 wr) (fun _ iv _=>kn-(intOf iv).toNat)
     case atStart=>exact⟨0,A,c,Nat.zero_le _,rfl,rfl,by simpa using HO3.out,HK3.out,HB3.out⟩
     case round=>
      obtain⟨k,A,c,hk,rfl,rfl,hO,hKr,hbr⟩:=hrel;by_cases hlt:k<kn
      ·have hkl:k<(eR b.ga b.le R).length:=by rw[HKL.out];exact hlt
       have hw:=hKr.sl aD2;obtain⟨eb,off,hA,hbB,c0,c1,c2,c3,c4,c5,c6⟩:=KS.at_ hw (k:=k) hkl;subst hA;obtain⟨E,hE⟩ : ∃E,E=(eR b.ga b.le R)[k]:=⟨_,rfl⟩
       have hEm:E∈eR b.ga b.le R:=by rw[hE];exact List.getElem_mem hkl
       have hErad:=wS HOK.out hEm;rw[←hE]at c0 c1 c2 c3 c4 c5 c6;obtain⟨N,hN⟩ : ∃N,N=iN b E:=⟨_,rfl⟩
       have HN:=Lib.hid hN;have hth:kTh b E=thOf E.fr E.til 2 N:=by rw[hN];rfl
       have HT:Hid (R.js.map jTh++R.cs.map cTh++((eR b.ga b.le R).map (kTh b)).take (k+1)=R.js.map jTh++R.cs.map cTh++((eR b.ga b.le R).map (kTh b)).take k++[thOf E.fr E.til 2 N]):=by
        show _=_
        rw[←hth,hE,List.take_succ_eq_append_getElem (by simpa using hkl),List.getElem_map]
        simp only[List.append_assoc]
       have HO:=Lib.hid hO;have HKR:=Lib.hid hKr;have HBR:=Lib.hid hbr;have hzr:=hbr.size;have HER:=Lib.hid hErad;clear hE hw hO hKr hbr hbB hEm hErad hN hth;go_wp2_with fail
       refine dI (fun W1 hW1=>?_)
       have hE1:BK W1 wr.heap.size 152 #[.int .i64 E.fr,.int .i64 E.til,.int .i64 E.turn,.int .i64 E.rad,.int .i64 E.inn,.int .i64 E.out,.int .i64 E.ang]:=by rw[hW1];exact BK.new _ _ _
       have hB1:Below w0.heap.size w0 W1:=by rw[hW1];exact HBR.out.alloc hzr _
       have hO1:OW thC 13 147 w0.heap.size W1 A (jn+cn+k) c (R.js.map jTh++R.cs.map cTh++((eR b.ga b.le R).map (kTh b)).take k):=by rw[hW1];exact HO.out.alloc _
       have hK1:OW kC 7 152 w0.heap.size W1 (some ⟨eb,off,none⟩) kn kc (eR b.ga b.le R):=by rw[hW1];exact HKR.out.alloc _
       clear hW1 c0 c1 c2 c3 c4 c5 c6;obtain⟨y0',y1',y2',y3',y4',y5',y6',y7',y8'⟩:=bk9 (HY0.out.below hB1 HY0.out.lt);obtain⟨z0',z1',z2',z3',z4',z5',z6'⟩:=bk7 hE1;have y0:=fun d os=>cell_regrown y0' d os
       have y1:=fun d os=>cell_regrown y1' d os
       have y2:=fun d os=>cell_regrown y2' d os
       have y3:=fun d os=>cell_regrown y3' d os
       have y4:=fun d os=>cell_regrown y4' d os
       have y5:=fun d os=>cell_regrown y5' d os
       have y6:=fun d os=>cell_regrown y6' d os
       have y7:=fun d os=>cell_regrown y7' d os
       have y8:=fun d os=>cell_regrown y8' d os
       have z0:=fun d os=>cell_regrown z0' d os
       have z1:=fun d os=>cell_regrown z1' d os
       have z2:=fun d os=>cell_regrown z2' d os
       have z3:=fun d os=>cell_regrown z3' d os
       have z4:=fun d os=>cell_regrown z4' d os
       have z5:=fun d os=>cell_regrown z5' d os
       have z6:=fun d os=>cell_regrown z6' d os
       refine aM 10 [7,8,9] hmo (by kernel_rfl) ?_
       simp only[List.take_succ_cons,List.take_zero,List.drop_succ_cons,List.drop_zero]
       repeat (refine aH (by decide) (by decide) (fun K hK=>?_);go_simp;refine hK _ ?_;clear hK K)
       refine fZ (ι:=Unit) 55 #[.agg #[.slice ba b.gs.length bc,.int .i64 b.sh,.int .i64 b.lo,.int .i64 b.ra,.int .i64 b.an,.int .i64 b.io,.int .i64 b.st,.int .i64 b.ga,.int .i64 b.le],.agg #[.int .i64 E.fr,.int .i64 E.til,.int .i64 E.turn,.int .i64 E.rad,.int .i64 E.inn,.int .i64 E.out,.int .i64 E.ang]] (fun _=>.agg #[.int .i64 N.k,.int .i64 N.tu,.int .i64 N.gr,.int .i64 N.lo,.int .i64 N.ch,.int .i64 N.ton,.int .i64 N.me,.int .i64 N.si,.int .i64 N.wa,.int .i64 N.ar]) (fun _ _=>True) (by decide) (by decide) rfl (fun w=>by go_simp) aB (fun _=>aB) (fun W hW _=>?_) (fun i1 hs1=>?_)
       ·obtain⟨p,rfl⟩:=hW
        have hb:=below_regrown W1 p.d p.os;refine(aBD b HV.out ba bc E ⟨HER.out.1.1,Int.le_trans HER.out.1.2 (by omega)⟩ ⟨HER.out.2.1,Int.le_trans HER.out.2.2 (by omega)⟩ _ ((HS0.out.below (hB1.trans (hb.mono hB1.size))).more (Nat.le_trans hB1.size hb.size))).mono ?_
        rintro e w' ⟨rfl,hbl⟩;exact⟨(),by rw[HN.out];rfl,trivial,hbl⟩
       refine aDV (ι:=Unit) (fun _=>.agg #[.int .i64 E.fr,.int .i64 E.til,.int .i64 2,.int .i64 N.k,.int .i64 N.tu,.int .i64 N.gr,.int .i64 N.lo,.int .i64 N.ch,.int .i64 N.ton,.int .i64 N.me,.int .i64 N.si,.int .i64 N.wa,.int .i64 N.ar]) (fun _ _=>True) (by decide) (by decide) rfl hs1 (fun _=>aB) (fun W hW _=>⟨(),W,by go_simp,trivial,Below.refl _ _⟩) (fun i2 hs1'=>?_)
       refine aDV (ι:=Nat) (fun n=>.slice (some ⟨n,0,none⟩) 1 1) (fun n W=>BK W n 147 #[.int .i64 E.fr,.int .i64 E.til,.int .i64 2,.int .i64 N.k,.int .i64 N.tu,.int .i64 N.gr,.int .i64 N.lo,.int .i64 N.ch,.int .i64 N.ton,.int .i64 N.me,.int .i64 N.si,.int .i64 N.wa,.int .i64 N.ar]) (by decide) (by decide) rfl hs1' (fun n x y hh hb=>hh.below hb hh.lt) (fun W hW _=>?_) (fun nb hs2=>?_)
       ·obtain⟨pp,rfl⟩:=hW
        exact⟨_,_,by go_simp,BK.new _ _ _,(Below.refl _ _).alloc (Nat.le_refl _) _⟩
       refine bI ?_
       intro W2 hk2 hΦ;obtain⟨-,hNew⟩:=hΦ;clear hs2 hs1' hs1 y0 y1 y2 y3 y4 y5 y6 y7 y8 z0 z1 z2 z3 z4 z5 z6 y0' y1' y2' y3' y4' y5' y6' y7' y8' z0' z1' z2' z3' z4' z5' z6';have HO2:=Lib.hid (hO1.call hk2);have HKK:=Lib.hid (hK1.call hk2);have hB2':=hB1.trans (hk2.mono hB1.size);have hz2:=hB2'.size;have HB2':=Lib.hid hB2';clear hO1 hK1 hB1 hB2' hk2 hE1;have hf:∀u∈thC (thOf E.fr E.til 2 N),u.oneCell'=true:=by simp[thC,thOf,Value.oneCell']
       have hj200':jn≤200:=HJ2.out;have hc1000':cn≤1000:=HC2.out;have hk2000':kn≤2000:=HK2.out;go_wp2_with(at_builtin;refine aT rfl _ _ 145 rfl w0.heap.size 147 _ 13 104 Tryz.underlying145 aBN rfl (by decide) thC A (jn+cn+k) c _ rfl HO2.out (thOf E.fr E.til 2 N) #[.int .i64 E.fr,.int .i64 E.til,.int .i64 2,.int .i64 N.k,.int .i64 N.tu,.int .i64 N.gr,.int .i64 N.lo,.int .i64 N.ch,.int .i64 N.ton,.int .i64 N.me,.int .i64 N.si,.int .i64 N.wa,.int .i64 N.ar] rfl rfl 147 nb rfl hNew hf (by omega) (by omega) hz2 ?_;intro g' c9 w8 hap;have HAP:=Lib.hid hap;clear hap)
       have hbN:=HB2'.out.trans HAP.out.bel;have hKN:OW kC 7 152 w0.heap.size w8 (some ⟨eb,off,none⟩) kn kc (eR b.ga b.le R):=HKK.out.keep (fun g hg=>HAP.out.far _ (HKK.out.lt hg).2 (fun q hq=>OW.ne (HO2.out) HKK.out (by decide) hq hg))
       go_roundw
       case rel=>exact⟨k+1,some ⟨g',0,none⟩,c9,by omega,by go_num,rfl,by rw[HT.out];exact HAP.out.own,hKN,hbN⟩
       case measure=>simp[intOf];omega
      ·obtain rfl:kn=k:=by omega
       have hx:((eR b.ga b.le R).map (kTh b)).take kn=(eR b.ga b.le R).map (kTh b):=by rw[List.take_of_length_le];rw[List.length_map,HKL.out];exact Nat.le_refl _
       rw[hx]at hO;have HO4:=Lib.hid hO;have HBR4:=Lib.hid hbr;clear hx hO hKr hbr hlt hk;have HTH:Hid (R.js.map jTh++R.cs.map cTh++(eR b.ga b.le R).map (kTh b)=things b R):=by show _=_;unfold things;rw[List.append_assoc]
       go_wp2_with fail
       have hso:=aCO w0.heap.size A (jn+cn+kn) c _ wr HO4.out (by have:=HJ2.out;have:=HC2.out;have:=HK2.out;omega)
       rw[HTH.out]at hso;obtain⟨n,hn⟩ : ∃n,n=jn+cn+kn:=⟨_,rfl⟩
       rw[←hn]at hso ⊢;have HLN:Hid ((sthings b R).length=n):=by
        show _=_
        have h1:=HO4.out.2;rw[HTH.out]at h1;rw[jL,←h1,hn]
       have hn32:n≤3200:=by rw[←HLN.out,jL];exact yK HOK.out
       have HN32:=Lib.hid hn32;clear hn;refine hso.mono ?_
       rintro e w5 ⟨⟨v,rfl⟩,hS5,hg5⟩;have hB5:Below w0.heap.size w0 w5:=HBR4.out.trans ⟨hg5.os,hg5.tape,hg5.output,hg5.size,fun q hq=>hg5.block q (Nat.lt_of_lt_of_le hq HBR4.out.size) (fun e=>by
        rcases A with _|a
        ·cases e
        ·injection e with e
         dsimp only at e
         have:=(HO4.out.lt rfl).1;omega)⟩
       have HS5:Hid (OW thC 13 147 w0.heap.size w5 A n c (sthings b R)):=hS5;have HB5:=Lib.hid hB5;clear hso hS5 hg5 hB5 HO4 HBR4 hn32;go_wp2_with fail
       go_loopw [15,16,98] (fun ov ev iv wr=>∃(k:Nat) (acc:List NoteR) (Ao:Option Addr) (co:Nat) (en:Int),k≤n∧iv = .int .i64 k∧ov = .slice Ao acc.length co∧ev = .int .i64 en∧Hid (makeL b R=acc++mkL b en (decide (k=0)) ((sthings b R).drop k))∧acc.length≤2*k∧(0≤en∧en≤100000)∧OW nC 10 118 w0.heap.size wr Ao acc.length co acc∧OW thC 13 147 w0.heap.size wr A n c (sthings b R)∧Below w0.heap.size w0 wr) (fun _ _ iv _=>n-(intOf iv).toNat)
       case atStart=>exact⟨0,[],none,0,0,Nat.zero_le _,rfl,rfl,rfl,rfl,Nat.le_refl _,⟨by omega,by omega⟩,OW.nil_,HS5.out,HB5.out⟩
       case round=>
        obtain⟨k,acc,Ao,co,en,hk,rfl,rfl,rfl,HQ,hal,hen,hO,hT,hbr⟩:=hrel;by_cases hlt:k<n
        ·have hkl:k<(sthings b R).length:=by rw[HLN.out];exact hlt
         obtain⟨tb,off,hA,hbB,c0,c1,c2,c3,c4,c5,c6,c7,c8,c9,c10,c11,c12⟩:=TS.at_ (hT.sl aJ) hkl;subst hA;obtain⟨E,hE⟩ : ∃E,E=(sthings b R)[k]:=⟨_,rfl⟩
         have hEb:=yJ HOK.out E (by rw[hE];exact List.getElem_mem hkl)
         have hdr:(sthings b R).drop k=E::(sthings b R).drop (k+1):=by rw[hE];exact List.drop_eq_getElem_cons hkl
         rw[←hE]at c0 c1 c2 c3 c4 c5 c6 c7 c8 c9 c10 c11 c12;obtain⟨f,hf⟩ : ∃f,f=decide (k=0):=⟨_,rfl⟩
         obtain⟨d,hd⟩ : ∃d,d=max 0 (E.at_-en):=⟨_,rfl⟩
         have hd1:0≤d∧d≤100000:=by rw[hd];omega
         have HQ2:Hid (makeL b R=acc++((eA b d f).toList++E.nt::mkL b (max en E.en) false ((sthings b R).drop (k+1)))):=by
          show _=_
          rw[HQ.out,hdr,hf,hd]
          rfl
         have hwr1:IntKind.i64.wrap (E.at_-en)=E.at_-en:=IntWalk.i64_in _ (by omega)
         have hf1:((k:Int) == 0)=f:=by rw[hf,Bool.eq_iff_iff];simp
         have hf2:decide ((k:Int)=0)=f:=by rw[hf,Bool.eq_iff_iff];simp
         have hmx:0≤max en E.en∧max en E.en≤100000:=by omega
         have HMX:=Lib.hid hmx;have HAL:=Lib.hid hal;have HO:=Lib.hid hO;have HT:=Lib.hid hT;have HBR:=Lib.hid hbr;have hzr:=hbr.size;have HD:=Lib.hid hd;have HD1:=Lib.hid hd1;clear hE hdr hf hd hd1 hmx hal hO hT hbr hbB hEb HQ;go_upto_region 26 with fail
         refine dI (fun W1 hW1=>?_)
         have hE1:BK W1 wr.heap.size 147 #[.int .i64 E.at_,.int .i64 E.en,.int .i64 ((E.od:Nat):Int),.int .i64 E.nk,.int .i64 E.ntu,.int .i64 E.ngr,.int .i64 E.nlo,.int .i64 E.nch,.int .i64 E.nto,.int .i64 E.nme,.int .i64 E.nsi,.int .i64 E.nwa,.int .i64 E.nar]:=by rw[hW1];exact BK.new _ _ _
         have hB1:Below w0.heap.size w0 W1:=by rw[hW1];exact HBR.out.alloc hzr _
         have hO1:OW nC 10 118 w0.heap.size W1 Ao acc.length co acc:=by rw[hW1];exact HO.out.alloc _
         have hT1:OW thC 13 147 w0.heap.size W1 (some ⟨tb,off,none⟩) n c (sthings b R):=by rw[hW1];exact HT.out.alloc _
         clear hW1 c0 c1 c2 c3 c4 c5 c6 c7 c8 c9 c10 c11 c12;obtain⟨y0,y1,y2,y3,y4,y5,y6,y7,y8⟩:=bk9 (HY0.out.below hB1 HY0.out.lt);obtain⟨x0,x1,x2,x3,x4,x5,x6,x7,x8,x9,x10,x11,x12⟩:=aAQ hE1;have HE1:=Lib.hid hE1;have HB1':=Lib.hid hB1;have HO1:=Lib.hid hO1;have HT1:=Lib.hid hT1;have hEl:=hE1.lt;have HEL:=Lib.hid hEl;clear hE1 hB1 hO1 hT1 hEl;go_wp2_with fail
         rw[show max 0 (E.at_-en)=d from HD.out.symm]
         have hlk:=aCN b HV.out ba bc d f HD1.out.1 (Int.le_trans HD1.out.2 (by omega)) W1
         rcases hl:eA b d f with _|ln
         all_goals rw[hl]at hlk HQ2
         ·refine hlk.mono ?_
          rintro e W2 ⟨rfl,hb2⟩;simp only[noteOr,nA,Option.isSome];have HB2':=Lib.hid (HB1'.out.trans (hb2.mono HB1'.out.size));have HO2:=Lib.hid (HO1.out.call hb2);have HT2:=Lib.hid (HT1.out.call hb2);have HE2:=Lib.hid (HE1.out.below hb2 HEL.out);have hzb:=hb2.size;have hz2:w0.heap.size≤W2.heap.size:=HB2'.out.size;clear hb2 x0 x1 x2 x3 x4 x5 x6 x7 x8 x9 x10 x11 x12 y0 y1 y2 y3 y4 y5 y6 y7 y8;go_upto_region 27 with fail
          refine dI (fun W3 hW3=>?_)
          have hL3:BK W3 W2.heap.size 118 #[.int .i64 0,.int .i64 0,.int .i64 0,.int .i64 0,.int .i64 0,.int .i64 0,.int .i64 0,.int .i64 0,.int .i64 0,.int .i64 0]:=by rw[hW3];exact BK.new _ _ _
          have hE3:BK W3 wr.heap.size 147 #[.int .i64 E.at_,.int .i64 E.en,.int .i64 ((E.od:Nat):Int),.int .i64 E.nk,.int .i64 E.ntu,.int .i64 E.ngr,.int .i64 E.nlo,.int .i64 E.nch,.int .i64 E.nto,.int .i64 E.nme,.int .i64 E.nsi,.int .i64 E.nwa,.int .i64 E.nar]:=by rw[hW3];exact HE2.out.alloc _
          have hB3:Below w0.heap.size w0 W3:=by rw[hW3];exact HB2'.out.alloc hz2 _
          have hO3:OW nC 10 118 w0.heap.size W3 Ao acc.length co acc:=by rw[hW3];exact HO2.out.alloc _
          have hT3:OW thC 13 147 w0.heap.size W3 (some ⟨tb,off,none⟩) n c (sthings b R):=by rw[hW3];exact HT2.out.alloc _
          have hz3:W3.heap.size=W2.heap.size+1:=by rw[hW3];simp
          have HZ3:=Lib.hid hz3;have HNA:Hid (acc.length≤6400):=by show _≤_;have:=HAL.out;have:=HN32.out;omega
          have hn32':n≤3200:=HN32.out;clear hW3 hz3 HB2' HO2 HT2 HE2 hzb hz2;have hz3':=hB3.size;obtain⟨x0,x1,x2,x3,x4,x5,x6,x7,x8,x9,x10,x11,x12⟩:=aAQ hE3;have HE3:=Lib.hid hE3;have HB3':=Lib.hid hB3;have HO3':=Lib.hid hO3;have HT3:=Lib.hid hT3;have hnf:∀u∈nC E.nt,u.oneCell'=true:=by simp[nC,ThR.nt,Value.oneCell']
          clear hE3 hB3 hO3 hT3 hL3;have hNew:BK (W3.alloc (.cells #[.int .i64 E.nk,.int .i64 E.ntu,.int .i64 E.ngr,.int .i64 E.nlo,.int .i64 E.nch,.int .i64 E.nto,.int .i64 E.nme,.int .i64 E.nsi,.int .i64 E.nwa,.int .i64 E.nar] 118)) W3.heap.size 118 #[.int .i64 E.nk,.int .i64 E.ntu,.int .i64 E.ngr,.int .i64 E.nlo,.int .i64 E.nch,.int .i64 E.nto,.int .i64 E.nme,.int .i64 E.nsi,.int .i64 E.nwa,.int .i64 E.nar]:=BK.new _ _ _;have hlen:=aBO HNA.out;go_wp2_with(at_builtin;refine aT rfl _ _ 42 rfl w0.heap.size 118 _ 10 80 Tryz.underlying42 lP rfl (by decide) nC Ao acc.length co _ rfl (HO3'.out.alloc _) E.nt #[.int .i64 E.nk,.int .i64 E.ntu,.int .i64 E.ngr,.int .i64 E.nlo,.int .i64 E.nch,.int .i64 E.nto,.int .i64 E.nme,.int .i64 E.nsi,.int .i64 E.nwa,.int .i64 E.nar] rfl rfl 118 W3.heap.size rfl hNew hnf hlen (by omega) (by simp;omega) ?_;intro g' c9 w8 hap;have HAP:=Lib.hid hap;clear hap;have hE8:=Lib.hid (show BK w8 wr.heap.size 147 #[.int .i64 E.at_,.int .i64 E.en,.int .i64 ((E.od:Nat):Int),.int .i64 E.nk,.int .i64 E.ntu,.int .i64 E.ngr,.int .i64 E.nlo,.int .i64 E.nch,.int .i64 E.nto,.int .i64 E.nme,.int .i64 E.nsi,.int .i64 E.nwa,.int .i64 E.nar] from (HAP.out.far _ (by have:=HE3.out.lt;rw[World.size_alloc];omega) (fun q hq e=>OW.bk_ne HO3'.out HE3.out (by decide) hq e)).trans (HE3.out.alloc _));obtain⟨x0,x1,x2,x3,x4,x5,x6,x7,x8,x9,x10,x11,x12⟩:=aAQ hE8.out)
          have hbN:=(HB3'.out.alloc hz3' (.cells #[.int .i64 E.nk,.int .i64 E.ntu,.int .i64 E.ngr,.int .i64 E.nlo,.int .i64 E.nch,.int .i64 E.nto,.int .i64 E.nme,.int .i64 E.nsi,.int .i64 E.nwa,.int .i64 E.nar] 118)).trans HAP.out.bel;have hTN:OW thC 13 147 w0.heap.size w8 (some ⟨tb,off,none⟩) n c (sthings b R):=(HT3.out.alloc (.cells #[.int .i64 E.nk,.int .i64 E.ntu,.int .i64 E.ngr,.int .i64 E.nlo,.int .i64 E.nch,.int .i64 E.nto,.int .i64 E.nme,.int .i64 E.nsi,.int .i64 E.nwa,.int .i64 E.nar] 118)).keep (fun g hg=>HAP.out.far _ (by have:=(HT3.out.lt hg).2;rw[World.size_alloc];omega) (fun q hq=>OW.ne HO3'.out HT3.out (by decide) hq hg))
          go_roundw
          case rel=>exact⟨k+1,acc++[E.nt],some ⟨g',0,none⟩,c9,max en E.en,by omega,by go_num,by rw[List.length_append];rfl,rfl,by show _=_;rw[uU,HQ2.out];exact aC4 _ _ _,by rw[List.length_append,List.length_singleton];have:=HAL.out;omega,HMX.out,by rw[List.length_append];exact HAP.out.own,hTN,hbN⟩
          case measure=>simp[intOf];omega
         ·refine hlk.mono ?_
          rintro e W2 ⟨rfl,hb2⟩;simp only[noteOr,nA,Option.isSome];have HB2':=Lib.hid (HB1'.out.trans (hb2.mono HB1'.out.size));have HO2:=Lib.hid (HO1.out.call hb2);have HT2:=Lib.hid (HT1.out.call hb2);have HE2:=Lib.hid (HE1.out.below hb2 HEL.out);have hzb:=hb2.size;have hz2:w0.heap.size≤W2.heap.size:=HB2'.out.size;clear hb2 x0 x1 x2 x3 x4 x5 x6 x7 x8 x9 x10 x11 x12 y0 y1 y2 y3 y4 y5 y6 y7 y8;go_upto_region 27 with fail
          refine dI (fun W3 hW3=>?_)
          have hL3:BK W3 W2.heap.size 118 #[.int .i64 ln.k,.int .i64 ln.tu,.int .i64 ln.gr,.int .i64 ln.lo,.int .i64 ln.ch,.int .i64 ln.ton,.int .i64 ln.me,.int .i64 ln.si,.int .i64 ln.wa,.int .i64 ln.ar]:=by rw[hW3];exact BK.new _ _ _
          have hE3:BK W3 wr.heap.size 147 #[.int .i64 E.at_,.int .i64 E.en,.int .i64 ((E.od:Nat):Int),.int .i64 E.nk,.int .i64 E.ntu,.int .i64 E.ngr,.int .i64 E.nlo,.int .i64 E.nch,.int .i64 E.nto,.int .i64 E.nme,.int .i64 E.nsi,.int .i64 E.nwa,.int .i64 E.nar]:=by rw[hW3];exact HE2.out.alloc _
          have hB3:Below w0.heap.size w0 W3:=by rw[hW3];exact HB2'.out.alloc hz2 _
          have hO3:OW nC 10 118 w0.heap.size W3 Ao acc.length co acc:=by rw[hW3];exact HO2.out.alloc _
          have hT3:OW thC 13 147 w0.heap.size W3 (some ⟨tb,off,none⟩) n c (sthings b R):=by rw[hW3];exact HT2.out.alloc _
          have hz3:W3.heap.size=W2.heap.size+1:=by rw[hW3];simp
          have HZ3:=Lib.hid hz3;have HNA:Hid (acc.length≤6400):=by show _≤_;have:=HAL.out;have:=HN32.out;omega
          have hn32':n≤3200:=HN32.out;clear hW3 hz3 HB2' HO2 HT2 HE2 hzb hz2;have hz3':=hB3.size;obtain⟨x0,x1,x2,x3,x4,x5,x6,x7,x8,x9,x10,x11,x12⟩:=aAQ hE3;have HE3:=Lib.hid hE3;have HB3':=Lib.hid hB3;have HO3':=Lib.hid hO3;have HT3:=Lib.hid hT3;have hnf:∀u∈nC E.nt,u.oneCell'=true:=by simp[nC,ThR.nt,Value.oneCell']
          obtain⟨l0,l1,l2,l3,l4,l5,l6,l7,l8,l9⟩:=aC3 hL3;clear hE3 hB3 hO3 hT3 hL3;have hlf:∀u∈nC ln,u.oneCell'=true:=by simp[nC,Value.oneCell']
          have hNew:BK (W3.alloc (.cells #[.int .i64 ln.k,.int .i64 ln.tu,.int .i64 ln.gr,.int .i64 ln.lo,.int .i64 ln.ch,.int .i64 ln.ton,.int .i64 ln.me,.int .i64 ln.si,.int .i64 ln.wa,.int .i64 ln.ar] 118)) W3.heap.size 118 #[.int .i64 ln.k,.int .i64 ln.tu,.int .i64 ln.gr,.int .i64 ln.lo,.int .i64 ln.ch,.int .i64 ln.ton,.int .i64 ln.me,.int .i64 ln.si,.int .i64 ln.wa,.int .i64 ln.ar]:=BK.new _ _ _;have hlen:=aBO HNA.out;have hlen2:=aC7 HNA.out;go_upto_region 29 with(at_builtin;refine aT rfl _ _ 42 rfl w0.heap.size 118 _ 10 80 Tryz.underlying42 lP rfl (by decide) nC Ao acc.length co _ rfl (HO3'.out.alloc _) ln #[.int .i64 ln.k,.int .i64 ln.tu,.int .i64 ln.gr,.int .i64 ln.lo,.int .i64 ln.ch,.int .i64 ln.ton,.int .i64 ln.me,.int .i64 ln.si,.int .i64 ln.wa,.int .i64 ln.ar] rfl rfl 118 W3.heap.size rfl hNew hlf hlen (by omega) (by simp;omega) ?_;intro g1 c1' w8 hap;have HAP:=Lib.hid hap;clear hap;have hE8:=Lib.hid (show BK w8 wr.heap.size 147 #[.int .i64 E.at_,.int .i64 E.en,.int .i64 ((E.od:Nat):Int),.int .i64 E.nk,.int .i64 E.ntu,.int .i64 E.ngr,.int .i64 E.nlo,.int .i64 E.nch,.int .i64 E.nto,.int .i64 E.nme,.int .i64 E.nsi,.int .i64 E.nwa,.int .i64 E.nar] from (HAP.out.far _ (by have:=HE3.out.lt;rw[World.size_alloc];omega) (fun q hq e=>OW.bk_ne HO3'.out HE3.out (by decide) hq e)).trans (HE3.out.alloc _));obtain⟨x0,x1,x2,x3,x4,x5,x6,x7,x8,x9,x10,x11,x12⟩:=aAQ hE8.out;have hz8:=HAP.out.bel.size)
          clear hNew l0 l1 l2 l3 l4 l5 l6 l7 l8 l9;go_wp2_with(at_builtin;refine aT rfl _ _ 42 rfl w0.heap.size 118 _ 10 80 Tryz.underlying42 lP rfl (by decide) nC (some ⟨g1,0,none⟩) (acc.length+1) c1' _ rfl (HAP.out.own.alloc _) E.nt #[.int .i64 E.nk,.int .i64 E.ntu,.int .i64 E.ngr,.int .i64 E.nlo,.int .i64 E.nch,.int .i64 E.nto,.int .i64 E.nme,.int .i64 E.nsi,.int .i64 E.nwa,.int .i64 E.nar] rfl rfl 118 w8.heap.size rfl (BK.new _ _ _) hnf hlen2 (by omega) (by rw[World.size_alloc]at hz8 ⊢;omega) ?_;intro g' c9 w9 hap;have HAP2:=Lib.hid hap;clear hap;have hE9:=Lib.hid (show BK w9 wr.heap.size 147 #[.int .i64 E.at_,.int .i64 E.en,.int .i64 ((E.od:Nat):Int),.int .i64 E.nk,.int .i64 E.ntu,.int .i64 E.ngr,.int .i64 E.nlo,.int .i64 E.nch,.int .i64 E.nto,.int .i64 E.nme,.int .i64 E.nsi,.int .i64 E.nwa,.int .i64 E.nar] from (HAP2.out.far _ (by have:=hE8.out.lt;rw[World.size_alloc];omega) (fun q hq e=>OW.bk_ne HAP.out.own hE8.out (by decide) hq e)).trans (hE8.out.alloc _));obtain⟨x0,x1,x2,x3,x4,x5,x6,x7,x8,x9,x10,x11,x12⟩:=aAQ hE9.out)
          have hb8:=(HB3'.out.alloc hz3' (.cells #[.int .i64 ln.k,.int .i64 ln.tu,.int .i64 ln.gr,.int .i64 ln.lo,.int .i64 ln.ch,.int .i64 ln.ton,.int .i64 ln.me,.int .i64 ln.si,.int .i64 ln.wa,.int .i64 ln.ar] 118)).trans HAP.out.bel;have hbN:=(hb8.alloc hb8.size (.cells #[.int .i64 E.nk,.int .i64 E.ntu,.int .i64 E.ngr,.int .i64 E.nlo,.int .i64 E.nch,.int .i64 E.nto,.int .i64 E.nme,.int .i64 E.nsi,.int .i64 E.nwa,.int .i64 E.nar] 118)).trans HAP2.out.bel;have hT8:OW thC 13 147 w0.heap.size w8 (some ⟨tb,off,none⟩) n c (sthings b R):=(HT3.out.alloc (.cells #[.int .i64 ln.k,.int .i64 ln.tu,.int .i64 ln.gr,.int .i64 ln.lo,.int .i64 ln.ch,.int .i64 ln.ton,.int .i64 ln.me,.int .i64 ln.si,.int .i64 ln.wa,.int .i64 ln.ar] 118)).keep (fun g hg=>HAP.out.far _ (by have:=(HT3.out.lt hg).2;rw[World.size_alloc];omega) (fun q hq=>OW.ne HO3'.out HT3.out (by decide) hq hg))
          have hTN:OW thC 13 147 w0.heap.size w9 (some ⟨tb,off,none⟩) n c (sthings b R):=(hT8.alloc (.cells #[.int .i64 E.nk,.int .i64 E.ntu,.int .i64 E.ngr,.int .i64 E.nlo,.int .i64 E.nch,.int .i64 E.nto,.int .i64 E.nme,.int .i64 E.nsi,.int .i64 E.nwa,.int .i64 E.nar] 118)).keep (fun g hg=>HAP2.out.far _ (by have:=(hT8.lt hg).2;rw[World.size_alloc];omega) (fun q hq=>OW.ne HAP.out.own hT8 (by decide) hq hg))
          go_roundw
          case rel=>exact⟨k+1,acc++[ln]++[E.nt],some ⟨g',0,none⟩,c9,max en E.en,by omega,by go_num,by rw[List.length_append,List.length_append];rfl,rfl,by show _=_;rw[uU,HQ2.out];exact aC5 _ _ _ _,by rw[List.length_append,List.length_append,List.length_singleton,List.length_singleton];have:=HAL.out;omega,HMX.out,by rw[List.length_append,List.length_append];exact HAP2.out.own,hTN,hbN⟩
          case measure=>simp[intOf];omega
        ·obtain rfl:n=k:=by omega
         have hnil:(sthings b R).drop n=[]:=by rw[List.drop_eq_nil_iff,HLN.out];exact Nat.le_refl _
         have hfin:makeL b R=acc:=by rw[HQ.out,hnil,aC6,List.append_nil]
         have HF:=Lib.hid hfin;have hB9:=HB0.out.trans (hbr.mono HB0.out.size);have hO9:=hO.drop0 HB0.out.size;have HB9:=Lib.hid hB9;have HO9:=Lib.hid hO9;clear hnil hfin hB9 hO9 hO hT hbr HQ hal hen;by_cases h2:2000<acc.length
         ·go_wp2_with fail
          all_goals first|(exfalso;omega)|(go_ret2;exact⟨HB9.out,.inl ⟨by rw[HF.out];exact h2,rfl⟩⟩)
         ·go_wp2_with fail
          all_goals first|(exfalso;omega)|(go_ret2;exact⟨HB9.out,.inr ⟨by rw[HF.out];omega,Ao,co,by rw[HF.out];rfl,by rw[HF.out];exact HO9.out⟩⟩)
end Go.Proofs.YtjlkeoppppfeiaaGreat
