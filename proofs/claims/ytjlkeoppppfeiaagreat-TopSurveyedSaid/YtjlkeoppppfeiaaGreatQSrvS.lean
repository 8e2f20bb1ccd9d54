/- Lemmas. -/
import Derived.Test.YtjlkeoppppfeiaaGreatQMr2
import Derived.Test.YtjlkeoppppfeiaaGreatQMend
import Derived.Test.YtjlkeoppppfeiaaGreatQRMan
import Derived.Test.YtjlkeoppppfeiaaGreatQNApl
namespace Go.Proofs.YtjlkeoppppfeiaaGreat
open Go.RowKit Go.Shelf Go.Sort Go.Proofs
def eN (R:Road) (most:Int):Bool:=decide (R.ps.length≤15)&&(decide (R.cs.length≤20)&&(decide (R.js.length≤20)&&(val R&&decide (sumL R.ps≤most))))
theorem qD {R:Road} {most:Int} (h:eN R most=true):OK R∧R.ps.length≤15∧R.cs.length≤20∧R.js.length≤20∧sumL R.ps≤most:=by
 unfold eN at h;simp only[Bool.and_eq_true,decide_eq_true_eq]at h;exact⟨(jR R).1 h.2.2.2.1,h.1,h.2.1,h.2.2.1,h.2.2.2.2⟩
set_option maxRecDepth 100000 in
set_option maxHeartbeats 4000000 in
theorem sF (pa:Option Addr) (pn pc:Nat) (ca:Option Addr) (cn cc:Nat) (ja:Option Addr) (jn jc:Nat) (R:Road) (most:Int) (w:World) (h:RD w w.heap.size pa pn ca cn ja jn R) :
  Calls Tryz.prog 6 #[.agg #[.slice pa pn pc,.slice ca cn cc,.slice ja jn jc],.int .i64 most] w fun e w'=>e = .returned (.bool (eN R most))∧Below w.heap.size w w':=by
 have hlp:=Lib.hid h.p.1;have hlc:=Lib.hid h.c.1;have hlj:=Lib.hid h.j.1;obtain⟨w0,hw0⟩ : ∃w0,w0=w.alloc (.cells #[.slice pa pn pc,.slice ca cn cc,.slice ja jn jc] 26):=⟨_,rfl⟩
 have HX0:Hid (BK w0 w.heap.size 26 #[.slice pa pn pc,.slice ca cn cc,.slice ja jn jc]):=by show BK _ _ _ _;rw[hw0];exact BK.new w _ _
 have HB0:Hid (Below w.heap.size w w0):=by show Below _ _ _;rw[hw0];exact(Below.refl _ w).alloc (Nat.le_refl _) _
 have HR:=Lib.hid h;have hval:=aAo pa pn pc ca cn cc ja jn jc R w0 (h.grow HB0.out HB0.out.size);have HVAL:=Lib.hid hval;obtain⟨r0,r1,r2⟩:=aO HX0.out;clear h hval;by_cases g1:15<pn
 ·have HF:Hid (eN R most=false):=by show _=_;unfold eN;rw[decide_eq_false (show ¬R.ps.length≤15 by rw[←hlp.out];omega)];rfl
  have k1:decide ((15:Int)<(pn:Int))=true:=by simp;omega
  go_enter Tryz.func6,Tryz.ntmps6
  go_wp2_with fail
  rw[←hw0];clear hw0;go_wp2_with fail
  go_ret
  exact⟨by rw[HF.out];rfl,HB0.out⟩
 have k1:decide ((15:Int)<(pn:Int))=false:=by simp;omega
 by_cases g2:20<cn
 ·have HF:Hid (eN R most=false):=by show _=_;unfold eN;rw[decide_eq_false (show ¬R.cs.length≤20 by rw[←hlc.out];omega),Bool.false_and,Bool.and_false]
  have k2:decide ((20:Int)<(cn:Int))=true:=by simp;omega
  go_enter Tryz.func6,Tryz.ntmps6
  go_wp2_with fail
  rw[←hw0];clear hw0;go_wp2_with fail
  go_ret
  exact⟨by rw[HF.out];rfl,HB0.out⟩
 have k2:decide ((20:Int)<(cn:Int))=false:=by simp;omega
 by_cases g3:20<jn
 ·have HF:Hid (eN R most=false):=by show _=_;unfold eN;rw[decide_eq_false (show ¬R.js.length≤20 by rw[←hlj.out];omega),Bool.false_and,Bool.and_false,Bool.and_false]
  have k3:decide ((20:Int)<(jn:Int))=true:=by simp;omega
  go_enter Tryz.func6,Tryz.ntmps6
  go_wp2_with fail
  rw[←hw0];clear hw0;go_wp2_with fail
  go_ret
  exact⟨by rw[HF.out];rfl,HB0.out⟩
 have k3:decide ((20:Int)<(jn:Int))=false:=by simp;omega
 have HQ:Hid (R.ps.length≤15∧R.cs.length≤20∧R.js.length≤20):=⟨by rw[←hlp.out];omega,by rw[←hlc.out];omega,by rw[←hlj.out];omega⟩
 have hp5:pn≤100000:=by omega
 have HFV:Hid (eN R most=(val R&&decide (sumL R.ps≤most))):=by show _=_;unfold eN;rw[decide_eq_true HQ.out.1,decide_eq_true HQ.out.2.1,decide_eq_true HQ.out.2.2,Bool.true_and,Bool.true_and,Bool.true_and]
 clear g1 g2 g3;go_enter Tryz.func6,Tryz.ntmps6
 go_wp2_with fail
 rw[←hw0];clear hw0;go_wp2_with fail
 refine HVAL.out.mono ?_
 rintro e w1 ⟨rfl,hb⟩;have HB1:=Lib.hid (HB0.out.trans (hb.mono HB0.out.size));have HX1:=Lib.hid (HX0.out.below hb HX0.out.lt);clear hb r0 r1 r2;cases hv:val R with
 |false=>
  rw[hv,Bool.false_and]at HFV;clear hv;go_wp2_with fail
  go_ret
  exact⟨by rw[HFV.out];rfl,HB1.out⟩
 |true=>
  have HOK:=Lib.hid ((jR R).1 hv);rw[hv,Bool.true_and]at HFV;obtain⟨r0,r1,r2⟩:=aO HX1.out;clear hv;go_wp2_with fail
  refine(gB pa pn pc ca cn cc ja jn jc R _ (HR.out.grow HB1.out HB1.out.size) HOK.out.pk hp5).mono ?_
  rintro e w2 ⟨rfl,hb⟩;have HB2:=Lib.hid (HB1.out.trans (hb.mono HB1.out.size));clear hb;go_wp2_with fail
  go_ret
  exact⟨by rw[HFV.out];rfl,HB2.out⟩
theorem aCG (a0 a1 b0 b1:Int) (w:World):(Go.binOp .eql 52 (.agg #[.int .i64 a0,.int .i64 a1]) (.agg #[.int .i64 b0,.int .i64 b1])).run Tryz.prog w = .ok (.bool ((a0 == b0)&&(a1 == b1))) w:=by
 by_cases h0:a0=b0
 case neg=>
  have g0:(a0 == b0)=false:=by simpa using h0
  go_simp
 subst h0;by_cases h1:a1=b1
 case neg=>
  have g1:(a1 == b1)=false:=by simpa using h1
  go_simp
 subst h1;go_simp
theorem aDM (a0 a1 a2 b0 b1 b2:Int) (w:World):(Go.binOp .eql 54 (.agg #[.int .i64 a0,.int .i64 a1,.int .i64 a2]) (.agg #[.int .i64 b0,.int .i64 b1,.int .i64 b2])).run Tryz.prog w = .ok (.bool ((a0 == b0)&&(a1 == b1)&&(a2 == b2))) w:=by
 by_cases h0:a0=b0
 case neg=>
  have g0:(a0 == b0)=false:=by simpa using h0
  go_simp
 subst h0;by_cases h1:a1=b1
 case neg=>
  have g1:(a1 == b1)=false:=by simpa using h1
  go_simp
 subst h1;by_cases h2:a2=b2
 case neg=>
  have g2:(a2 == b2)=false:=by simpa using h2
  go_simp
 subst h2;go_simp
set_option maxRecDepth 100000 in
set_option maxHeartbeats 4000000 in
theorem yH (k tu gr lo ch ton me si wa ar:Int) (w:World) (hk:k≠6):Calls Tryz.prog 64 #[.agg #[.int .i64 k,.int .i64 tu,.int .i64 gr,.int .i64 lo,.int .i64 ch,.int .i64 ton,.int .i64 me,.int .i64 si,.int .i64 wa,.int .i64 ar]] w fun e w'=>e = .returned (.bool true)∧Below w.heap.size w w':=by
 obtain⟨w0,hw0⟩ : ∃w0,w0=w.alloc (.cells #[.int .i64 k,.int .i64 tu,.int .i64 gr,.int .i64 lo,.int .i64 ch,.int .i64 ton,.int .i64 me,.int .i64 si,.int .i64 wa,.int .i64 ar] 118):=⟨_,rfl⟩
 have hX:BK w0 w.heap.size 118 #[.int .i64 k,.int .i64 tu,.int .i64 gr,.int .i64 lo,.int .i64 ch,.int .i64 ton,.int .i64 me,.int .i64 si,.int .i64 wa,.int .i64 ar]:=by rw[hw0];exact BK.new w _ _
 have HB0:Hid (Below w.heap.size w w0):=by show Below _ _ _;rw[hw0];exact(Below.refl _ w).alloc (Nat.le_refl _) _
 obtain⟨x0,x1,x2,x3,x4,x5,x6,x7,x8,x9⟩:=aC3 hX;have g0:(k != 6)=true:=by simpa using hk
 clear hX hk;go_enter Tryz.func64,Tryz.ntmps64
 go_wp2_with fail
 rw[←hw0];clear hw0;go_wp2_with fail
 go_ret
 exact⟨rfl,HB0.out⟩
set_option maxRecDepth 100000 in
set_option maxHeartbeats 4000000 in
theorem aCH (A:Option Addr) (n c:Nat) (xs:List NoteR) (w:World) (h:SL nC 10 w w.heap.size A n xs) (hn:n≤300) (hk:∀x∈xs,x.k≠6) :
  Calls Tryz.prog 63 #[.slice A n c,.func (.func 64) #[] #[]] w fun e w'=>∃Ao co,e = .returned (.slice Ao xs.length co)∧OW nC 10 118 w.heap.size w' Ao xs.length co xs∧Below w.heap.size w w':=by
 have HL:=Lib.hid h.1;have HS:=Lib.hid h;have HK:=Lib.hid hk;have HN:=Lib.hid hn;clear h hk hn;go_enter Tryz.func63,Tryz.ntmps63
 go_wp2_with fail
 go_loopw [5,10] (fun ov iv wr=>∃(k:Nat) (Ao:Option Addr) (co:Nat),k≤n∧iv = .int .i64 (k:Nat)∧ov = .slice Ao k co∧OW nC 10 118 w.heap.size wr Ao k co (xs.take k)∧Below w.heap.size w wr) (fun _ iv _=>n-(intOf iv).toNat)
 case atStart=>exact⟨0,none,0,Nat.zero_le _,rfl,rfl,OW.nil_,Below.refl _ _⟩
 case round=>
  obtain⟨k,Ao,co,hk,rfl,rfl,hO,hbr⟩:=hrel;have hn3:n≤300:=HN.out;have HO:=Lib.hid hO;have HBR:=Lib.hid hbr;clear hO hbr;by_cases hkn:k<n
  case neg=>
   obtain rfl:n=k:=by omega
   have hx:xs.take n=xs:=List.take_of_length_le (by rw[←HL.out];exact Nat.le_refl _)
   have HX:=Lib.hid hx;clear hx;go_wp2_with fail
   go_ret
   exact⟨Ao,co,by rw[←HL.out];rfl,by have:=HO.out;rw[HX.out]at this;rw[←HL.out];exact this,HBR.out⟩
  have hkl:k<xs.length:=by rw[←HL.out];exact hkn
  obtain⟨eb,eo,hA,heB,c0,c1',c2',c3,c4,c5,c6,c7,c8,c9⟩:=NS.at_ (HS.out.below HBR.out) hkl;have HT:Hid (xs.take (k+1)=xs.take k++[xs[k]'hkl]):=List.take_succ_eq_append_getElem hkl;have hk6:=HK.out _ (List.getElem_mem hkl)
  generalize xs[k]'hkl=x at *
  subst hA;have hws:=HBR.out.size;clear hkl heB;go_upto_region 5 with fail
  refine dI (fun W1 hW1=>?_)
  have hE1:BK W1 wr.heap.size 118 #[.int .i64 x.k,.int .i64 x.tu,.int .i64 x.gr,.int .i64 x.lo,.int .i64 x.ch,.int .i64 x.ton,.int .i64 x.me,.int .i64 x.si,.int .i64 x.wa,.int .i64 x.ar]:=by rw[hW1];exact BK.new _ _ _
  have HB1:Hid (Below w.heap.size w W1):=by show Below _ _ _;rw[hW1];exact HBR.out.alloc hws _
  have HO1:Hid (OW nC 10 118 w.heap.size W1 Ao k co (xs.take k)):=by show OW _ _ _ _ _ _ _ _ _;rw[hW1];exact HO.out.alloc _
  clear hW1 c0 c1' c2' c3 c4 c5 c6 c7 c8 c9 HO HBR;obtain⟨e0,e1,e2,e3,e4,e5,e6,e7,e8,e9⟩:=aC3 hE1;have HE1:=Lib.hid hE1;have hz1:=hE1.lt;clear hE1;go_wp2_with fail
  refine(yH x.k x.tu x.gr x.lo x.ch x.ton x.me x.si x.wa x.ar _ hk6).mono ?_
  rintro e W2 ⟨rfl,hb⟩;have HB2:=Lib.hid (HB1.out.trans (hb.mono HB1.out.size));have HO2:=Lib.hid (HO1.out.call hb);have HE2:=Lib.hid (HE1.out.below hb hz1);have hz2:=HB2.out.size;clear hb e0 e1 e2 e3 e4 e5 e6 e7 e8 e9 HO1 HE1 HB1 hk6;obtain⟨e0,e1,e2,e3,e4,e5,e6,e7,e8,e9⟩:=aC3 HE2.out;have hNew:BK (W2.alloc (.cells #[.int .i64 x.k,.int .i64 x.tu,.int .i64 x.gr,.int .i64 x.lo,.int .i64 x.ch,.int .i64 x.ton,.int .i64 x.me,.int .i64 x.si,.int .i64 x.wa,.int .i64 x.ar] 118)) W2.heap.size 118 #[.int .i64 x.k,.int .i64 x.tu,.int .i64 x.gr,.int .i64 x.lo,.int .i64 x.ch,.int .i64 x.ton,.int .i64 x.me,.int .i64 x.si,.int .i64 x.wa,.int .i64 x.ar]:=BK.new _ _ _;go_wp2_with(at_builtin;refine aT rfl _ _ 42 rfl w.heap.size 118 _ 10 80 Tryz.underlying42 lP rfl (by decide) nC Ao k co _ rfl (HO2.out.alloc _) x #[.int .i64 x.k,.int .i64 x.tu,.int .i64 x.gr,.int .i64 x.lo,.int .i64 x.ch,.int .i64 x.ton,.int .i64 x.me,.int .i64 x.si,.int .i64 x.wa,.int .i64 x.ar] rfl rfl 118 W2.heap.size rfl hNew (by simp[nC,Value.oneCell']) (by omega) (by omega) (by simp;omega) ?_;intro g' c9 w8 hap;have HAP:=Lib.hid hap;clear hap)
  have hbN:=(HB2.out.alloc hz2 (.cells #[.int .i64 x.k,.int .i64 x.tu,.int .i64 x.gr,.int .i64 x.lo,.int .i64 x.ch,.int .i64 x.ton,.int .i64 x.me,.int .i64 x.si,.int .i64 x.wa,.int .i64 x.ar] 118)).trans HAP.out.bel;go_roundw
  case rel=>exact⟨k+1,some ⟨g',0,none⟩,c9,by omega,by go_num,rfl,by rw[HT.out];exact HAP.out.own,hbN⟩
  case measure=>simp[intOf];omega
theorem aCI {b:BkR} {R:Road}:∀x∈makeL b R,x.k≠6:=by
 unfold makeL;refine sU b (fun n=>n.k≠6) (fun d f n h=>?_) _ _ _ (fun t ht=>?_)
 ·have:=aC9 h
  omega
 ·have h1:=nI _ _ ht
  rcases List.mem_append.1 h1 with h|h
  ·obtain⟨j,hj,rfl⟩:=List.mem_map.1 h
   show (7:Int)≠6
   decide
  rcases List.mem_append.1 h with h|h
  ·obtain⟨c,hc,rfl⟩:=List.mem_map.1 h
   show (5:Int)≠6
   decide
  ·obtain⟨k,hk,rfl⟩:=List.mem_map.1 h
   have h1:=aC8 b k;show (iN b k).k≠6
   omega
theorem tV {w w':World} {b:BkR} {R:Road} {e:Ending} (hl:(makeL b R).length≤2000) (h:RM w b R e w'):Below w.heap.size w w'∧∃A c,e = .returned (.tuple #[.slice A (makeL b R).length c,.int .i64 0])∧OW nC 10 118 w.heap.size w' A (makeL b R).length c (makeL b R):=by
 obtain⟨hb,⟨hk,-⟩|⟨-,h⟩⟩:=h
 ·omega
 ·exact⟨hb,h⟩
theorem mnd_self (L:List NoteR):mnd 0 L L=[]:=by
 have h:=fU (L.length+L.length) 0 L L (Nat.le_refl _);rw[(uY L L).2 rfl]at h;exact List.eq_nil_of_length_eq_zero h
set_option maxRecDepth 100000 in
set_option maxHeartbeats 8000000 in
theorem wP (b:BkR) (hv:BkOK b) (ba:Option Addr) (bc:Nat) (pa:Option Addr) (pn pc:Nat) (ca:Option Addr) (cn cc:Nat) (ja:Option Addr) (jn jc:Nat) (R:Road) (hR:OK R) (A:Option Addr) (n c:Nat) (hn:(makeL b R).length≤300) (w:World)
  (h:RD w w.heap.size pa pn ca cn ja jn R) (hb:SL iC 1 w w.heap.size ba b.gs.length b.gs) (hL:SL nC 10 w w.heap.size A n (makeL b R)) :
  Calls Tryz.prog 15 #[.slice A n c,.agg #[.slice pa pn pc,.slice ca cn cc,.slice ja jn jc],bkA ba bc b] w fun e w'=>(∃A' c',e = .returned (.tuple #[.slice A' 0 c',.int .i64 0]))∧Below w.heap.size w w':=by
 obtain⟨w0,hw0⟩ : ∃w0,w0=(w.alloc (.cells #[.slice pa pn pc,.slice ca cn cc,.slice ja jn jc] 26)).alloc (.cells #[.slice ba b.gs.length bc,.int .i64 b.sh,.int .i64 b.lo,.int .i64 b.ra,.int .i64 b.an,.int .i64 b.io,.int .i64 b.st,.int .i64 b.ga,.int .i64 b.le] 31):=⟨_,rfl⟩
 have HX0:Hid (BK w0 w.heap.size 26 #[.slice pa pn pc,.slice ca cn cc,.slice ja jn jc]):=by show BK _ _ _ _;rw[hw0];exact(BK.new w _ _).alloc _
 have HY0:Hid (BK w0 (w.heap.size+1) 31 #[.slice ba b.gs.length bc,.int .i64 b.sh,.int .i64 b.lo,.int .i64 b.ra,.int .i64 b.an,.int .i64 b.io,.int .i64 b.st,.int .i64 b.ga,.int .i64 b.le]):=by show BK _ _ _ _;rw[hw0];exact bk2 w _ _ _ _
 have HB0:Hid (Below w.heap.size w w0):=by show Below _ _ _;rw[hw0];exact((Below.refl _ w).alloc (Nat.le_refl _) _).alloc (by simp) _
 have HR:=Lib.hid h;have HS:=Lib.hid hb;have HL:=Lib.hid hL;have HV:=Lib.hid hv;have HOK:=Lib.hid hR;have HLN:=Lib.hid hL.1;have HN:=Lib.hid hn;have hval:=mO hv hR;have HVAL:=Lib.hid hval;have hle:nLE (makeL b R)=0:=by
  unfold nLE;rw[if_neg (by omega),if_pos (List.all_eq_true.2 hval)]
 have HLE:=Lib.hid hle;have hcl:chk R=0:=by unfold chk;rw[if_pos ((jR R).2 hR)]
 have HCL:=Lib.hid hcl;have g1:decide ((2000:Int)<(n:Int))=false:=decide_eq_false (by have:=hL.1;omega)
 obtain⟨x0,x1,x2⟩:=aO HX0.out;obtain⟨y0,y1,y2,y3,y4,y5,y6,y7,y8⟩:=bk9 HY0.out;unfold bkA;clear hv hR h hb hL hn hval hle hcl;go_enter Tryz.func15,Tryz.ntmps15
 go_wp2_with fail
 rw[←hw0];clear hw0;go_wp2_with fail
 refine(cO A n c (makeL b R) w0 ((HL.out.below HB0.out).more HB0.out.size)).mono ?_
 rintro e w1 ⟨rfl,hb1⟩;rw[HLE.out];have HB1:=Lib.hid (HB0.out.trans (hb1.mono HB0.out.size));have HX1:=Lib.hid (HX0.out.below hb1 HX0.out.lt);have HY1:=Lib.hid (HY0.out.below hb1 HY0.out.lt);clear hb1 x0 x1 x2 y0 y1 y2 y3 y4 y5 y6 y7 y8;obtain⟨x0,x1,x2⟩:=aO HX1.out;obtain⟨y0,y1,y2,y3,y4,y5,y6,y7,y8⟩:=bk9 HY1.out;go_wp2_with fail
 refine(fD pa pn pc ca cn cc ja jn jc R _ (HR.out.grow HB1.out HB1.out.size)).mono ?_
 rintro e w2 ⟨rfl,hb2⟩;rw[HCL.out];have HB2:=Lib.hid (HB1.out.trans (hb2.mono HB1.out.size));have HX2:=Lib.hid (HX1.out.below hb2 HX1.out.lt);have HY2:=Lib.hid (HY1.out.below hb2 HY1.out.lt);clear hb2 x0 x1 x2 y0 y1 y2 y3 y4 y5 y6 y7 y8;obtain⟨x0,x1,x2⟩:=aO HX2.out;obtain⟨y0,y1,y2,y3,y4,y5,y6,y7,y8⟩:=bk9 HY2.out;go_wp2_with fail
 refine(rN b HV.out ba bc _ ((HS.out.below HB2.out).more HB2.out.size)).mono ?_
 rintro e w3 ⟨rfl,hb3⟩;have HB3:=Lib.hid (HB2.out.trans (hb3.mono HB2.out.size));have HX3:=Lib.hid (HX2.out.below hb3 HX2.out.lt);have HY3:=Lib.hid (HY2.out.below hb3 HY2.out.lt);clear hb3 x0 x1 x2 y0 y1 y2 y3 y4 y5 y6 y7 y8;obtain⟨x0,x1,x2⟩:=aO HX3.out;obtain⟨y0,y1,y2,y3,y4,y5,y6,y7,y8⟩:=bk9 HY3.out;go_wp2_with fail
 have hmk:=lI b HV.out ba bc pa pn pc ca cn cc ja jn jc R HOK.out _ (HR.out.grow HB3.out HB3.out.size) ((HS.out.below HB3.out).more HB3.out.size);unfold bkA at hmk;refine hmk.mono ?_
 clear hmk;intro e w4 hm;obtain⟨hb4,MA,mc,rfl,hO4⟩:=tV (Nat.le_trans HN.out (by decide)) hm
 have HB4:=Lib.hid (HB3.out.trans (hb4.mono HB3.out.size));have HM4:=Lib.hid (hO4.sl jB);clear hm hO4 hb4 x0 x1 x2 y0 y1 y2 y3 y4 y5 y6 y7 y8;go_wp2_with fail
 refine(aCH A n c (makeL b R) w4 ((HL.out.below HB4.out).more HB4.out.size) (by rw[HLN.out];exact HN.out) aCI).mono ?_
 rintro e w5 ⟨KA,kc,rfl,hK,hb5⟩;have HK5:=Lib.hid (hK.sl jB);have HM5:=Lib.hid ((HM4.out.below hb5).more hb5.size);have HB5:=Lib.hid (HB4.out.trans (hb5.mono HB4.out.size));obtain⟨m,hm⟩ : ∃m,m=(makeL b R).length:=⟨_,rfl⟩
 have HMM:=Lib.hid hm;have hm3:m≤300:=by rw[hm];exact HN.out
 have g2:decide ((300:Int)<(m:Int))=false:=decide_eq_false (by omega)
 rw[←hm]at HK5 HM5 ⊢;clear hK hb5 hm HM4;go_wp2_with fail
 refine(o9 (makeL b R) (makeL b R) KA m kc MA m mc _ HK5.out HM5.out hm3 hm3).mono ?_
 rintro e w6 ⟨EA,ec,rfl,-,hb6⟩;rw[mnd_self];have HB6:=Lib.hid (HB5.out.trans (hb6.mono HB5.out.size));clear hb6;go_wp2_with fail
 go_ret2
 exact⟨⟨EA,ec,rfl⟩,HB6.out⟩
end Go.Proofs.YtjlkeoppppfeiaaGreat
