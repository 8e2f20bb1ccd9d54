/- Lemmas. -/
import Derived.Maps.OwnSet
import Derived.StringKeys
import Derived.Test.YtjlkeoppppfeiaaGreatQNRead3
import Derived.Test.YtjlkeoppppfeiaaGreatQNoteP
namespace Go.Proofs.YtjlkeoppppfeiaaGreat
open Go.RowKit Go.Shelf Go.Sort Go.Proofs
theorem xQ (A:Option Addr) (n c:Nat) (xs:List Wd) (v:Wd) (w:World) (h:SL tC 1 w w.heap.size A n xs) (hn:n≤1000) :
  Calls Tryz.prog 283 #[.slice A n c,.string (nbs v)] w fun e w'=>∃i:Int,e = .returned (.int .i64 i)∧((∃k:Nat,i=(k:Int)∧xs[k]?=some v)∨(i = -1∧v∉xs))∧w=w':=by
 have HL:=Lib.hid h.1;have HS:=Lib.hid h;clear h;go_enter Tryz.func283,Tryz.ntmps283
 go_wp2_with fail
 go_loopw [8] (fun i wr=>∃k:Nat,k≤n∧i = .int .i64 k∧v∉xs.take k∧wr=w)
  (fun i _=>n-(intOf i).toNat)
 case atStart=>exact⟨0,Nat.zero_le _,rfl,by simp,rfl⟩
 case round=>
  obtain⟨k,hk1,rfl,hnot,rfl⟩:=hrel;have HNOT:=Lib.hid hnot;clear hnot;by_cases hlt:k<n
  ·have hkl:k<xs.length:=by rw[←HL.out];exact hlt
   obtain⟨b,off,hA,hbB,hc⟩:=HS.out.at_ hkl;have c0:=hc 0 _ rfl;simp only[Nat.mul_one,Nat.add_zero]at c0;have HT:Hid (xs.take (k+1)=xs.take k++[xs[k]]):=by show _=_;rw[List.take_add_one,List.getElem?_eq_getElem hkl];rfl
   have HK:Hid (xs[k]?=some xs[k]):=List.getElem?_eq_getElem hkl
   generalize xs[k]'hkl=x at *
   subst hA;have gk:decide ((k:Int)<(n:Int))=true:=decide_eq_true (by omega)
   have gkN:decide (k<n)=true:=decide_eq_true hlt;clear hc;by_cases hx:v=x
   ·have gx:((nbs v).toList == (nbs x).toList)=true:=by rw[oN];simpa using hx
    have HX:=Lib.hid hx;clear hx;go_wp2_with fail
    go_ret
    exact⟨_,rfl,.inl ⟨k,rfl,by rw[HX.out];exact HK.out⟩,rfl⟩
   ·have gx:((nbs v).toList == (nbs x).toList)=false:=by rw[oN];simpa using hx
    have HX:=Lib.hid hx;clear hx;go_wp2_with fail
    go_roundw
    case rel=>exact⟨k+1,by omega,by go_num,by rw[HT.out];simp only[List.mem_append,List.mem_singleton,not_or];exact⟨HNOT.out,HX.out⟩,trivial⟩
    case measure=>simp[intOf];omega
  ·obtain rfl:k=n:=by omega
   have gk:decide ((k:Int)<(k:Int))=false:=decide_eq_false (by omega)
   have hx:xs.take k=xs:=by rw[HL.out,List.take_length]
   rw[hx]at HNOT;go_wp2_with fail
   go_ret
   exact⟨_,rfl,.inr ⟨rfl,HNOT.out⟩,rfl⟩
theorem aB4 {w:World} {b:Nat} (h:BK w b 9 aBc):SL tC 1 w w.heap.size (some ⟨b,0,none⟩) 3 [cL,dJ,bJ]:=
 ⟨rfl,fun _=>⟨b,0,rfl,h.lt,fun i x hx j v hv=>by
  match i,hx with
  |0,hx|1,hx|2,hx=>
   cases hx
   match j,hv with
   |0,hv=>cases hv;exact h.cell _
   |j+1,hv=>cases hv⟩⟩
theorem aB5 {v:Wd} {si k:Nat} (h:[cL,dJ,bJ][si]?=some v) (h2:[cL,dJ,bJ][k]?=some v):k=si:=by
 have hs:si<3:=(List.getElem?_eq_some_iff.1 h).1
 have hk:k<3:=(List.getElem?_eq_some_iff.1 h2).1
 rw[←h]at h2;rcases(show si=0∨si=1∨si=2 by omega) with rfl|rfl|rfl<;>rcases(show k=0∨k=1∨k=2 by omega) with rfl|rfl|rfl<;>first|rfl|(revert h2;decide)
theorem pG (g:Nat) (v:Wd) (si:Nat) (h:[cL,dJ,bJ][si]?=some v) (w:World) :
  Calls Tryz.prog 237 #[.pointer (some ⟨g,0,none⟩),.string (nbs v)] w fun e w'=>e = .returned (nA ⟨5,0,0,0,0,0,0,((si+1:Nat):Int),0,0⟩)∧Below w.heap.size w w':=by
 have HS:=Lib.hid h;have hs:si<3:=(List.getElem?_eq_some_iff.1 h).1
 clear h;obtain⟨w0,hw0⟩ : ∃w0,w0=w.alloc (.cells #[.int .i64 0,.int .i64 0,.int .i64 0,.int .i64 0,.int .i64 0,.int .i64 0,.int .i64 0,.int .i64 0,.int .i64 0,.int .i64 0] 118):=⟨_,rfl⟩
 have hB0:Below w.heap.size w w0:=by rw[hw0];exact(Below.refl _ _).alloc (Nat.le_refl _) _
 have hX0:BK w0 w.heap.size 118 #[.int .i64 0,.int .i64 0,.int .i64 0,.int .i64 0,.int .i64 0,.int .i64 0,.int .i64 0,.int .i64 0,.int .i64 0,.int .i64 0]:=by rw[hw0];exact BK.new w _ _
 go_enter Tryz.func237,Tryz.ntmps237
 go_wp2_with fail
 rw[←hw0];clear hw0;refine(vG w0).mono ?_
 rintro e w1 ⟨b,rfl,hbk,hk⟩;have hX1:=hX0.below hk hX0.lt;have hB1:=hB0.trans (hk.mono hB0.size);have HC:=aB4 hbk;clear hX0 hB0 hk hbk;go_wp2_with fail
 refine(xQ _ 3 3 _ v w1 HC (by decide)).mono ?_
 rintro e w' ⟨i,rfl,hi,rfl⟩;have hi:i=(si:Int):=by
  rcases hi with⟨k,rfl,hk⟩|⟨-,hk⟩
  ·rw[aB5 HS.out hk]
  ·exact absurd (List.mem_of_getElem? HS.out) hk
 subst hi;have hwr:IntKind.i64.wrap ((si:Int)+1)=((si+1:Nat):Int):=by rw[IntWalk.i64_in _ (by omega)];omega
 have f0:=hX1.frozen 0;have f1:=hX1.frozen 1;have f2:=hX1.frozen 2;have f3:=hX1.frozen 3;have f4:=hX1.frozen 4;have f5:=hX1.frozen 5;have f6:=hX1.frozen 6;have f7:=hX1.frozen 7;have f8:=hX1.frozen 8;have f9:=hX1.frozen 9;have x0:=hX1.cell 0;have x1:=hX1.cell 1;have x2:=hX1.cell 2;have x3:=hX1.cell 3;have x4:=hX1.cell 4;have x5:=hX1.cell 5;have x6:=hX1.cell 6;have x7:=hX1.cell 7;have x8:=hX1.cell 8;have x9:=hX1.cell 9;simp only[List.getElem?_toArray,List.getElem?_cons_zero,List.getElem?_cons_succ]at x0 x1 x2 x3 x4 x5 x6 x7 x8 x9
 clear HC;go_wp2_with fail
 exact bodyPost_ret (aF (t:=4) rfl _ _ _ _ rfl rfl (hX1.set10 rfl)) rfl ⟨rfl,bM hB1 (Nat.le_refl _)⟩
open Go.Maps
theorem World.grownBy.refl' (w:World) (row:Option Nat):w.grownBy w row:=⟨rfl,rfl,rfl,Nat.le_refl _,fun _ _ _=>rfl⟩
theorem qH:Keyed Tryz.prog 9:=string_keyed Tryz.underlying9
def Rm:Value→Option (DataW Unit×List MemPlace)
 | .func (.func f) fi cp=>(match fi.toList,cp.toList with | [.pointer (some ⟨b,0,none⟩)],[]=>some (.agg [.lit (.int .i64 f),.lit (.int .i64 b)],[])|_,_=>none)
 | .nilFunc=>some (.nil,[])
 |_=>none
def dF (f g:Nat):DataW Unit:=.agg [.lit (.int .i64 f),.lit (.int .i64 g)]
theorem tA (f g:Nat):Rm (.func (.func f) #[.pointer (some ⟨g,0,none⟩)] #[])=some (dF f g,[]):=rfl
theorem iE {v:Value} {f g:Nat} {ps:List MemPlace} (h:Rm v=some (dF f g,ps)):v = .func (.func f) #[.pointer (some ⟨g,0,none⟩)] #[]:=by
 unfold Rm at h
 split at h
 ·rename_i f2 fi cp
  split at h
  ·rename_i b h1 h2
   simp only[dF,Option.some.injEq,Prod.mk.injEq,DataW.agg.injEq,List.cons.injEq,DataW.lit.injEq,Lit.int.injEq,true_and,and_true,Int.natCast_inj]at h;obtain⟨⟨rfl,rfl⟩,-⟩:=h;obtain⟨l⟩:=fi;obtain⟨l2⟩:=cp;simp only at h1 h2;subst h1;subst h2
   rfl
  ·cases h
 ·simp[dF]at h
 ·cases h
def kT (v:Wd):Lit:=.string v
theorem aB6 (v:Wd):WideAt.IsKeyLit (kT v):=by simp[kT,WideAt.IsKeyLit]
theorem qI (v:Wd) (h:v.length≤1000000):keyOf Tryz.prog 9 (.string (nbs v))=some (kT v):=by
 rw[WideMaps.keyOf_string_mk Tryz.underlying9 (by rw[cS];unfold maxLen;omega)]
 simp[nbs,kT]
theorem aB7 {a b:Wd} (h:a≠b):kT a≠kT b:=fun hh=>h (by injection hh)
def pH (g:Nat):List (Wd×DataW Unit):=[(eD,dF 235 g),(iT,dF 236 g),(cL,dF 237 g),(dJ,dF 237 g),(bJ,dF 237 g),([33],dF 238 g),([33,33],dF 238 g),([33,33,33],dF 238 g),(bD,dF 239 g)]
structure TM (D:DataW Unit) (l:List (Wd×DataW Unit)):Prop where
 m:IsMap D
 t:∀v d,(v,d)∈l→Maps.has D (kT v)=true∧∀z,D.atKey (kT v) z=d
 n:∀v,(∀d,(v,d)∉l)→Maps.has D (kT v)=false
theorem TM.nil (hm:IsMap (.map []:DataW Unit)):TM (.map []) []:=⟨hm,(fun _ _ h=>by cases h),(fun _ _=>rfl)⟩
theorem TM.put {D:DataW Unit} {l:List (Wd×DataW Unit)} (h:TM D l) (v:Wd) (d:DataW Unit) (hm:IsMap (D.put (kT v) d)) (hv:∀d',(v,d')∉l):TM (D.put (kT v) d) (l++[(v,d)]):=by
 refine⟨hm,fun u e hu=>?_,fun u hu=>?_⟩
 ·rcases List.mem_append.1 hu with hu|hu
  ·have hne:u≠v:=fun hh=>hv e (hh▸hu)
   rw[has_put_other (aB7 hne)];refine⟨(h.t u e hu).1,fun z=>?_⟩
   rw[atKey_put_other (aB7 hne)];exact(h.t u e hu).2 z
  ·simp only[List.mem_singleton,Prod.mk.injEq]at hu
   obtain⟨rfl,rfl⟩:=hu;exact⟨has_put_same h.m (aB6 u) _,fun z=>atKey_put_same h.m (aB6 u) _ z⟩
 ·have hne:u≠v:=fun hh=>hu d (by rw[hh];simp)
  rw[has_put_other (aB7 hne)];exact h.n u fun d' hd=>hu d' (List.mem_append.2 (.inl hd))
set_option maxRecDepth 100000 in
set_option maxHeartbeats 8000000 in
theorem aEd (g:Nat) (w:World):∃(D:DataW Unit) (w9:World),w9.ownsMap Tryz.prog 9 Rm w.heap.size 9 D∧TM D (pH g)∧(w.alloc (.map #[] 0)).grownBy w9 (some w.heap.size) ∧
  ∃w1 w2 w3 w4 w5 w6 w7 w8:World,(Instr.mapUpdate 358 (.map (some w.heap.size)) (.string (ByteArray.mk #[105,110,116,111])) (.func (.func 235) #[.pointer (some ⟨g,0,none⟩)] #[])).run Tryz.prog (w.alloc (.map #[] 0)) = .ok () w1∧(Instr.mapUpdate 358 (.map (some w.heap.size)) (.string (ByteArray.mk #[97,110,100])) (.func (.func 236) #[.pointer (some ⟨g,0,none⟩)] #[])).run Tryz.prog w1 = .ok () w2∧(Instr.mapUpdate 358 (.map (some w.heap.size)) (.string (ByteArray.mk #[99,114,101,115,116])) (.func (.func 237) #[.pointer (some ⟨g,0,none⟩)] #[])).run Tryz.prog w2 = .ok () w3∧(Instr.mapUpdate 358 (.map (some w.heap.size)) (.string (ByteArray.mk #[106,117,109,112])) (.func (.func 237) #[.pointer (some ⟨g,0,none⟩)] #[])).run Tryz.prog w3 = .ok () w4∧(Instr.mapUpdate 358 (.map (some w.heap.size)) (.string (ByteArray.mk #[98,105,103,106,117,109,112])) (.func (.func 237) #[.pointer (some ⟨g,0,none⟩)] #[])).run Tryz.prog w4 = .ok () w5∧(Instr.mapUpdate 358 (.map (some w.heap.size)) (.string (ByteArray.mk #[33])) (.func (.func 238) #[.pointer (some ⟨g,0,none⟩)] #[])).run Tryz.prog w5 = .ok () w6∧(Instr.mapUpdate 358 (.map (some w.heap.size)) (.string (ByteArray.mk #[33,33])) (.func (.func 238) #[.pointer (some ⟨g,0,none⟩)] #[])).run Tryz.prog w6 = .ok () w7∧(Instr.mapUpdate 358 (.map (some w.heap.size)) (.string (ByteArray.mk #[33,33,33])) (.func (.func 238) #[.pointer (some ⟨g,0,none⟩)] #[])).run Tryz.prog w7 = .ok () w8∧(Instr.mapUpdate 358 (.map (some w.heap.size)) (.string (ByteArray.mk #[106,117,110,99,116,105,111,110])) (.func (.func 239) #[.pointer (some ⟨g,0,none⟩)] #[])).run Tryz.prog w8 = .ok () w9:=by
 have ho0:=World.ownsMap_made (H:=Unit) w Tryz.prog 9 Rm;have ht0:=TM.nil ho0.isMap;have hg0:=World.grownBy.refl' (w.alloc (.map #[] 0)) (some w.heap.size);obtain⟨w1,hr1,ho1,hu1⟩:=ho0.update qH Tryz.underlying358 (by decide) (qI [105,110,116,111] (by decide)) (tA 235 g)
 have ht1:=ht0.put [105,110,116,111] (dF 235 g) ho1.isMap (by intro d hd;simp at hd)
 have hg1:=hg0.trans hu1;obtain⟨w2,hr2,ho2,hu2⟩:=ho1.update qH Tryz.underlying358 (by decide) (qI [97,110,100] (by decide)) (tA 236 g)
 have ht2:=ht1.put [97,110,100] (dF 236 g) ho2.isMap (by intro d hd;simp at hd)
 have hg2:=hg1.trans hu2;obtain⟨w3,hr3,ho3,hu3⟩:=ho2.update qH Tryz.underlying358 (by decide) (qI [99,114,101,115,116] (by decide)) (tA 237 g)
 have ht3:=ht2.put [99,114,101,115,116] (dF 237 g) ho3.isMap (by intro d hd;simp at hd)
 have hg3:=hg2.trans hu3;obtain⟨w4,hr4,ho4,hu4⟩:=ho3.update qH Tryz.underlying358 (by decide) (qI [106,117,109,112] (by decide)) (tA 237 g)
 have ht4:=ht3.put [106,117,109,112] (dF 237 g) ho4.isMap (by intro d hd;simp at hd)
 have hg4:=hg3.trans hu4;obtain⟨w5,hr5,ho5,hu5⟩:=ho4.update qH Tryz.underlying358 (by decide) (qI [98,105,103,106,117,109,112] (by decide)) (tA 237 g)
 have ht5:=ht4.put [98,105,103,106,117,109,112] (dF 237 g) ho5.isMap (by intro d hd;simp at hd)
 have hg5:=hg4.trans hu5;obtain⟨w6,hr6,ho6,hu6⟩:=ho5.update qH Tryz.underlying358 (by decide) (qI [33] (by decide)) (tA 238 g)
 have ht6:=ht5.put [33] (dF 238 g) ho6.isMap (by intro d hd;simp at hd)
 have hg6:=hg5.trans hu6;obtain⟨w7,hr7,ho7,hu7⟩:=ho6.update qH Tryz.underlying358 (by decide) (qI [33,33] (by decide)) (tA 238 g)
 have ht7:=ht6.put [33,33] (dF 238 g) ho7.isMap (by intro d hd;simp at hd)
 have hg7:=hg6.trans hu7;obtain⟨w8,hr8,ho8,hu8⟩:=ho7.update qH Tryz.underlying358 (by decide) (qI [33,33,33] (by decide)) (tA 238 g)
 have ht8:=ht7.put [33,33,33] (dF 238 g) ho8.isMap (by intro d hd;simp at hd)
 have hg8:=hg7.trans hu8;obtain⟨w9,hr9,ho9,hu9⟩:=ho8.update qH Tryz.underlying358 (by decide) (qI [106,117,110,99,116,105,111,110] (by decide)) (tA 239 g)
 have ht9:=ht8.put [106,117,110,99,116,105,111,110] (dF 239 g) ho9.isMap (by intro d hd;simp at hd)
 have hg9:=hg8.trans hu9;exact⟨_,w9,ho9,ht9,hg9,w1,w2,w3,w4,w5,w6,w7,w8,hr1,hr2,hr3,hr4,hr5,hr6,hr7,hr8,hr9⟩
theorem aB8 (x:Wd) (c:UInt8) (w:World):Calls Tryz.prog 241 #[.string (nbs x),.string (ByteArray.mk #[c])] w fun e w'=>e = .returned (.bool (x.head? == some c))∧w=w':=by
 refine(jA (nbs x) (ByteArray.mk #[c]) w).mono ?_
 rintro e w' ⟨rfl,rfl⟩;refine⟨congrArg (fun b=>Ending.returned (Value.bool b)) ?_,rfl⟩
 cases x with
 |nil=>rfl
 |cons a t=>
  show List.isPrefixOf [c] (a::t)=(some a == some c)
  rw[Bool.eq_iff_iff];simp only[List.isPrefixOf,Bool.and_true,beq_iff_eq,Option.some.injEq];exact⟨Eq.symm,Eq.symm⟩
set_option maxRecDepth 100000 in
set_option maxHeartbeats 8000000 in
theorem aCw (g B:Nat) (ws:List Wd) (hlen:∀x∈ws,x.length≤1000000) (w:World) (h:PA w g B ws) :
  Calls Tryz.prog 186 #[.pointer (some ⟨g,0,none⟩)] w fun e w'=>((∃n r,aQ ws=some (n,r)∧e = .returned (nA n)∧PA w' g B r)∨(aQ ws=none∧e=unE))∧w.grownBy w' (some g):=by
 have hmm:=@run_makeMap Tryz.prog;obtain⟨hgl,hBw⟩:=h.lt;obtain⟨w0,hw0⟩ : ∃w0,w0=w.alloc (.cells #[.int .i64 0,.int .i64 0,.int .i64 0,.int .i64 0,.int .i64 0,.int .i64 0,.int .i64 0,.int .i64 0,.int .i64 0,.int .i64 0] 118):=⟨_,rfl⟩
 have hG0:w.grownBy w0 (some g):=by rw[hw0];exact World.grownBy_alloc w _ _
 have hX0:BK w0 w.heap.size 118 #[.int .i64 0,.int .i64 0,.int .i64 0,.int .i64 0,.int .i64 0,.int .i64 0,.int .i64 0,.int .i64 0,.int .i64 0,.int .i64 0]:=by rw[hw0];exact BK.new w _ _
 have hP0:PA w0 g B ws:=h.grown (row:=none) (by rw[hw0];exact World.grownBy_alloc w _ none) (fun _ e=>by cases e)
 have hsz0:w0.heap.size=w.heap.size+1:=by rw[hw0];simp
 obtain⟨D,w9,ho9,ht9,hg9,w1,w2,w3,w4,w5,w6,w7,w8,hr1,hr2,hr3,hr4,hr5,hr6,hr7,hr8,hr9⟩:=aEd g w0;have hA:=World.grownBy_alloc w0 (.map #[] 0) (some w0.heap.size);have hk:=hA.trans hg9;have hX9:=hX0.grownBy hk (by simp;omega)
 have hP9:=hP0.grown hk (fun m e=>by cases e;omega)
 have hG9:=aE hG0 hk (by omega)
 rw[hsz0]at hr1 hr2 hr3 hr4 hr5 hr6 hr7 hr8 hr9 ho9;clear h hX0 hP0 hG0 hk hA hg9;go_enter Tryz.func186,Tryz.ntmps186
 rw[hw0]at hr1;go_wp2_with fail
 clear hr1 hr2 hr3 hr4 hr5 hr6 hr7 hr8 hr9 hw0;cases ws with
 |nil=>
  refine(bW g B w9 hP9).mono ?_
  rintro e wn ⟨rfl,rfl⟩;go_wp2_with fail
  exact⟨rfl,.inr ⟨rfl,rfl⟩,hG9⟩
 |cons x r=>
  refine(bN g B x r w9 hP9).mono ?_
  rintro e w10 ⟨rfl,hP10,hk⟩;have hX10:=hX9.grownBy hk (by simp;omega)
  have hG10:=hG9.trans hk;have ho10:=ho9.kept hk (by simp;omega)
  clear hX9 hG9 hP9 hk ho9;have hxl:x.length≤1000000:=hlen x (by simp)
  obtain⟨fv,ps,hlk,hfv⟩:=ho10.look_ok qH Tryz.underlying358 (zd:=.nil) (zp:=[]) (z:=.nilFunc) (by go_simp) rfl (qI x hxl)
  clear ho10;by_cases hx0:x=[105,110,116,111]
  case pos=>
   subst hx0;obtain⟨hd1,hd2⟩:=ht9.t [105,110,116,111] (dF 235 g) (by simp[pH,eD,iT,cL,dJ,bJ,bD])
   rw[hd1]at hlk;rw[hd2]at hfv;obtain rfl:=iE hfv;clear hfv hd1 hd2 ht9 hlen;have hc:Calls Tryz.prog 235 #[.pointer (some ⟨g,0,none⟩),.string (nbs [105,110,116,111])] w10 fun e w'=>e = .returned (.agg #[.int .i64 3,.int .i64 0,.int .i64 0,.int .i64 0,.int .i64 0,.int .i64 0,.int .i64 0,.int .i64 0,.int .i64 0,.int .i64 0])∧Below w10.heap.size w10 w':=aCu g (nbs [105,110,116,111]) w10
   go_wp2_with fail
   refine hc.mono ?_
   rintro e w11 ⟨rfl,hk⟩;clear hc hlk;have hP11:=hP10.below hk;have hX11:=hX10.below hk hX10.lt;have hG11:=hG10.trans (aC (row:=some g) hk);clear hk hP10 hX10 hG10;have hraw:Hid (eL [105,110,116,111] r=some (⟨3,0,0,0,0,0,0,0,0,0⟩,r)):=by show _=_;rfl
   obtain⟨w12,hw12⟩ : ∃w12,w12=w11.alloc (.cells #[.int .i64 3,.int .i64 0,.int .i64 0,.int .i64 0,.int .i64 0,.int .i64 0,.int .i64 0,.int .i64 0,.int .i64 0,.int .i64 0] 118):=⟨_,rfl⟩
   have hk:Below w11.heap.size w11 w12:=by rw[hw12];exact(Below.refl _ _).alloc (Nat.le_refl _) _
   have hM12:BK w12 w11.heap.size 118 #[.int .i64 3,.int .i64 0,.int .i64 0,.int .i64 0,.int .i64 0,.int .i64 0,.int .i64 0,.int .i64 0,.int .i64 0,.int .i64 0]:=by rw[hw12];exact BK.new w11 _ _
   have hP12:=hP11.below hk;have hX12:=hX11.below hk hX11.lt;have hG12:=hG11.trans (aC (row:=some g) hk);clear hk hP11 hG11 hX11;go_wp2_with fail
   rw[←hw12];clear hw12;have m0:=hM12.cell 0;have m1:=hM12.cell 1;have m2:=hM12.cell 2;have m3:=hM12.cell 3;have m4:=hM12.cell 4;have m5:=hM12.cell 5;have m6:=hM12.cell 6;have m7:=hM12.cell 7;have m8:=hM12.cell 8;have m9:=hM12.cell 9;simp only[List.getElem?_toArray,List.getElem?_cons_zero,List.getElem?_cons_succ]at m0 m1 m2 m3 m4 m5 m6 m7 m8 m9
   go_wp2_with fail
   clear m0 m1 m2 m3 m4 m5 m6 m7 m8 m9;refine(nvalid_any 3 0 0 0 0 0 0 0 0 0 w12).mono ?_
   rintro e w13 ⟨rfl,hk⟩;have hM13:=hM12.below hk hM12.lt;have hP13:=hP12.below hk;have hX13:=hX12.below hk hX12.lt;have hG13:=hG12.trans (aC (row:=some g) hk);clear hk hP12 hG12 hX12 hM12;cases hv:aR ⟨3,0,0,0,0,0,0,0,0,0⟩ with
   |false=>
    have HN:Hid (aQ ([105,110,116,111]::r)=none):=by show _=_;simp only[aQ,hraw.out,hv];rfl
    clear hv;go_wp2_with(go_at_call 244;refine(need_false _).mono ?_;rintro e w' ⟨rfl,rfl⟩)
    exact⟨rfl,.inr ⟨HN.out,rfl⟩,hG13⟩
   |true=>
    have HN:Hid (aQ ([105,110,116,111]::r)=some (⟨3,0,0,0,0,0,0,0,0,0⟩,r)):=by show _=_;simp only[aQ,hraw.out,hv];rfl
    clear hv;have m0:=hM13.cell 0;have m1:=hM13.cell 1;have m2:=hM13.cell 2;have m3:=hM13.cell 3;have m4:=hM13.cell 4;have m5:=hM13.cell 5;have m6:=hM13.cell 6;have m7:=hM13.cell 7;have m8:=hM13.cell 8;have m9:=hM13.cell 9;simp only[List.getElem?_toArray,List.getElem?_cons_zero,List.getElem?_cons_succ]at m0 m1 m2 m3 m4 m5 m6 m7 m8 m9
    have xf0:=hX13.frozen 0;have xf1:=hX13.frozen 1;have xf2:=hX13.frozen 2;have xf3:=hX13.frozen 3;have xf4:=hX13.frozen 4;have xf5:=hX13.frozen 5;have xf6:=hX13.frozen 6;have xf7:=hX13.frozen 7;have xf8:=hX13.frozen 8;have xf9:=hX13.frozen 9;have x0:=hX13.cell 0;have x1:=hX13.cell 1;have x2:=hX13.cell 2;have x3:=hX13.cell 3;have x4:=hX13.cell 4;have x5:=hX13.cell 5;have x6:=hX13.cell 6;have x7:=hX13.cell 7;have x8:=hX13.cell 8;have x9:=hX13.cell 9;simp only[List.getElem?_toArray,List.getElem?_cons_zero,List.getElem?_cons_succ]at x0 x1 x2 x3 x4 x5 x6 x7 x8 x9
    go_wp2_with(go_at_call 244;refine(need_true _).mono ?_;rintro e w' ⟨rfl,rfl⟩)
    exact bodyPost_ret (aF (t:=2) rfl _ _ _ _ rfl rfl (hX13.set10 rfl)) rfl ⟨.inl ⟨_,r,HN.out,rfl,hP13.grown (aI _ w.heap.size) (fun m e=>by cases e;exact hBw)⟩,aE hG13 (aI _ w.heap.size) (Nat.le_refl _)⟩
  by_cases hx1:x=[97,110,100]
  case pos=>
   subst hx1;obtain⟨hd1,hd2⟩:=ht9.t [97,110,100] (dF 236 g) (by simp[pH,eD,iT,cL,dJ,bJ,bD])
   rw[hd1]at hlk;rw[hd2]at hfv;obtain rfl:=iE hfv;clear hfv hd1 hd2 ht9 hlen;have hc:Calls Tryz.prog 236 #[.pointer (some ⟨g,0,none⟩),.string (nbs [97,110,100])] w10 fun e w'=>e = .returned (.agg #[.int .i64 4,.int .i64 0,.int .i64 0,.int .i64 0,.int .i64 0,.int .i64 0,.int .i64 0,.int .i64 0,.int .i64 0,.int .i64 0])∧Below w10.heap.size w10 w':=aDo g (nbs [97,110,100]) w10
   go_wp2_with fail
   refine hc.mono ?_
   rintro e w11 ⟨rfl,hk⟩;clear hc hlk;have hP11:=hP10.below hk;have hX11:=hX10.below hk hX10.lt;have hG11:=hG10.trans (aC (row:=some g) hk);clear hk hP10 hX10 hG10;have hraw:Hid (eL [97,110,100] r=some (⟨4,0,0,0,0,0,0,0,0,0⟩,r)):=by show _=_;rfl
   obtain⟨w12,hw12⟩ : ∃w12,w12=w11.alloc (.cells #[.int .i64 4,.int .i64 0,.int .i64 0,.int .i64 0,.int .i64 0,.int .i64 0,.int .i64 0,.int .i64 0,.int .i64 0,.int .i64 0] 118):=⟨_,rfl⟩
   have hk:Below w11.heap.size w11 w12:=by rw[hw12];exact(Below.refl _ _).alloc (Nat.le_refl _) _
   have hM12:BK w12 w11.heap.size 118 #[.int .i64 4,.int .i64 0,.int .i64 0,.int .i64 0,.int .i64 0,.int .i64 0,.int .i64 0,.int .i64 0,.int .i64 0,.int .i64 0]:=by rw[hw12];exact BK.new w11 _ _
   have hP12:=hP11.below hk;have hX12:=hX11.below hk hX11.lt;have hG12:=hG11.trans (aC (row:=some g) hk);clear hk hP11 hG11 hX11;go_wp2_with fail
   rw[←hw12];clear hw12;have m0:=hM12.cell 0;have m1:=hM12.cell 1;have m2:=hM12.cell 2;have m3:=hM12.cell 3;have m4:=hM12.cell 4;have m5:=hM12.cell 5;have m6:=hM12.cell 6;have m7:=hM12.cell 7;have m8:=hM12.cell 8;have m9:=hM12.cell 9;simp only[List.getElem?_toArray,List.getElem?_cons_zero,List.getElem?_cons_succ]at m0 m1 m2 m3 m4 m5 m6 m7 m8 m9
   go_wp2_with fail
   clear m0 m1 m2 m3 m4 m5 m6 m7 m8 m9;refine(nvalid_any 4 0 0 0 0 0 0 0 0 0 w12).mono ?_
   rintro e w13 ⟨rfl,hk⟩;have hM13:=hM12.below hk hM12.lt;have hP13:=hP12.below hk;have hX13:=hX12.below hk hX12.lt;have hG13:=hG12.trans (aC (row:=some g) hk);clear hk hP12 hG12 hX12 hM12;cases hv:aR ⟨4,0,0,0,0,0,0,0,0,0⟩ with
   |false=>
    have HN:Hid (aQ ([97,110,100]::r)=none):=by show _=_;simp only[aQ,hraw.out,hv];rfl
    clear hv;go_wp2_with(go_at_call 244;refine(need_false _).mono ?_;rintro e w' ⟨rfl,rfl⟩)
    exact⟨rfl,.inr ⟨HN.out,rfl⟩,hG13⟩
   |true=>
    have HN:Hid (aQ ([97,110,100]::r)=some (⟨4,0,0,0,0,0,0,0,0,0⟩,r)):=by show _=_;simp only[aQ,hraw.out,hv];rfl
    clear hv;have m0:=hM13.cell 0;have m1:=hM13.cell 1;have m2:=hM13.cell 2;have m3:=hM13.cell 3;have m4:=hM13.cell 4;have m5:=hM13.cell 5;have m6:=hM13.cell 6;have m7:=hM13.cell 7;have m8:=hM13.cell 8;have m9:=hM13.cell 9;simp only[List.getElem?_toArray,List.getElem?_cons_zero,List.getElem?_cons_succ]at m0 m1 m2 m3 m4 m5 m6 m7 m8 m9
    have xf0:=hX13.frozen 0;have xf1:=hX13.frozen 1;have xf2:=hX13.frozen 2;have xf3:=hX13.frozen 3;have xf4:=hX13.frozen 4;have xf5:=hX13.frozen 5;have xf6:=hX13.frozen 6;have xf7:=hX13.frozen 7;have xf8:=hX13.frozen 8;have xf9:=hX13.frozen 9;have x0:=hX13.cell 0;have x1:=hX13.cell 1;have x2:=hX13.cell 2;have x3:=hX13.cell 3;have x4:=hX13.cell 4;have x5:=hX13.cell 5;have x6:=hX13.cell 6;have x7:=hX13.cell 7;have x8:=hX13.cell 8;have x9:=hX13.cell 9;simp only[List.getElem?_toArray,List.getElem?_cons_zero,List.getElem?_cons_succ]at x0 x1 x2 x3 x4 x5 x6 x7 x8 x9
    go_wp2_with(go_at_call 244;refine(need_true _).mono ?_;rintro e w' ⟨rfl,rfl⟩)
    exact bodyPost_ret (aF (t:=2) rfl _ _ _ _ rfl rfl (hX13.set10 rfl)) rfl ⟨.inl ⟨_,r,HN.out,rfl,hP13.grown (aI _ w.heap.size) (fun m e=>by cases e;exact hBw)⟩,aE hG13 (aI _ w.heap.size) (Nat.le_refl _)⟩
  by_cases hx2:x=[99,114,101,115,116]
  case pos=>
   subst hx2;obtain⟨hd1,hd2⟩:=ht9.t [99,114,101,115,116] (dF 237 g) (by simp[pH,eD,iT,cL,dJ,bJ,bD])
   rw[hd1]at hlk;rw[hd2]at hfv;obtain rfl:=iE hfv;clear hfv hd1 hd2 ht9 hlen;have hc:Calls Tryz.prog 237 #[.pointer (some ⟨g,0,none⟩),.string (nbs [99,114,101,115,116])] w10 fun e w'=>e = .returned (.agg #[.int .i64 5,.int .i64 0,.int .i64 0,.int .i64 0,.int .i64 0,.int .i64 0,.int .i64 0,.int .i64 1,.int .i64 0,.int .i64 0])∧Below w10.heap.size w10 w':=pG g [99,114,101,115,116] 0 rfl w10
   go_wp2_with fail
   refine hc.mono ?_
   rintro e w11 ⟨rfl,hk⟩;clear hc hlk;have hP11:=hP10.below hk;have hX11:=hX10.below hk hX10.lt;have hG11:=hG10.trans (aC (row:=some g) hk);clear hk hP10 hX10 hG10;have hraw:Hid (eL [99,114,101,115,116] r=some (⟨5,0,0,0,0,0,0,1,0,0⟩,r)):=by show _=_;rfl
   obtain⟨w12,hw12⟩ : ∃w12,w12=w11.alloc (.cells #[.int .i64 5,.int .i64 0,.int .i64 0,.int .i64 0,.int .i64 0,.int .i64 0,.int .i64 0,.int .i64 1,.int .i64 0,.int .i64 0] 118):=⟨_,rfl⟩
   have hk:Below w11.heap.size w11 w12:=by rw[hw12];exact(Below.refl _ _).alloc (Nat.le_refl _) _
   have hM12:BK w12 w11.heap.size 118 #[.int .i64 5,.int .i64 0,.int .i64 0,.int .i64 0,.int .i64 0,.int .i64 0,.int .i64 0,.int .i64 1,.int .i64 0,.int .i64 0]:=by rw[hw12];exact BK.new w11 _ _
   have hP12:=hP11.below hk;have hX12:=hX11.below hk hX11.lt;have hG12:=hG11.trans (aC (row:=some g) hk);clear hk hP11 hG11 hX11;go_wp2_with fail
   rw[←hw12];clear hw12;have m0:=hM12.cell 0;have m1:=hM12.cell 1;have m2:=hM12.cell 2;have m3:=hM12.cell 3;have m4:=hM12.cell 4;have m5:=hM12.cell 5;have m6:=hM12.cell 6;have m7:=hM12.cell 7;have m8:=hM12.cell 8;have m9:=hM12.cell 9;simp only[List.getElem?_toArray,List.getElem?_cons_zero,List.getElem?_cons_succ]at m0 m1 m2 m3 m4 m5 m6 m7 m8 m9
   go_wp2_with fail
   clear m0 m1 m2 m3 m4 m5 m6 m7 m8 m9;refine(nvalid_any 5 0 0 0 0 0 0 1 0 0 w12).mono ?_
   rintro e w13 ⟨rfl,hk⟩;have hM13:=hM12.below hk hM12.lt;have hP13:=hP12.below hk;have hX13:=hX12.below hk hX12.lt;have hG13:=hG12.trans (aC (row:=some g) hk);clear hk hP12 hG12 hX12 hM12;cases hv:aR ⟨5,0,0,0,0,0,0,1,0,0⟩ with
   |false=>
    have HN:Hid (aQ ([99,114,101,115,116]::r)=none):=by show _=_;simp only[aQ,hraw.out,hv];rfl
    clear hv;go_wp2_with(go_at_call 244;refine(need_false _).mono ?_;rintro e w' ⟨rfl,rfl⟩)
    exact⟨rfl,.inr ⟨HN.out,rfl⟩,hG13⟩
   |true=>
    have HN:Hid (aQ ([99,114,101,115,116]::r)=some (⟨5,0,0,0,0,0,0,1,0,0⟩,r)):=by show _=_;simp only[aQ,hraw.out,hv];rfl
    clear hv;have m0:=hM13.cell 0;have m1:=hM13.cell 1;have m2:=hM13.cell 2;have m3:=hM13.cell 3;have m4:=hM13.cell 4;have m5:=hM13.cell 5;have m6:=hM13.cell 6;have m7:=hM13.cell 7;have m8:=hM13.cell 8;have m9:=hM13.cell 9;simp only[List.getElem?_toArray,List.getElem?_cons_zero,List.getElem?_cons_succ]at m0 m1 m2 m3 m4 m5 m6 m7 m8 m9
    have xf0:=hX13.frozen 0;have xf1:=hX13.frozen 1;have xf2:=hX13.frozen 2;have xf3:=hX13.frozen 3;have xf4:=hX13.frozen 4;have xf5:=hX13.frozen 5;have xf6:=hX13.frozen 6;have xf7:=hX13.frozen 7;have xf8:=hX13.frozen 8;have xf9:=hX13.frozen 9;have x0:=hX13.cell 0;have x1:=hX13.cell 1;have x2:=hX13.cell 2;have x3:=hX13.cell 3;have x4:=hX13.cell 4;have x5:=hX13.cell 5;have x6:=hX13.cell 6;have x7:=hX13.cell 7;have x8:=hX13.cell 8;have x9:=hX13.cell 9;simp only[List.getElem?_toArray,List.getElem?_cons_zero,List.getElem?_cons_succ]at x0 x1 x2 x3 x4 x5 x6 x7 x8 x9
    go_wp2_with(go_at_call 244;refine(need_true _).mono ?_;rintro e w' ⟨rfl,rfl⟩)
    exact bodyPost_ret (aF (t:=2) rfl _ _ _ _ rfl rfl (hX13.set10 rfl)) rfl ⟨.inl ⟨_,r,HN.out,rfl,hP13.grown (aI _ w.heap.size) (fun m e=>by cases e;exact hBw)⟩,aE hG13 (aI _ w.heap.size) (Nat.le_refl _)⟩
  by_cases hx3:x=[106,117,109,112]
  case pos=>
   subst hx3;obtain⟨hd1,hd2⟩:=ht9.t [106,117,109,112] (dF 237 g) (by simp[pH,eD,iT,cL,dJ,bJ,bD])
   rw[hd1]at hlk;rw[hd2]at hfv;obtain rfl:=iE hfv;clear hfv hd1 hd2 ht9 hlen;have hc:Calls Tryz.prog 237 #[.pointer (some ⟨g,0,none⟩),.string (nbs [106,117,109,112])] w10 fun e w'=>e = .returned (.agg #[.int .i64 5,.int .i64 0,.int .i64 0,.int .i64 0,.int .i64 0,.int .i64 0,.int .i64 0,.int .i64 2,.int .i64 0,.int .i64 0])∧Below w10.heap.size w10 w':=pG g [106,117,109,112] 1 rfl w10
   go_wp2_with fail
   refine hc.mono ?_
   rintro e w11 ⟨rfl,hk⟩;clear hc hlk;have hP11:=hP10.below hk;have hX11:=hX10.below hk hX10.lt;have hG11:=hG10.trans (aC (row:=some g) hk);clear hk hP10 hX10 hG10;have hraw:Hid (eL [106,117,109,112] r=some (⟨5,0,0,0,0,0,0,2,0,0⟩,r)):=by show _=_;rfl
   obtain⟨w12,hw12⟩ : ∃w12,w12=w11.alloc (.cells #[.int .i64 5,.int .i64 0,.int .i64 0,.int .i64 0,.int .i64 0,.int .i64 0,.int .i64 0,.int .i64 2,.int .i64 0,.int .i64 0] 118):=⟨_,rfl⟩
   have hk:Below w11.heap.size w11 w12:=by rw[hw12];exact(Below.refl _ _).alloc (Nat.le_refl _) _
   have hM12:BK w12 w11.heap.size 118 #[.int .i64 5,.int .i64 0,.int .i64 0,.int .i64 0,.int .i64 0,.int .i64 0,.int .i64 0,.int .i64 2,.int .i64 0,.int .i64 0]:=by rw[hw12];exact BK.new w11 _ _
   have hP12:=hP11.below hk;have hX12:=hX11.below hk hX11.lt;have hG12:=hG11.trans (aC (row:=some g) hk);clear hk hP11 hG11 hX11;go_wp2_with fail
   rw[←hw12];clear hw12;have m0:=hM12.cell 0;have m1:=hM12.cell 1;have m2:=hM12.cell 2;have m3:=hM12.cell 3;have m4:=hM12.cell 4;have m5:=hM12.cell 5;have m6:=hM12.cell 6;have m7:=hM12.cell 7;have m8:=hM12.cell 8;have m9:=hM12.cell 9;simp only[List.getElem?_toArray,List.getElem?_cons_zero,List.getElem?_cons_succ]at m0 m1 m2 m3 m4 m5 m6 m7 m8 m9
   go_wp2_with fail
   clear m0 m1 m2 m3 m4 m5 m6 m7 m8 m9;refine(nvalid_any 5 0 0 0 0 0 0 2 0 0 w12).mono ?_
   rintro e w13 ⟨rfl,hk⟩;have hM13:=hM12.below hk hM12.lt;have hP13:=hP12.below hk;have hX13:=hX12.below hk hX12.lt;have hG13:=hG12.trans (aC (row:=some g) hk);clear hk hP12 hG12 hX12 hM12;cases hv:aR ⟨5,0,0,0,0,0,0,2,0,0⟩ with
   |false=>
    have HN:Hid (aQ ([106,117,109,112]::r)=none):=by show _=_;simp only[aQ,hraw.out,hv];rfl
    clear hv;go_wp2_with(go_at_call 244;refine(need_false _).mono ?_;rintro e w' ⟨rfl,rfl⟩)
    exact⟨rfl,.inr ⟨HN.out,rfl⟩,hG13⟩
   |true=>
    have HN:Hid (aQ ([106,117,109,112]::r)=some (⟨5,0,0,0,0,0,0,2,0,0⟩,r)):=by show _=_;simp only[aQ,hraw.out,hv];rfl
    clear hv;have m0:=hM13.cell 0;have m1:=hM13.cell 1;have m2:=hM13.cell 2;have m3:=hM13.cell 3;have m4:=hM13.cell 4;have m5:=hM13.cell 5;have m6:=hM13.cell 6;have m7:=hM13.cell 7;have m8:=hM13.cell 8;have m9:=hM13.cell 9;simp only[List.getElem?_toArray,List.getElem?_cons_zero,List.getElem?_cons_succ]at m0 m1 m2 m3 m4 m5 m6 m7 m8 m9
    have xf0:=hX13.frozen 0;have xf1:=hX13.frozen 1;have xf2:=hX13.frozen 2;have xf3:=hX13.frozen 3;have xf4:=hX13.frozen 4;have xf5:=hX13.frozen 5;have xf6:=hX13.frozen 6;have xf7:=hX13.frozen 7;have xf8:=hX13.frozen 8;have xf9:=hX13.frozen 9;have x0:=hX13.cell 0;have x1:=hX13.cell 1;have x2:=hX13.cell 2;have x3:=hX13.cell 3;have x4:=hX13.cell 4;have x5:=hX13.cell 5;have x6:=hX13.cell 6;have x7:=hX13.cell 7;have x8:=hX13.cell 8;have x9:=hX13.cell 9;simp only[List.getElem?_toArray,List.getElem?_cons_zero,List.getElem?_cons_succ]at x0 x1 x2 x3 x4 x5 x6 x7 x8 x9
    go_wp2_with(go_at_call 244;refine(need_true _).mono ?_;rintro e w' ⟨rfl,rfl⟩)
    exact bodyPost_ret (aF (t:=2) rfl _ _ _ _ rfl rfl (hX13.set10 rfl)) rfl ⟨.inl ⟨_,r,HN.out,rfl,hP13.grown (aI _ w.heap.size) (fun m e=>by cases e;exact hBw)⟩,aE hG13 (aI _ w.heap.size) (Nat.le_refl _)⟩
  by_cases hx4:x=[98,105,103,106,117,109,112]
  case pos=>
   subst hx4;obtain⟨hd1,hd2⟩:=ht9.t [98,105,103,106,117,109,112] (dF 237 g) (by simp[pH,eD,iT,cL,dJ,bJ,bD])
   rw[hd1]at hlk;rw[hd2]at hfv;obtain rfl:=iE hfv;clear hfv hd1 hd2 ht9 hlen;have hc:Calls Tryz.prog 237 #[.pointer (some ⟨g,0,none⟩),.string (nbs [98,105,103,106,117,109,112])] w10 fun e w'=>e = .returned (.agg #[.int .i64 5,.int .i64 0,.int .i64 0,.int .i64 0,.int .i64 0,.int .i64 0,.int .i64 0,.int .i64 3,.int .i64 0,.int .i64 0])∧Below w10.heap.size w10 w':=pG g [98,105,103,106,117,109,112] 2 rfl w10
   go_wp2_with fail
   refine hc.mono ?_
   rintro e w11 ⟨rfl,hk⟩;clear hc hlk;have hP11:=hP10.below hk;have hX11:=hX10.below hk hX10.lt;have hG11:=hG10.trans (aC (row:=some g) hk);clear hk hP10 hX10 hG10;have hraw:Hid (eL [98,105,103,106,117,109,112] r=some (⟨5,0,0,0,0,0,0,3,0,0⟩,r)):=by show _=_;rfl
   obtain⟨w12,hw12⟩ : ∃w12,w12=w11.alloc (.cells #[.int .i64 5,.int .i64 0,.int .i64 0,.int .i64 0,.int .i64 0,.int .i64 0,.int .i64 0,.int .i64 3,.int .i64 0,.int .i64 0] 118):=⟨_,rfl⟩
   have hk:Below w11.heap.size w11 w12:=by rw[hw12];exact(Below.refl _ _).alloc (Nat.le_refl _) _
   have hM12:BK w12 w11.heap.size 118 #[.int .i64 5,.int .i64 0,.int .i64 0,.int .i64 0,.int .i64 0,.int .i64 0,.int .i64 0,.int .i64 3,.int .i64 0,.int .i64 0]:=by rw[hw12];exact BK.new w11 _ _
   have hP12:=hP11.below hk;have hX12:=hX11.below hk hX11.lt;have hG12:=hG11.trans (aC (row:=some g) hk);clear hk hP11 hG11 hX11;go_wp2_with fail
   rw[←hw12];clear hw12;have m0:=hM12.cell 0;have m1:=hM12.cell 1;have m2:=hM12.cell 2;have m3:=hM12.cell 3;have m4:=hM12.cell 4;have m5:=hM12.cell 5;have m6:=hM12.cell 6;have m7:=hM12.cell 7;have m8:=hM12.cell 8;have m9:=hM12.cell 9;simp only[List.getElem?_toArray,List.getElem?_cons_zero,List.getElem?_cons_succ]at m0 m1 m2 m3 m4 m5 m6 m7 m8 m9
   go_wp2_with fail
   clear m0 m1 m2 m3 m4 m5 m6 m7 m8 m9;refine(nvalid_any 5 0 0 0 0 0 0 3 0 0 w12).mono ?_
   rintro e w13 ⟨rfl,hk⟩;have hM13:=hM12.below hk hM12.lt;have hP13:=hP12.below hk;have hX13:=hX12.below hk hX12.lt;have hG13:=hG12.trans (aC (row:=some g) hk);clear hk hP12 hG12 hX12 hM12;cases hv:aR ⟨5,0,0,0,0,0,0,3,0,0⟩ with
   |false=>
    have HN:Hid (aQ ([98,105,103,106,117,109,112]::r)=none):=by show _=_;simp only[aQ,hraw.out,hv];rfl
    clear hv;go_wp2_with(go_at_call 244;refine(need_false _).mono ?_;rintro e w' ⟨rfl,rfl⟩)
    exact⟨rfl,.inr ⟨HN.out,rfl⟩,hG13⟩
   |true=>
    have HN:Hid (aQ ([98,105,103,106,117,109,112]::r)=some (⟨5,0,0,0,0,0,0,3,0,0⟩,r)):=by show _=_;simp only[aQ,hraw.out,hv];rfl
    clear hv;have m0:=hM13.cell 0;have m1:=hM13.cell 1;have m2:=hM13.cell 2;have m3:=hM13.cell 3;have m4:=hM13.cell 4;have m5:=hM13.cell 5;have m6:=hM13.cell 6;have m7:=hM13.cell 7;have m8:=hM13.cell 8;have m9:=hM13.cell 9;simp only[List.getElem?_toArray,List.getElem?_cons_zero,List.getElem?_cons_succ]at m0 m1 m2 m3 m4 m5 m6 m7 m8 m9
    have xf0:=hX13.frozen 0;have xf1:=hX13.frozen 1;have xf2:=hX13.frozen 2;have xf3:=hX13.frozen 3;have xf4:=hX13.frozen 4;have xf5:=hX13.frozen 5;have xf6:=hX13.frozen 6;have xf7:=hX13.frozen 7;have xf8:=hX13.frozen 8;have xf9:=hX13.frozen 9;have x0:=hX13.cell 0;have x1:=hX13.cell 1;have x2:=hX13.cell 2;have x3:=hX13.cell 3;have x4:=hX13.cell 4;have x5:=hX13.cell 5;have x6:=hX13.cell 6;have x7:=hX13.cell 7;have x8:=hX13.cell 8;have x9:=hX13.cell 9;simp only[List.getElem?_toArray,List.getElem?_cons_zero,List.getElem?_cons_succ]at x0 x1 x2 x3 x4 x5 x6 x7 x8 x9
    go_wp2_with(go_at_call 244;refine(need_true _).mono ?_;rintro e w' ⟨rfl,rfl⟩)
    exact bodyPost_ret (aF (t:=2) rfl _ _ _ _ rfl rfl (hX13.set10 rfl)) rfl ⟨.inl ⟨_,r,HN.out,rfl,hP13.grown (aI _ w.heap.size) (fun m e=>by cases e;exact hBw)⟩,aE hG13 (aI _ w.heap.size) (Nat.le_refl _)⟩
  by_cases hx5:x=[33]
  case pos=>
   subst hx5;obtain⟨hd1,hd2⟩:=ht9.t [33] (dF 238 g) (by simp[pH,eD,iT,cL,dJ,bJ,bD])
   rw[hd1]at hlk;rw[hd2]at hfv;obtain rfl:=iE hfv;clear hfv hd1 hd2 ht9 hlen;have hc:Calls Tryz.prog 238 #[.pointer (some ⟨g,0,none⟩),.string (nbs [33])] w10 fun e w'=>e = .returned (.agg #[.int .i64 6,.int .i64 0,.int .i64 0,.int .i64 0,.int .i64 0,.int .i64 0,.int .i64 0,.int .i64 1,.int .i64 0,.int .i64 0])∧Below w10.heap.size w10 w':=sZ g [33] w10
   go_wp2_with fail
   refine hc.mono ?_
   rintro e w11 ⟨rfl,hk⟩;clear hc hlk;have hP11:=hP10.below hk;have hX11:=hX10.below hk hX10.lt;have hG11:=hG10.trans (aC (row:=some g) hk);clear hk hP10 hX10 hG10;have hraw:Hid (eL [33] r=some (⟨6,0,0,0,0,0,0,1,0,0⟩,r)):=by show _=_;rfl
   obtain⟨w12,hw12⟩ : ∃w12,w12=w11.alloc (.cells #[.int .i64 6,.int .i64 0,.int .i64 0,.int .i64 0,.int .i64 0,.int .i64 0,.int .i64 0,.int .i64 1,.int .i64 0,.int .i64 0] 118):=⟨_,rfl⟩
   have hk:Below w11.heap.size w11 w12:=by rw[hw12];exact(Below.refl _ _).alloc (Nat.le_refl _) _
   have hM12:BK w12 w11.heap.size 118 #[.int .i64 6,.int .i64 0,.int .i64 0,.int .i64 0,.int .i64 0,.int .i64 0,.int .i64 0,.int .i64 1,.int .i64 0,.int .i64 0]:=by rw[hw12];exact BK.new w11 _ _
   have hP12:=hP11.below hk;have hX12:=hX11.below hk hX11.lt;have hG12:=hG11.trans (aC (row:=some g) hk);clear hk hP11 hG11 hX11;go_wp2_with fail
   rw[←hw12];clear hw12;have m0:=hM12.cell 0;have m1:=hM12.cell 1;have m2:=hM12.cell 2;have m3:=hM12.cell 3;have m4:=hM12.cell 4;have m5:=hM12.cell 5;have m6:=hM12.cell 6;have m7:=hM12.cell 7;have m8:=hM12.cell 8;have m9:=hM12.cell 9;simp only[List.getElem?_toArray,List.getElem?_cons_zero,List.getElem?_cons_succ]at m0 m1 m2 m3 m4 m5 m6 m7 m8 m9
   go_wp2_with fail
   clear m0 m1 m2 m3 m4 m5 m6 m7 m8 m9;refine(nvalid_any 6 0 0 0 0 0 0 1 0 0 w12).mono ?_
   rintro e w13 ⟨rfl,hk⟩;have hM13:=hM12.below hk hM12.lt;have hP13:=hP12.below hk;have hX13:=hX12.below hk hX12.lt;have hG13:=hG12.trans (aC (row:=some g) hk);clear hk hP12 hG12 hX12 hM12;cases hv:aR ⟨6,0,0,0,0,0,0,1,0,0⟩ with
   |false=>
    have HN:Hid (aQ ([33]::r)=none):=by show _=_;simp only[aQ,hraw.out,hv];rfl
    clear hv;go_wp2_with(go_at_call 244;refine(need_false _).mono ?_;rintro e w' ⟨rfl,rfl⟩)
    exact⟨rfl,.inr ⟨HN.out,rfl⟩,hG13⟩
   |true=>
    have HN:Hid (aQ ([33]::r)=some (⟨6,0,0,0,0,0,0,1,0,0⟩,r)):=by show _=_;simp only[aQ,hraw.out,hv];rfl
    clear hv;have m0:=hM13.cell 0;have m1:=hM13.cell 1;have m2:=hM13.cell 2;have m3:=hM13.cell 3;have m4:=hM13.cell 4;have m5:=hM13.cell 5;have m6:=hM13.cell 6;have m7:=hM13.cell 7;have m8:=hM13.cell 8;have m9:=hM13.cell 9;simp only[List.getElem?_toArray,List.getElem?_cons_zero,List.getElem?_cons_succ]at m0 m1 m2 m3 m4 m5 m6 m7 m8 m9
    have xf0:=hX13.frozen 0;have xf1:=hX13.frozen 1;have xf2:=hX13.frozen 2;have xf3:=hX13.frozen 3;have xf4:=hX13.frozen 4;have xf5:=hX13.frozen 5;have xf6:=hX13.frozen 6;have xf7:=hX13.frozen 7;have xf8:=hX13.frozen 8;have xf9:=hX13.frozen 9;have x0:=hX13.cell 0;have x1:=hX13.cell 1;have x2:=hX13.cell 2;have x3:=hX13.cell 3;have x4:=hX13.cell 4;have x5:=hX13.cell 5;have x6:=hX13.cell 6;have x7:=hX13.cell 7;have x8:=hX13.cell 8;have x9:=hX13.cell 9;simp only[List.getElem?_toArray,List.getElem?_cons_zero,List.getElem?_cons_succ]at x0 x1 x2 x3 x4 x5 x6 x7 x8 x9
    go_wp2_with(go_at_call 244;refine(need_true _).mono ?_;rintro e w' ⟨rfl,rfl⟩)
    exact bodyPost_ret (aF (t:=2) rfl _ _ _ _ rfl rfl (hX13.set10 rfl)) rfl ⟨.inl ⟨_,r,HN.out,rfl,hP13.grown (aI _ w.heap.size) (fun m e=>by cases e;exact hBw)⟩,aE hG13 (aI _ w.heap.size) (Nat.le_refl _)⟩
  by_cases hx6:x=[33,33]
  case pos=>
   subst hx6;obtain⟨hd1,hd2⟩:=ht9.t [33,33] (dF 238 g) (by simp[pH,eD,iT,cL,dJ,bJ,bD])
   rw[hd1]at hlk;rw[hd2]at hfv;obtain rfl:=iE hfv;clear hfv hd1 hd2 ht9 hlen;have hc:Calls Tryz.prog 238 #[.pointer (some ⟨g,0,none⟩),.string (nbs [33,33])] w10 fun e w'=>e = .returned (.agg #[.int .i64 6,.int .i64 0,.int .i64 0,.int .i64 0,.int .i64 0,.int .i64 0,.int .i64 0,.int .i64 2,.int .i64 0,.int .i64 0])∧Below w10.heap.size w10 w':=sZ g [33,33] w10
   go_wp2_with fail
   refine hc.mono ?_
   rintro e w11 ⟨rfl,hk⟩;clear hc hlk;have hP11:=hP10.below hk;have hX11:=hX10.below hk hX10.lt;have hG11:=hG10.trans (aC (row:=some g) hk);clear hk hP10 hX10 hG10;have hraw:Hid (eL [33,33] r=some (⟨6,0,0,0,0,0,0,2,0,0⟩,r)):=by show _=_;rfl
   obtain⟨w12,hw12⟩ : ∃w12,w12=w11.alloc (.cells #[.int .i64 6,.int .i64 0,.int .i64 0,.int .i64 0,.int .i64 0,.int .i64 0,.int .i64 0,.int .i64 2,.int .i64 0,.int .i64 0] 118):=⟨_,rfl⟩
   have hk:Below w11.heap.size w11 w12:=by rw[hw12];exact(Below.refl _ _).alloc (Nat.le_refl _) _
   have hM12:BK w12 w11.heap.size 118 #[.int .i64 6,.int .i64 0,.int .i64 0,.int .i64 0,.int .i64 0,.int .i64 0,.int .i64 0,.int .i64 2,.int .i64 0,.int .i64 0]:=by rw[hw12];exact BK.new w11 _ _
   have hP12:=hP11.below hk;have hX12:=hX11.below hk hX11.lt;have hG12:=hG11.trans (aC (row:=some g) hk);clear hk hP11 hG11 hX11;go_wp2_with fail
   rw[←hw12];clear hw12;have m0:=hM12.cell 0;have m1:=hM12.cell 1;have m2:=hM12.cell 2;have m3:=hM12.cell 3;have m4:=hM12.cell 4;have m5:=hM12.cell 5;have m6:=hM12.cell 6;have m7:=hM12.cell 7;have m8:=hM12.cell 8;have m9:=hM12.cell 9;simp only[List.getElem?_toArray,List.getElem?_cons_zero,List.getElem?_cons_succ]at m0 m1 m2 m3 m4 m5 m6 m7 m8 m9
   go_wp2_with fail
   clear m0 m1 m2 m3 m4 m5 m6 m7 m8 m9;refine(nvalid_any 6 0 0 0 0 0 0 2 0 0 w12).mono ?_
   rintro e w13 ⟨rfl,hk⟩;have hM13:=hM12.below hk hM12.lt;have hP13:=hP12.below hk;have hX13:=hX12.below hk hX12.lt;have hG13:=hG12.trans (aC (row:=some g) hk);clear hk hP12 hG12 hX12 hM12;cases hv:aR ⟨6,0,0,0,0,0,0,2,0,0⟩ with
   |false=>
    have HN:Hid (aQ ([33,33]::r)=none):=by show _=_;simp only[aQ,hraw.out,hv];rfl
    clear hv;go_wp2_with(go_at_call 244;refine(need_false _).mono ?_;rintro e w' ⟨rfl,rfl⟩)
    exact⟨rfl,.inr ⟨HN.out,rfl⟩,hG13⟩
   |true=>
    have HN:Hid (aQ ([33,33]::r)=some (⟨6,0,0,0,0,0,0,2,0,0⟩,r)):=by show _=_;simp only[aQ,hraw.out,hv];rfl
    clear hv;have m0:=hM13.cell 0;have m1:=hM13.cell 1;have m2:=hM13.cell 2;have m3:=hM13.cell 3;have m4:=hM13.cell 4;have m5:=hM13.cell 5;have m6:=hM13.cell 6;have m7:=hM13.cell 7;have m8:=hM13.cell 8;have m9:=hM13.cell 9;simp only[List.getElem?_toArray,List.getElem?_cons_zero,List.getElem?_cons_succ]at m0 m1 m2 m3 m4 m5 m6 m7 m8 m9
    have xf0:=hX13.frozen 0;have xf1:=hX13.frozen 1;have xf2:=hX13.frozen 2;have xf3:=hX13.frozen 3;have xf4:=hX13.frozen 4;have xf5:=hX13.frozen 5;have xf6:=hX13.frozen 6;have xf7:=hX13.frozen 7;have xf8:=hX13.frozen 8;have xf9:=hX13.frozen 9;have x0:=hX13.cell 0;have x1:=hX13.cell 1;have x2:=hX13.cell 2;have x3:=hX13.cell 3;have x4:=hX13.cell 4;have x5:=hX13.cell 5;have x6:=hX13.cell 6;have x7:=hX13.cell 7;have x8:=hX13.cell 8;have x9:=hX13.cell 9;simp only[List.getElem?_toArray,List.getElem?_cons_zero,List.getElem?_cons_succ]at x0 x1 x2 x3 x4 x5 x6 x7 x8 x9
    go_wp2_with(go_at_call 244;refine(need_true _).mono ?_;rintro e w' ⟨rfl,rfl⟩)
    exact bodyPost_ret (aF (t:=2) rfl _ _ _ _ rfl rfl (hX13.set10 rfl)) rfl ⟨.inl ⟨_,r,HN.out,rfl,hP13.grown (aI _ w.heap.size) (fun m e=>by cases e;exact hBw)⟩,aE hG13 (aI _ w.heap.size) (Nat.le_refl _)⟩
  by_cases hx7:x=[33,33,33]
  case pos=>
   subst hx7;obtain⟨hd1,hd2⟩:=ht9.t [33,33,33] (dF 238 g) (by simp[pH,eD,iT,cL,dJ,bJ,bD])
   rw[hd1]at hlk;rw[hd2]at hfv;obtain rfl:=iE hfv;clear hfv hd1 hd2 ht9 hlen;have hc:Calls Tryz.prog 238 #[.pointer (some ⟨g,0,none⟩),.string (nbs [33,33,33])] w10 fun e w'=>e = .returned (.agg #[.int .i64 6,.int .i64 0,.int .i64 0,.int .i64 0,.int .i64 0,.int .i64 0,.int .i64 0,.int .i64 3,.int .i64 0,.int .i64 0])∧Below w10.heap.size w10 w':=sZ g [33,33,33] w10
   go_wp2_with fail
   refine hc.mono ?_
   rintro e w11 ⟨rfl,hk⟩;clear hc hlk;have hP11:=hP10.below hk;have hX11:=hX10.below hk hX10.lt;have hG11:=hG10.trans (aC (row:=some g) hk);clear hk hP10 hX10 hG10;have hraw:Hid (eL [33,33,33] r=some (⟨6,0,0,0,0,0,0,3,0,0⟩,r)):=by show _=_;rfl
   obtain⟨w12,hw12⟩ : ∃w12,w12=w11.alloc (.cells #[.int .i64 6,.int .i64 0,.int .i64 0,.int .i64 0,.int .i64 0,.int .i64 0,.int .i64 0,.int .i64 3,.int .i64 0,.int .i64 0] 118):=⟨_,rfl⟩
   have hk:Below w11.heap.size w11 w12:=by rw[hw12];exact(Below.refl _ _).alloc (Nat.le_refl _) _
   have hM12:BK w12 w11.heap.size 118 #[.int .i64 6,.int .i64 0,.int .i64 0,.int .i64 0,.int .i64 0,.int .i64 0,.int .i64 0,.int .i64 3,.int .i64 0,.int .i64 0]:=by rw[hw12];exact BK.new w11 _ _
   have hP12:=hP11.below hk;have hX12:=hX11.below hk hX11.lt;have hG12:=hG11.trans (aC (row:=some g) hk);clear hk hP11 hG11 hX11;go_wp2_with fail
   rw[←hw12];clear hw12;have m0:=hM12.cell 0;have m1:=hM12.cell 1;have m2:=hM12.cell 2;have m3:=hM12.cell 3;have m4:=hM12.cell 4;have m5:=hM12.cell 5;have m6:=hM12.cell 6;have m7:=hM12.cell 7;have m8:=hM12.cell 8;have m9:=hM12.cell 9;simp only[List.getElem?_toArray,List.getElem?_cons_zero,List.getElem?_cons_succ]at m0 m1 m2 m3 m4 m5 m6 m7 m8 m9
   go_wp2_with fail
   clear m0 m1 m2 m3 m4 m5 m6 m7 m8 m9;refine(nvalid_any 6 0 0 0 0 0 0 3 0 0 w12).mono ?_
   rintro e w13 ⟨rfl,hk⟩;have hM13:=hM12.below hk hM12.lt;have hP13:=hP12.below hk;have hX13:=hX12.below hk hX12.lt;have hG13:=hG12.trans (aC (row:=some g) hk);clear hk hP12 hG12 hX12 hM12;cases hv:aR ⟨6,0,0,0,0,0,0,3,0,0⟩ with
   |false=>
    have HN:Hid (aQ ([33,33,33]::r)=none):=by show _=_;simp only[aQ,hraw.out,hv];rfl
    clear hv;go_wp2_with(go_at_call 244;refine(need_false _).mono ?_;rintro e w' ⟨rfl,rfl⟩)
    exact⟨rfl,.inr ⟨HN.out,rfl⟩,hG13⟩
   |true=>
    have HN:Hid (aQ ([33,33,33]::r)=some (⟨6,0,0,0,0,0,0,3,0,0⟩,r)):=by show _=_;simp only[aQ,hraw.out,hv];rfl
    clear hv;have m0:=hM13.cell 0;have m1:=hM13.cell 1;have m2:=hM13.cell 2;have m3:=hM13.cell 3;have m4:=hM13.cell 4;have m5:=hM13.cell 5;have m6:=hM13.cell 6;have m7:=hM13.cell 7;have m8:=hM13.cell 8;have m9:=hM13.cell 9;simp only[List.getElem?_toArray,List.getElem?_cons_zero,List.getElem?_cons_succ]at m0 m1 m2 m3 m4 m5 m6 m7 m8 m9
    have xf0:=hX13.frozen 0;have xf1:=hX13.frozen 1;have xf2:=hX13.frozen 2;have xf3:=hX13.frozen 3;have xf4:=hX13.frozen 4;have xf5:=hX13.frozen 5;have xf6:=hX13.frozen 6;have xf7:=hX13.frozen 7;have xf8:=hX13.frozen 8;have xf9:=hX13.frozen 9;have x0:=hX13.cell 0;have x1:=hX13.cell 1;have x2:=hX13.cell 2;have x3:=hX13.cell 3;have x4:=hX13.cell 4;have x5:=hX13.cell 5;have x6:=hX13.cell 6;have x7:=hX13.cell 7;have x8:=hX13.cell 8;have x9:=hX13.cell 9;simp only[List.getElem?_toArray,List.getElem?_cons_zero,List.getElem?_cons_succ]at x0 x1 x2 x3 x4 x5 x6 x7 x8 x9
    go_wp2_with(go_at_call 244;refine(need_true _).mono ?_;rintro e w' ⟨rfl,rfl⟩)
    exact bodyPost_ret (aF (t:=2) rfl _ _ _ _ rfl rfl (hX13.set10 rfl)) rfl ⟨.inl ⟨_,r,HN.out,rfl,hP13.grown (aI _ w.heap.size) (fun m e=>by cases e;exact hBw)⟩,aE hG13 (aI _ w.heap.size) (Nat.le_refl _)⟩
  by_cases hx8:x=[106,117,110,99,116,105,111,110]
  case pos=>
   subst hx8;obtain⟨hd1,hd2⟩:=ht9.t [106,117,110,99,116,105,111,110] (dF 239 g) (by simp[pH,eD,iT,cL,dJ,bJ,bD])
   rw[hd1]at hlk;rw[hd2]at hfv;obtain rfl:=iE hfv;clear hfv hd1 hd2 ht9 hlen;have hc:=aDp g B (nbs [106,117,110,99,116,105,111,110]) r w10 hP10;unfold nA at hc;go_wp2_with fail
   refine hc.mono ?_
   rintro e w11 ⟨⟨n,r',hraw0,rfl,hP11⟩|⟨hraw0,rfl⟩,hk⟩
   case inr=>
    have HN:Hid (aQ ([106,117,110,99,116,105,111,110]::r)=none):=by show _=_;simp only[aQ];rw[show eL [106,117,110,99,116,105,111,110] r=j7 r from rfl,hraw0]
    have hGe:=hG10.trans hk;go_wp2_with fail
    exact⟨rfl,.inr ⟨HN.out,rfl⟩,hGe⟩
   clear hc hlk;have hX11:=hX10.grownBy hk (by simp;omega)
   have hG11:=hG10.trans hk;clear hk hP10 hX10 hG10;have hraw:Hid (eL [106,117,110,99,116,105,111,110] r=some (n,r')):=hraw0;clear hraw0;obtain⟨nk,ntu,ngr,nlo,nch,nton,nme,nsi,nwa,nar⟩:=n
   dsimp only
   obtain⟨w12,hw12⟩ : ∃w12,w12=w11.alloc (.cells #[.int .i64 nk,.int .i64 ntu,.int .i64 ngr,.int .i64 nlo,.int .i64 nch,.int .i64 nton,.int .i64 nme,.int .i64 nsi,.int .i64 nwa,.int .i64 nar] 118):=⟨_,rfl⟩
   have hk:Below w11.heap.size w11 w12:=by rw[hw12];exact(Below.refl _ _).alloc (Nat.le_refl _) _
   have hM12:BK w12 w11.heap.size 118 #[.int .i64 nk,.int .i64 ntu,.int .i64 ngr,.int .i64 nlo,.int .i64 nch,.int .i64 nton,.int .i64 nme,.int .i64 nsi,.int .i64 nwa,.int .i64 nar]:=by rw[hw12];exact BK.new w11 _ _
   have hP12:=hP11.below hk;have hX12:=hX11.below hk hX11.lt;have hG12:=hG11.trans (aC (row:=some g) hk);clear hk hP11 hG11 hX11;go_wp2_with fail
   rw[←hw12];clear hw12;have m0:=hM12.cell 0;have m1:=hM12.cell 1;have m2:=hM12.cell 2;have m3:=hM12.cell 3;have m4:=hM12.cell 4;have m5:=hM12.cell 5;have m6:=hM12.cell 6;have m7:=hM12.cell 7;have m8:=hM12.cell 8;have m9:=hM12.cell 9;simp only[List.getElem?_toArray,List.getElem?_cons_zero,List.getElem?_cons_succ]at m0 m1 m2 m3 m4 m5 m6 m7 m8 m9
   go_wp2_with fail
   clear m0 m1 m2 m3 m4 m5 m6 m7 m8 m9;refine(nvalid_any nk ntu ngr nlo nch nton nme nsi nwa nar w12).mono ?_
   rintro e w13 ⟨rfl,hk⟩;have hM13:=hM12.below hk hM12.lt;have hP13:=hP12.below hk;have hX13:=hX12.below hk hX12.lt;have hG13:=hG12.trans (aC (row:=some g) hk);clear hk hP12 hG12 hX12 hM12;cases hv:aR ⟨nk,ntu,ngr,nlo,nch,nton,nme,nsi,nwa,nar⟩ with
   |false=>
    have HN:Hid (aQ ([106,117,110,99,116,105,111,110]::r)=none):=by show _=_;simp only[aQ,hraw.out,hv];rfl
    clear hv;go_wp2_with(go_at_call 244;refine(need_false _).mono ?_;rintro e w' ⟨rfl,rfl⟩)
    exact⟨rfl,.inr ⟨HN.out,rfl⟩,hG13⟩
   |true=>
    have HN:Hid (aQ ([106,117,110,99,116,105,111,110]::r)=some (⟨nk,ntu,ngr,nlo,nch,nton,nme,nsi,nwa,nar⟩,r')):=by show _=_;simp only[aQ,hraw.out,hv];rfl
    clear hv;have m0:=hM13.cell 0;have m1:=hM13.cell 1;have m2:=hM13.cell 2;have m3:=hM13.cell 3;have m4:=hM13.cell 4;have m5:=hM13.cell 5;have m6:=hM13.cell 6;have m7:=hM13.cell 7;have m8:=hM13.cell 8;have m9:=hM13.cell 9;simp only[List.getElem?_toArray,List.getElem?_cons_zero,List.getElem?_cons_succ]at m0 m1 m2 m3 m4 m5 m6 m7 m8 m9
    have xf0:=hX13.frozen 0;have xf1:=hX13.frozen 1;have xf2:=hX13.frozen 2;have xf3:=hX13.frozen 3;have xf4:=hX13.frozen 4;have xf5:=hX13.frozen 5;have xf6:=hX13.frozen 6;have xf7:=hX13.frozen 7;have xf8:=hX13.frozen 8;have xf9:=hX13.frozen 9;have x0:=hX13.cell 0;have x1:=hX13.cell 1;have x2:=hX13.cell 2;have x3:=hX13.cell 3;have x4:=hX13.cell 4;have x5:=hX13.cell 5;have x6:=hX13.cell 6;have x7:=hX13.cell 7;have x8:=hX13.cell 8;have x9:=hX13.cell 9;simp only[List.getElem?_toArray,List.getElem?_cons_zero,List.getElem?_cons_succ]at x0 x1 x2 x3 x4 x5 x6 x7 x8 x9
    go_wp2_with(go_at_call 244;refine(need_true _).mono ?_;rintro e w' ⟨rfl,rfl⟩)
    exact bodyPost_ret (aF (t:=2) rfl _ _ _ _ rfl rfl (hX13.set10 rfl)) rfl ⟨.inl ⟨_,r',HN.out,rfl,hP13.grown (aI _ w.heap.size) (fun m e=>by cases e;exact hBw)⟩,aE hG13 (aI _ w.heap.size) (Nat.le_refl _)⟩
  have hmiss:Maps.has D (kT x)=false:=ht9.n x fun d hd=>by
   simp[pH,eD,iT,cL,dJ,bJ,bD,hx0,hx1,hx2,hx3,hx4,hx5,hx6,hx7,hx8]at hd
  rw[hmiss]at hlk;have HRW:Hid (eL x r=if x.head?=some 76∨x.head?=some 82 then fO x r else match dK x with|none=>none|some m=>some (⟨2,0,0,0,0,0,m,0,0,0⟩,r)):=by
   show _=_
   unfold eL;rw[if_neg (show x≠eD from hx0),if_neg (show x≠iT from hx1),if_neg (show x≠cL from hx2),if_neg (show x≠dJ from hx3),if_neg (show x≠bJ from hx4),if_neg hx5,if_neg hx6,if_neg hx7,if_neg (show x≠bD from hx8)]
   by_cases hq:x.head?=some 76∨x.head?=some 82
   ·rw[if_pos hq,if_pos hq]
   ·rw[if_neg hq,if_neg hq]
    cases dK x<;>rfl
  clear hmiss hfv ht9 hlen hx0 hx1 hx2 hx3 hx4 hx5 hx6 hx7 hx8;have hpL:=aB8 x 76 w10;have hpR:=aB8 x 82 w10;by_cases hq:x.head?=some 76
  case pos=>
   have gL:(x.head? == some 76)=true:=by rw[hq];rfl
   rw[gL]at hpL;obtain⟨t,rfl⟩ : ∃t,x=76::t:=by
    cases x with
    |nil=>simp at hq
    |cons c t=>simp at hq;subst hq;exact⟨t,rfl⟩
   have hc:=rL g B 76 t r w10 (by decide) hP10
   unfold nA at hc;go_wp2_with(first|(go_at_call 241;first|(refine hpL.mono ?_;rintro e w' ⟨rfl,rfl⟩)|(refine hpR.mono ?_;rintro e w' ⟨rfl,rfl⟩)))
   refine hc.mono ?_
   rintro e w11 ⟨⟨n,r',hraw0,rfl,hP11⟩|⟨hraw0,rfl⟩,hk⟩
   case inr=>
    have HN:Hid (aQ ((76::t)::r)=none):=by show _=_;simp only[aQ];rw[HRW.out,if_pos (by simp),hraw0]
    have hGe:=hG10.trans hk;go_wp2_with fail
    exact⟨rfl,.inr ⟨HN.out,rfl⟩,hGe⟩
   clear hc hlk hpL hpR;have hX11:=hX10.grownBy hk (by simp;omega)
   have hG11:=hG10.trans hk;clear hk hP10 hX10 hG10;have hraw:Hid (eL (76::t) r=some (n,r')):=by show _=_;rw[HRW.out,if_pos (by simp),hraw0]
   clear hraw0 HRW;obtain⟨nk,ntu,ngr,nlo,nch,nton,nme,nsi,nwa,nar⟩:=n
   dsimp only
   obtain⟨w12,hw12⟩ : ∃w12,w12=w11.alloc (.cells #[.int .i64 nk,.int .i64 ntu,.int .i64 ngr,.int .i64 nlo,.int .i64 nch,.int .i64 nton,.int .i64 nme,.int .i64 nsi,.int .i64 nwa,.int .i64 nar] 118):=⟨_,rfl⟩
   have hk:Below w11.heap.size w11 w12:=by rw[hw12];exact(Below.refl _ _).alloc (Nat.le_refl _) _
   have hM12:BK w12 w11.heap.size 118 #[.int .i64 nk,.int .i64 ntu,.int .i64 ngr,.int .i64 nlo,.int .i64 nch,.int .i64 nton,.int .i64 nme,.int .i64 nsi,.int .i64 nwa,.int .i64 nar]:=by rw[hw12];exact BK.new w11 _ _
   have hP12:=hP11.below hk;have hX12:=hX11.below hk hX11.lt;have hG12:=hG11.trans (aC (row:=some g) hk);clear hk hP11 hG11 hX11;go_wp2_with fail
   rw[←hw12];clear hw12;have m0:=hM12.cell 0;have m1:=hM12.cell 1;have m2:=hM12.cell 2;have m3:=hM12.cell 3;have m4:=hM12.cell 4;have m5:=hM12.cell 5;have m6:=hM12.cell 6;have m7:=hM12.cell 7;have m8:=hM12.cell 8;have m9:=hM12.cell 9;simp only[List.getElem?_toArray,List.getElem?_cons_zero,List.getElem?_cons_succ]at m0 m1 m2 m3 m4 m5 m6 m7 m8 m9
   go_wp2_with fail
   clear m0 m1 m2 m3 m4 m5 m6 m7 m8 m9;refine(nvalid_any nk ntu ngr nlo nch nton nme nsi nwa nar w12).mono ?_
   rintro e w13 ⟨rfl,hk⟩;have hM13:=hM12.below hk hM12.lt;have hP13:=hP12.below hk;have hX13:=hX12.below hk hX12.lt;have hG13:=hG12.trans (aC (row:=some g) hk);clear hk hP12 hG12 hX12 hM12;cases hv:aR ⟨nk,ntu,ngr,nlo,nch,nton,nme,nsi,nwa,nar⟩ with
   |false=>
    have HN:Hid (aQ ((76::t)::r)=none):=by show _=_;simp only[aQ,hraw.out,hv];rfl
    clear hv;go_wp2_with(go_at_call 244;refine(need_false _).mono ?_;rintro e w' ⟨rfl,rfl⟩)
    exact⟨rfl,.inr ⟨HN.out,rfl⟩,hG13⟩
   |true=>
    have HN:Hid (aQ ((76::t)::r)=some (⟨nk,ntu,ngr,nlo,nch,nton,nme,nsi,nwa,nar⟩,r')):=by show _=_;simp only[aQ,hraw.out,hv];rfl
    clear hv;have m0:=hM13.cell 0;have m1:=hM13.cell 1;have m2:=hM13.cell 2;have m3:=hM13.cell 3;have m4:=hM13.cell 4;have m5:=hM13.cell 5;have m6:=hM13.cell 6;have m7:=hM13.cell 7;have m8:=hM13.cell 8;have m9:=hM13.cell 9;simp only[List.getElem?_toArray,List.getElem?_cons_zero,List.getElem?_cons_succ]at m0 m1 m2 m3 m4 m5 m6 m7 m8 m9
    have xf0:=hX13.frozen 0;have xf1:=hX13.frozen 1;have xf2:=hX13.frozen 2;have xf3:=hX13.frozen 3;have xf4:=hX13.frozen 4;have xf5:=hX13.frozen 5;have xf6:=hX13.frozen 6;have xf7:=hX13.frozen 7;have xf8:=hX13.frozen 8;have xf9:=hX13.frozen 9;have x0:=hX13.cell 0;have x1:=hX13.cell 1;have x2:=hX13.cell 2;have x3:=hX13.cell 3;have x4:=hX13.cell 4;have x5:=hX13.cell 5;have x6:=hX13.cell 6;have x7:=hX13.cell 7;have x8:=hX13.cell 8;have x9:=hX13.cell 9;simp only[List.getElem?_toArray,List.getElem?_cons_zero,List.getElem?_cons_succ]at x0 x1 x2 x3 x4 x5 x6 x7 x8 x9
    go_wp2_with(go_at_call 244;refine(need_true _).mono ?_;rintro e w' ⟨rfl,rfl⟩)
    exact bodyPost_ret (aF (t:=2) rfl _ _ _ _ rfl rfl (hX13.set10 rfl)) rfl ⟨.inl ⟨_,r',HN.out,rfl,hP13.grown (aI _ w.heap.size) (fun m e=>by cases e;exact hBw)⟩,aE hG13 (aI _ w.heap.size) (Nat.le_refl _)⟩
  have gL:(x.head? == some 76)=false:=by simpa using hq
  rw[gL]at hpL;have HQ:=Lib.hid hq;clear hq gL;by_cases hq:x.head?=some 82
  case pos=>
   have gR:(x.head? == some 82)=true:=by rw[hq];rfl
   rw[gR]at hpR;clear HQ;obtain⟨t,rfl⟩ : ∃t,x=82::t:=by
    cases x with
    |nil=>simp at hq
    |cons c t=>simp at hq;subst hq;exact⟨t,rfl⟩
   have hc:=rL g B 82 t r w10 (by decide) hP10
   unfold nA at hc;go_wp2_with(first|(go_at_call 241;first|(refine hpL.mono ?_;rintro e w' ⟨rfl,rfl⟩)|(refine hpR.mono ?_;rintro e w' ⟨rfl,rfl⟩)))
   refine hc.mono ?_
   rintro e w11 ⟨⟨n,r',hraw0,rfl,hP11⟩|⟨hraw0,rfl⟩,hk⟩
   case inr=>
    have HN:Hid (aQ ((82::t)::r)=none):=by show _=_;simp only[aQ];rw[HRW.out,if_pos (by simp),hraw0]
    have hGe:=hG10.trans hk;go_wp2_with fail
    exact⟨rfl,.inr ⟨HN.out,rfl⟩,hGe⟩
   clear hc hlk hpL hpR;have hX11:=hX10.grownBy hk (by simp;omega)
   have hG11:=hG10.trans hk;clear hk hP10 hX10 hG10;have hraw:Hid (eL (82::t) r=some (n,r')):=by show _=_;rw[HRW.out,if_pos (by simp),hraw0]
   clear hraw0 HRW;obtain⟨nk,ntu,ngr,nlo,nch,nton,nme,nsi,nwa,nar⟩:=n
   dsimp only
   obtain⟨w12,hw12⟩ : ∃w12,w12=w11.alloc (.cells #[.int .i64 nk,.int .i64 ntu,.int .i64 ngr,.int .i64 nlo,.int .i64 nch,.int .i64 nton,.int .i64 nme,.int .i64 nsi,.int .i64 nwa,.int .i64 nar] 118):=⟨_,rfl⟩
   have hk:Below w11.heap.size w11 w12:=by rw[hw12];exact(Below.refl _ _).alloc (Nat.le_refl _) _
   have hM12:BK w12 w11.heap.size 118 #[.int .i64 nk,.int .i64 ntu,.int .i64 ngr,.int .i64 nlo,.int .i64 nch,.int .i64 nton,.int .i64 nme,.int .i64 nsi,.int .i64 nwa,.int .i64 nar]:=by rw[hw12];exact BK.new w11 _ _
   have hP12:=hP11.below hk;have hX12:=hX11.below hk hX11.lt;have hG12:=hG11.trans (aC (row:=some g) hk);clear hk hP11 hG11 hX11;go_wp2_with fail
   rw[←hw12];clear hw12;have m0:=hM12.cell 0;have m1:=hM12.cell 1;have m2:=hM12.cell 2;have m3:=hM12.cell 3;have m4:=hM12.cell 4;have m5:=hM12.cell 5;have m6:=hM12.cell 6;have m7:=hM12.cell 7;have m8:=hM12.cell 8;have m9:=hM12.cell 9;simp only[List.getElem?_toArray,List.getElem?_cons_zero,List.getElem?_cons_succ]at m0 m1 m2 m3 m4 m5 m6 m7 m8 m9
   go_wp2_with fail
   clear m0 m1 m2 m3 m4 m5 m6 m7 m8 m9;refine(nvalid_any nk ntu ngr nlo nch nton nme nsi nwa nar w12).mono ?_
   rintro e w13 ⟨rfl,hk⟩;have hM13:=hM12.below hk hM12.lt;have hP13:=hP12.below hk;have hX13:=hX12.below hk hX12.lt;have hG13:=hG12.trans (aC (row:=some g) hk);clear hk hP12 hG12 hX12 hM12;cases hv:aR ⟨nk,ntu,ngr,nlo,nch,nton,nme,nsi,nwa,nar⟩ with
   |false=>
    have HN:Hid (aQ ((82::t)::r)=none):=by show _=_;simp only[aQ,hraw.out,hv];rfl
    clear hv;go_wp2_with(go_at_call 244;refine(need_false _).mono ?_;rintro e w' ⟨rfl,rfl⟩)
    exact⟨rfl,.inr ⟨HN.out,rfl⟩,hG13⟩
   |true=>
    have HN:Hid (aQ ((82::t)::r)=some (⟨nk,ntu,ngr,nlo,nch,nton,nme,nsi,nwa,nar⟩,r')):=by show _=_;simp only[aQ,hraw.out,hv];rfl
    clear hv;have m0:=hM13.cell 0;have m1:=hM13.cell 1;have m2:=hM13.cell 2;have m3:=hM13.cell 3;have m4:=hM13.cell 4;have m5:=hM13.cell 5;have m6:=hM13.cell 6;have m7:=hM13.cell 7;have m8:=hM13.cell 8;have m9:=hM13.cell 9;simp only[List.getElem?_toArray,List.getElem?_cons_zero,List.getElem?_cons_succ]at m0 m1 m2 m3 m4 m5 m6 m7 m8 m9
    have xf0:=hX13.frozen 0;have xf1:=hX13.frozen 1;have xf2:=hX13.frozen 2;have xf3:=hX13.frozen 3;have xf4:=hX13.frozen 4;have xf5:=hX13.frozen 5;have xf6:=hX13.frozen 6;have xf7:=hX13.frozen 7;have xf8:=hX13.frozen 8;have xf9:=hX13.frozen 9;have x0:=hX13.cell 0;have x1:=hX13.cell 1;have x2:=hX13.cell 2;have x3:=hX13.cell 3;have x4:=hX13.cell 4;have x5:=hX13.cell 5;have x6:=hX13.cell 6;have x7:=hX13.cell 7;have x8:=hX13.cell 8;have x9:=hX13.cell 9;simp only[List.getElem?_toArray,List.getElem?_cons_zero,List.getElem?_cons_succ]at x0 x1 x2 x3 x4 x5 x6 x7 x8 x9
    go_wp2_with(go_at_call 244;refine(need_true _).mono ?_;rintro e w' ⟨rfl,rfl⟩)
    exact bodyPost_ret (aF (t:=2) rfl _ _ _ _ rfl rfl (hX13.set10 rfl)) rfl ⟨.inl ⟨_,r',HN.out,rfl,hP13.grown (aI _ w.heap.size) (fun m e=>by cases e;exact hBw)⟩,aE hG13 (aI _ w.heap.size) (Nat.le_refl _)⟩
  have gR:(x.head? == some 82)=false:=by simpa using hq
  rw[gR]at hpR;have HRW2:Hid (eL x r=match dK x with|none=>none|some m=>some (⟨2,0,0,0,0,0,m,0,0,0⟩,r)):=by
   show _=_
   rw[HRW.out,if_neg (by rintro(h|h);exact HQ.out h;exact hq h)]
  clear gR hq HRW HQ;have hc:=aA2 g x w10;unfold nA at hc;go_wp2_with(first|(go_at_call 241;first|(refine hpL.mono ?_;rintro e w' ⟨rfl,rfl⟩)|(refine hpR.mono ?_;rintro e w' ⟨rfl,rfl⟩)))
  refine hc.mono ?_
  rintro e w11 ⟨⟨nme,hraw0,rfl⟩|⟨hraw0,rfl⟩,hk⟩
  case inr=>
   have HN:Hid (aQ (x::r)=none):=by show _=_;simp only[aQ];rw[HRW2.out,hraw0]
   have hGe:=hG10.trans (aC (row:=some g) hk);go_wp2_with fail
   exact⟨rfl,.inr ⟨HN.out,rfl⟩,hGe⟩
  clear hc hlk hpL hpR;have hP11:=hP10.below hk;have hX11:=hX10.below hk hX10.lt;have hG11:=hG10.trans (aC (row:=some g) hk);clear hk hP10 hX10 hG10;have hraw:Hid (eL x r=some (⟨2,0,0,0,0,0,nme,0,0,0⟩,r)):=by show _=_;rw[HRW2.out,hraw0]
  clear hraw0 HRW2;obtain⟨w12,hw12⟩ : ∃w12,w12=w11.alloc (.cells #[.int .i64 2,.int .i64 0,.int .i64 0,.int .i64 0,.int .i64 0,.int .i64 0,.int .i64 nme,.int .i64 0,.int .i64 0,.int .i64 0] 118):=⟨_,rfl⟩
  have hk:Below w11.heap.size w11 w12:=by rw[hw12];exact(Below.refl _ _).alloc (Nat.le_refl _) _
  have hM12:BK w12 w11.heap.size 118 #[.int .i64 2,.int .i64 0,.int .i64 0,.int .i64 0,.int .i64 0,.int .i64 0,.int .i64 nme,.int .i64 0,.int .i64 0,.int .i64 0]:=by rw[hw12];exact BK.new w11 _ _
  have hP12:=hP11.below hk;have hX12:=hX11.below hk hX11.lt;have hG12:=hG11.trans (aC (row:=some g) hk);clear hk hP11 hG11 hX11;go_wp2_with fail
  rw[←hw12];clear hw12;have m0:=hM12.cell 0;have m1:=hM12.cell 1;have m2:=hM12.cell 2;have m3:=hM12.cell 3;have m4:=hM12.cell 4;have m5:=hM12.cell 5;have m6:=hM12.cell 6;have m7:=hM12.cell 7;have m8:=hM12.cell 8;have m9:=hM12.cell 9;simp only[List.getElem?_toArray,List.getElem?_cons_zero,List.getElem?_cons_succ]at m0 m1 m2 m3 m4 m5 m6 m7 m8 m9
  go_wp2_with fail
  clear m0 m1 m2 m3 m4 m5 m6 m7 m8 m9;refine(nvalid_any 2 0 0 0 0 0 nme 0 0 0 w12).mono ?_
  rintro e w13 ⟨rfl,hk⟩;have hM13:=hM12.below hk hM12.lt;have hP13:=hP12.below hk;have hX13:=hX12.below hk hX12.lt;have hG13:=hG12.trans (aC (row:=some g) hk);clear hk hP12 hG12 hX12 hM12;cases hv:aR ⟨2,0,0,0,0,0,nme,0,0,0⟩ with
  |false=>
   have HN:Hid (aQ (x::r)=none):=by show _=_;simp only[aQ,hraw.out,hv];rfl
   clear hv;go_wp2_with(go_at_call 244;refine(need_false _).mono ?_;rintro e w' ⟨rfl,rfl⟩)
   exact⟨rfl,.inr ⟨HN.out,rfl⟩,hG13⟩
  |true=>
   have HN:Hid (aQ (x::r)=some (⟨2,0,0,0,0,0,nme,0,0,0⟩,r)):=by show _=_;simp only[aQ,hraw.out,hv];rfl
   clear hv;have m0:=hM13.cell 0;have m1:=hM13.cell 1;have m2:=hM13.cell 2;have m3:=hM13.cell 3;have m4:=hM13.cell 4;have m5:=hM13.cell 5;have m6:=hM13.cell 6;have m7:=hM13.cell 7;have m8:=hM13.cell 8;have m9:=hM13.cell 9;simp only[List.getElem?_toArray,List.getElem?_cons_zero,List.getElem?_cons_succ]at m0 m1 m2 m3 m4 m5 m6 m7 m8 m9
   have xf0:=hX13.frozen 0;have xf1:=hX13.frozen 1;have xf2:=hX13.frozen 2;have xf3:=hX13.frozen 3;have xf4:=hX13.frozen 4;have xf5:=hX13.frozen 5;have xf6:=hX13.frozen 6;have xf7:=hX13.frozen 7;have xf8:=hX13.frozen 8;have xf9:=hX13.frozen 9;have x0:=hX13.cell 0;have x1:=hX13.cell 1;have x2:=hX13.cell 2;have x3:=hX13.cell 3;have x4:=hX13.cell 4;have x5:=hX13.cell 5;have x6:=hX13.cell 6;have x7:=hX13.cell 7;have x8:=hX13.cell 8;have x9:=hX13.cell 9;simp only[List.getElem?_toArray,List.getElem?_cons_zero,List.getElem?_cons_succ]at x0 x1 x2 x3 x4 x5 x6 x7 x8 x9
   go_wp2_with(go_at_call 244;refine(need_true _).mono ?_;rintro e w' ⟨rfl,rfl⟩)
   exact bodyPost_ret (aF (t:=2) rfl _ _ _ _ rfl rfl (hX13.set10 rfl)) rfl ⟨.inl ⟨_,r,HN.out,rfl,hP13.grown (aI _ w.heap.size) (fun m e=>by cases e;exact hBw)⟩,aE hG13 (aI _ w.heap.size) (Nat.le_refl _)⟩
end Go.Proofs.YtjlkeoppppfeiaaGreat
