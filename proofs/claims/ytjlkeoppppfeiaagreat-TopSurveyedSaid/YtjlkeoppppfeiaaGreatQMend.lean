/- Lemmas. -/
import Derived.Test.YtjlkeoppppfeiaaGreatQNAll
import Derived.Test.YtjlkeoppppfeiaaGreatQTStab
import Derived.Test.YtjlkeoppppfeiaaGreatQNoteV
import Derived.Test.YtjlkeoppppfeiaaGreatQMake
import Derived.Test.YtjlkeoppppfeiaaGreatQRMan
import Derived.Test.YtjlkeoppppfeiaaGreatQMended
import Derived.Test.YtjlkeoppppfeiaaGreatQMendP
namespace Go.Proofs.YtjlkeoppppfeiaaGreat
open Go.RowKit Go.Shelf Go.Sort Go.Proofs
theorem aBP (s:List UInt8) (hl:s.length≤100000) (w:World):Calls Tryz.prog 117 #[.string (nbs s)] w (RA w s):=callsIn_wide.1 (aDl s hl w)
def gY (s:List UInt8):Except Int (List NoteR):=
 if 40000<s.length then .error 4 else match kF s with
 |none=>.error 3
 |some L=>if 2000<L.length then .error 4 else .ok L
def RR (w:World) (s:List UInt8) (e:Ending) (w':World):Prop:=
 Below w.heap.size w w'∧((∃k,gY s = .error k∧e = .returned (.tuple #[.slice none 0 0,.int .i64 k])) ∨
  (∃L A c,gY s = .ok L∧e = .returned (.tuple #[.slice A L.length c,.int .i64 0])∧OW nC 10 118 w.heap.size w' A L.length c L))
set_option maxRecDepth 100000 in
set_option maxHeartbeats 4000000 in
theorem aAR (s:List UInt8) (w:World):Calls Tryz.prog 38 #[.string (nbs s)] w (RR w s):=by
 have hz:(nbs s).size=s.length:=cS s;go_enter Tryz.func38,Tryz.ntmps38
 go_wp2_with(go_at_call 117;refine(aBP s (by omega) _).mono ?_;rintro e w' hR;have HR:=Lib.hid hR;clear hR;rcases HR.out with⟨L,A,c,hs,rfl,hO,hB⟩|⟨hs,rfl,hB⟩)
 all_goals go_ret2
 ·exact⟨Below.refl _ _,.inl ⟨4,by unfold gY;rw[if_pos (by omega)],rfl⟩⟩
 ·exact⟨hB,.inl ⟨4,by unfold gY;rw[if_neg (by omega),hs];simp only;rw[if_pos (by omega)],rfl⟩⟩
 ·exact⟨hB,.inr ⟨L,A,c,by unfold gY;rw[if_neg (by omega),hs];simp only;rw[if_neg (by omega)],rfl,hO⟩⟩
 ·exact⟨hB,.inl ⟨3,by unfold gY;rw[if_neg (by omega),hs],rfl⟩⟩
end Go.Proofs.YtjlkeoppppfeiaaGreat
namespace Go.Proofs.YtjlkeoppppfeiaaGreat
open Go.RowKit Go.Shelf Go.Sort Go.Proofs
def kB (b:BkR) (g:Int):Int:=if 1<g then b.gs.getD (g-2).toNat 0 else 5
def kD (b:BkR) (g:Int):Int:=if g≤(b.gs.length:Nat) then b.gs.getD (g-1).toNat 0-1 else 2000
def aDQ (b:BkR) (g:Int):Bool:=decide (1≤g)&&decide (g≤(b.gs.length:Nat)+1)
def uV (b:BkR) (g:Int):Int×Int×Bool:=if aDQ b g then (kB b g,kD b g,true) else (0,0,false)
end Go.Proofs.YtjlkeoppppfeiaaGreat
namespace Go.Proofs.YtjlkeoppppfeiaaGreat
open Go.RowKit Go.Shelf Go.Sort Go.Proofs
structure MeanR where
 fr:Int
 to_:Int
 lt:Int
 la:Int
 an:Int
 mo:Int
def uW (b:BkR) (nt:NoteR):Int×Int×Bool:=if nt.ch=0 then (0,0,true) else uV b nt.ton
def aAS (b:BkR) (l:Int):Int:=if l = -1 then 0 else if l=0 then b.sh else b.lo
def xH (b:BkR) (l:Int):Int:=if l = -1 then b.sh-1 else if l=0 then b.lo-1 else 10000
def yY (b:BkR) (nt:NoteR):Option MeanR:=
 if (uV b nt.gr).2.2&&(uW b nt).2.2 then some ⟨(uV b nt.gr).1,(uV b nt.gr).2.1,(uW b nt).1,(uW b nt).2.1,aAS b nt.lo,xH b nt.lo⟩ else none
theorem BK.t6 {w:World} {g:Nat} {t:TypeId} {v0 v1 v2 v3 v4 v5:Value} (h:BK w g t #[v0,v1,v2,v3,v4,v5]) :
  w.cell? ⟨g,0,none⟩=some v0∧w.cell? ⟨g,1,none⟩=some v1∧w.cell? ⟨g,2,none⟩=some v2∧w.cell? ⟨g,3,none⟩=some v3∧w.cell? ⟨g,4,none⟩=some v4∧w.cell? ⟨g,5,none⟩=some v5:=by
 have c0:=h.cell 0;have c1:=h.cell 1;have c2:=h.cell 2;have c3:=h.cell 3;have c4:=h.cell 4;have c5:=h.cell 5;simp only[List.getElem?_toArray,List.getElem?_cons_zero,List.getElem?_cons_succ]at c0 c1 c2 c3 c4 c5
 exact⟨c0,c1,c2,c3,c4,c5⟩
end Go.Proofs.YtjlkeoppppfeiaaGreat
namespace Go.Proofs.YtjlkeoppppfeiaaGreat
theorem yZ:∀(l:List Int) (x:Int),l.Pairwise (· < ·)→∀k (hk:k<l.length),l[k]≤x↔k<l.countP (fun g=>decide (g≤x))
 | [],_,_,k,hk=>by simp at hk
 |a::l,x,h,k,hk=>by
  obtain⟨h1,h2⟩:=List.pairwise_cons.1 h;have ih:=yZ l x h2;rw[List.countP_cons];by_cases ha:a≤x
  ·rw[if_pos (decide_eq_true ha)]
   cases k with
   |zero=>simp[ha]
   |succ k=>
    have:=ih k (by simpa using hk)
    rw[List.getElem_cons_succ,this];omega
  ·have h0:l.countP (fun g=>decide (g≤x))=0:=by
    rw[List.countP_eq_zero];intro y hy;have:=h1 y hy;simp;omega
   rw[if_neg (by simpa using ha),h0]
   cases k with
   |zero=>simp[ha]
   |succ k=>
    have hk':k<l.length:=by simpa using hk
    have:=h1 l[k] (List.getElem_mem hk');rw[List.getElem_cons_succ];omega
theorem kL (b:BkR) (x:Int):1≤bB b x∧bB b x≤(b.gs.length:Nat)+1:=by
 unfold bB;have:b.gs.countP (fun g=>decide (g≤x))≤b.gs.length:=List.countP_le_length
 omega
theorem aAT {b:BkR} (hv:BkOK b) {x:Int} (h5:5≤x) (h2:x≤2000) {g:Nat} (h1:1≤g) (hg:g≤b.gs.length+1):(kB b g≤x∧x≤kD b g)↔bB b x=g:=by
 have hc:b.gs.countP (fun g=>decide (g≤x))≤b.gs.length:=List.countP_le_length
 have hi:=yZ b.gs x hv.inc;have hL:kB b g≤x↔(1<g→g-2<b.gs.countP (fun g=>decide (g≤x))):=by
  unfold kB;by_cases e:1<g
  ·rw[if_pos (by omega),show ((g:Int)-2).toNat=g-2 by omega,List.getD_eq_getElem?_getD,List.getElem?_eq_getElem (by omega)]
   rw[Option.getD_some,hi (g-2) (by omega)]
   simp[e]
  ·rw[if_neg (by omega)]
   simp[e,h5]
 have hH:x≤kD b g↔(g≤b.gs.length→¬g-1<b.gs.countP (fun g=>decide (g≤x))):=by
  unfold kD;by_cases e:g≤b.gs.length
  ·rw[if_pos (by omega),show ((g:Int)-1).toNat=g-1 by omega,List.getD_eq_getElem?_getD,List.getElem?_eq_getElem (by omega)]
   rw[Option.getD_some,←hi (g-1) (by omega)]
   simp only[e,true_implies];omega
  ·rw[if_neg (by omega)]
   simp[e,h2]
 rw[hL,hH];unfold bB
 constructor
 ·rintro⟨a1,a2⟩
  by_cases e1:1<g<;>by_cases e2:g≤b.gs.length
  ·have:=a1 e1;have:=a2 e2;omega
  ·have:=a1 e1;omega
  ·have:=a2 e2;omega
  ·omega
 ·intro e
  exact⟨fun _=>by omega,fun _=>by omega⟩
end Go.Proofs.YtjlkeoppppfeiaaGreat
namespace Go.Proofs.YtjlkeoppppfeiaaGreat
open Go.RowKit Go.Shelf Go.Sort Go.Proofs
section
variable {α:Type} (key:α→Int) (p:α→Bool)
end
theorem aC8 (b:BkR) (k:Corner):(iN b k).k=1:=by
 unfold iN
 split
 ·rfl
 ·split<;>rfl
theorem aC9 {b:BkR} {d:Int} {f:Bool} {n:NoteR} (h:eA b d f=some n):n.k=2∨n.k=3∨n.k=4:=by
 unfold eA at h
 split at h
 ·cases h;exact .inl rfl
 ·split at h
  ·cases h
  ·split at h
   ·cases h;exact .inr (.inr rfl)
   ·cases h;exact .inr (.inl rfl)
theorem zA {a:Int}:∀(g:List Bd) (b:Int),a≤b→(∀e∈g,a≤e.2.rad)→a≤g.foldl (fun r e=>min r e.2.rad) b
 | [],b,h,_=>h
 |e::g,b,h,hg=>by
  rw[List.foldl_cons];have:=hg e (List.mem_cons_self ..);exact zA g _ (by omega) (fun d hd=>hg d (List.mem_cons_of_mem _ hd))
theorem aCa {R:Road} (hv:OK R) {gap least:Int} {c:Corner} (h:c∈eR gap least R):5≤c.rad∧c.rad≤2000:=by
 have h1:=pL hv h;have h2:=(wS hv h).1.2;refine⟨?_,by have:=h1.inn;omega⟩
 obtain⟨g,hg,rfl⟩:=List.mem_map.1 (List.mem_filter.1 h).1;have hb:∀e∈g,5≤e.2.rad:=fun e he=>by
  have hm:=gX hv (eZ hg he);exact((fQ hm.2.1).2.2 hm.2.2).1
 obtain⟨x,gt,gi,y,e0,e1⟩:=aD3 (sO _ _ g hg);rw[xD e0 e1];exact zA g _ (hb y (by rw[e1];simp)) hb
theorem sT {b:BkR} {g:Int} (h1:1≤g) (h2:g≤(b.gs.length:Nat)+1):uV b g=(kB b g,kD b g,true):=by
 unfold uV aDQ;rw[if_pos];simp;omega
theorem aAU {b:BkR} (hb:BkOK b) {R:Road} (hv:OK R) {c:Corner} (h:c∈eR b.ga b.le R):aR (iN b c)=true∧(iN b c).tu=c.turn ∧
  ∃m,yY b (iN b c)=some m∧m.an≤c.ang∧(m.mo<10000→c.ang≤m.mo)∧((iN b c).ch=0→m.fr≤c.rad∧c.rad≤m.to_):=by
 have hf:=pL hv h;have hr:=aCa hv h;have g1:=kL b c.inn;have g2:=kL b c.out;have g3:=kL b c.rad;have h8:=hb.n8;have hs:=hf.side;have ha:=hf.ang;have hle:=hb.le1;have hl : -1≤eB b c.ang∧eB b c.ang≤1:=by
  unfold eB
  split
  ·omega
  ·split<;>omega
 have hA:aAS b (eB b c.ang)≤c.ang∧(xH b (eB b c.ang)<10000→c.ang≤xH b (eB b c.ang)):=by
  unfold aAS xH eB;by_cases a1:c.ang<b.sh
  ·rw[if_pos a1,if_pos rfl,if_pos rfl]
   omega
  ·rw[if_neg a1]
   by_cases a2:b.lo≤c.ang
   ·rw[if_pos a2,if_neg (by decide),if_neg (by decide),if_neg (by decide),if_neg (by decide)]
    omega
   ·rw[if_neg a2,if_neg (by decide),if_pos rfl,if_neg (by decide),if_pos rfl]
    omega
 have r1:=sT g1.1 g1.2;have r2:=sT g2.1 g2.2;have r3:=sT g3.1 g3.2;unfold iN
 split
 ·rename_i hc
  refine⟨(cZ ..).2 ⟨⟨by omega,by omega,hl,.inr (.inr ⟨rfl,by omega,by omega⟩)⟩,rfl,rfl,rfl,rfl⟩,rfl,?_⟩
  refine⟨⟨kB b (bB b c.inn),kD b (bB b c.inn),kB b (bB b c.out),kD b (bB b c.out),aAS b (eB b c.ang),xH b (eB b c.ang)⟩,?_,hA.1,hA.2,fun q=>absurd q (by show ¬(_:Int)=0;simp)⟩
  have hL:uW b ⟨1,c.turn,bB b c.inn,eB b c.ang,1,bB b c.out,0,0,0,0⟩=uV b (bB b c.out):=by
   unfold uW;exact if_neg (by simp)
  unfold yY;rw[hL];simp only;rw[r1,r2]
  rfl
 ·split
  ·rename_i hc
   refine⟨(cZ ..).2 ⟨⟨by omega,by omega,hl,.inr (.inl ⟨rfl,by omega,by omega⟩)⟩,rfl,rfl,rfl,rfl⟩,rfl,?_⟩
   refine⟨⟨kB b (bB b c.inn),kD b (bB b c.inn),kB b (bB b c.out),kD b (bB b c.out),aAS b (eB b c.ang),xH b (eB b c.ang)⟩,?_,hA.1,hA.2,fun q=>absurd q (by show ¬(_:Int)=0;simp)⟩
   have hL:uW b ⟨1,c.turn,bB b c.inn,eB b c.ang,-1,bB b c.out,0,0,0,0⟩=uV b (bB b c.out):=by
    unfold uW;exact if_neg (by simp)
   unfold yY;rw[hL];simp only;rw[r1,r2]
   rfl
  ·refine⟨(cZ ..).2 ⟨⟨by omega,by omega,hl,.inl ⟨rfl,rfl⟩⟩,rfl,rfl,rfl,rfl⟩,rfl,?_⟩
   refine⟨⟨kB b (bB b c.rad),kD b (bB b c.rad),0,0,aAS b (eB b c.ang),xH b (eB b c.ang)⟩,?_,hA.1,hA.2,fun _=>?_⟩
   ·have hL:uW b ⟨1,c.turn,bB b c.rad,eB b c.ang,0,0,0,0,0,0⟩=(0,0,true):=rfl
    unfold yY;rw[hL];simp only;rw[r3]
    rfl
   ·obtain⟨g,hg⟩ : ∃g:Nat,bB b c.rad=g:=⟨(bB b c.rad).toNat,by omega⟩
    have:=(aAT hb hr.1 hr.2 (g:=g) (by omega) (by omega)).2 hg
    rw[hg];exact this
theorem aBQ {b:BkR} (hb:BkOK b) (d:Int):1≤aAm b d∧aAm b d≤9999:=by
 unfold aAm;have:=hb.st1;omega
theorem sU (b:BkR) (P:NoteR→Prop) (hl:∀d f n,eA b d f=some n→P n):∀(ts:List ThR) (e:Int) (f:Bool),(∀t∈ts,P t.nt)→∀n∈mkL b e f ts,P n
 | [],e,f,_,n,h=>by rw[mkL]at h;cases h
 |t::r,e,f,ht,n,h=>by
  rw[mkL]at h;rcases List.mem_append.1 h with h|h
  ·exact hl _ _ _ (by simpa using h)
  ·rcases List.mem_cons.1 h with rfl|h
   ·exact ht t (List.mem_cons_self ..)
   ·exact sU b P hl r _ _ (fun q hq=>ht q (List.mem_cons_of_mem _ hq)) n h
theorem mO {b:BkR} (hb:BkOK b) {R:Road} (hv:OK R):∀n∈makeL b R,aR n=true:=by
 unfold makeL;refine sU b _ (fun d f n h=>?_) _ _ _ (fun t ht=>?_)
 ·have hm:=aBQ hb d
  unfold eA at h
  split at h
  ·cases h;exact(rO ..).2 ⟨⟨rfl,rfl,rfl,rfl,rfl⟩,hm.1,hm.2,rfl,rfl,rfl⟩
  ·split at h
   ·cases h
   ·split at h
    ·cases h;rfl
    ·cases h;rfl
 ·rcases List.mem_append.1 (nI _ _ ht) with h|h
  ·obtain⟨j,hj,rfl⟩:=List.mem_map.1 h
   obtain⟨i,hi,rfl⟩:=List.getElem_of_mem hj;have h1:=hv.jk i hi _ (List.getElem?_eq_getElem hi)
   simp only[inR,Bool.and_eq_true,decide_eq_true_eq]at h1;show aR ⟨7,0,0,0,0,0,0,0,R.js[i].way,R.js[i].arms⟩=true
   exact decide_eq_true (by refine⟨⟨rfl,rfl,rfl,rfl,rfl⟩,rfl,rfl,?_,?_,?_,?_⟩<;>dsimp only<;>omega)
  rcases List.mem_append.1 h with h|h
  ·obtain⟨c,hc,rfl⟩:=List.mem_map.1 h
   obtain⟨i,hi,rfl⟩:=List.getElem_of_mem hc;have h1:=hv.ck i hi _ (List.getElem?_eq_getElem hi)
   simp only[inR,Bool.and_eq_true,decide_eq_true_eq]at h1;show aR ⟨5,0,0,0,0,0,0,R.cs[i].siz,0,0⟩=true
   exact decide_eq_true (by refine⟨⟨rfl,rfl,rfl,rfl,rfl⟩,rfl,?_,?_,?_,?_⟩<;>dsimp only<;>omega)
  ·obtain⟨k,hk,rfl⟩:=List.mem_map.1 h
   exact(aAU hb hv hk).1
theorem zB (b:BkR):∀(ts:List ThR) (e:Int) (f:Bool),(mkL b e f ts).length≤2*ts.length
 | [],e,f=>by rw[mkL];simp
 |t::r,e,f=>by
  have:=zB b r (max e t.en) false;rw[mkL,List.length_append,List.length_cons,List.length_cons];have:((eA b (max 0 (t.at_-e)) f).toList).length≤1:=by cases eA b (max 0 (t.at_-e)) f<;>simp
  omega
theorem jU {b:BkR} {R:Road}:(makeL b R).length≤2*(R.js.length+R.cs.length+R.ps.length):=by
 have h1:=zB b (sthings b R) 0 true;have h2:=pM b.ga b.le R;have h3:(sthings b R).length=R.js.length+(R.cs.length+(eR b.ga b.le R).length):=by
  rw[jL];unfold things;simp
 unfold makeL;omega
end Go.Proofs.YtjlkeoppppfeiaaGreat
namespace Go.Proofs.YtjlkeoppppfeiaaGreat
open Go.RowKit Go.Shelf Go.Sort Go.Proofs
def aBR:List UInt8:=[82,52,32,108,111,110,103,32,116,105,103,104,116,101,110,115,32,51,32,53,48,32,105,110,116,111,32,106,117,109,112,32,33,32,106,117,110,99,116,105,111,110,32,50,32,111,102,32,51]
def kLst:List NoteR:=[⟨1,1,4,1,1,3,0,0,0,0⟩,⟨2,0,0,0,0,0,50,0,0,0⟩,⟨3,0,0,0,0,0,0,0,0,0⟩,⟨5,0,0,0,0,0,0,2,0,0⟩,⟨6,0,0,0,0,0,0,1,0,0⟩,⟨7,0,0,0,0,0,0,0,2,3⟩]
theorem xI (m:Nat) (h:m<10):Lib.itoa (m:Nat)=[UInt8.ofNat (48+m)]:=by
 rw[Lib.itoa_nonneg,Lib.decDigits,dif_pos h]
theorem aCb (m:Nat) (h:¬m<10) (h2:m / 10<10):Lib.itoa (m:Nat)=[UInt8.ofNat (48+m / 10),UInt8.ofNat (48+m%10)]:=by
 rw[Lib.itoa_nonneg,Lib.decDigits,dif_neg h,Lib.decDigits,dif_pos h2]
 rfl
theorem aD5:Lib.itoa 2=[50]:=xI 2 (by decide)
theorem aD6:Lib.itoa 3=[51]:=xI 3 (by decide)
theorem aD7:Lib.itoa 4=[52]:=xI 4 (by decide)
theorem aCc:Lib.itoa 50=[53,48]:=aCb 50 (by decide) (by decide)
theorem aBS:kLst.all aR=true:=by decide
theorem aBT:aDT kLst=aBR:=by
 simp[aDT,kLst,aBR,xU,aD5,aD6,aD7,aCc,Lib.join,List.intercalate]
theorem aEI:kF aBR=some kLst:=by
 rw[←aBT];exact yE kLst aBS
theorem aD8 {w w':World} {s:List UInt8} {L:List NoteR} {e:Ending} (hs:gY s = .ok L) (h:RR w s e w'):Below w.heap.size w w'∧∃A c,e = .returned (.tuple #[.slice A L.length c,.int .i64 0])∧OW nC 10 118 w.heap.size w' A L.length c L:=by
 obtain⟨hb,⟨k,hk,-⟩|⟨L',A,c,hL,he,hO⟩⟩:=h
 ·rw[hs]at hk;cases hk
 ·rw[hs]at hL
  injection hL with hL
  subst hL;exact⟨hb,A,c,he,hO⟩
theorem aEc:gY aBR = .ok kLst:=by
 unfold gY;rw[if_neg (by decide),aEI]
 rfl
set_option maxRecDepth 100000 in
set_option maxHeartbeats 4000000 in
theorem bO (w:World):Calls Tryz.prog 9 #[] w fun e w'=>e = .returned (.bool true)∧Below w.heap.size w w':=by
 go_enter Tryz.func9,Tryz.ntmps9
 go_wp2_with fail
 refine(aAR aBR _).mono ?_
 rintro e w1 hR;obtain⟨hb1,A1,c1,rfl,hO1⟩:=aD8 aEc hR;have HS1:=Lib.hid (hO1.sl jB);have HB1:=Lib.hid hb1;rw[show kLst.length=6 from rfl]at HS1 ⊢
 obtain⟨b,off,rfl,-,c0,c1',c2,c3,c4,c5,-⟩:=NS.at_ HS1.out (k:=0) (by decide)
 have c5:w1.cell? ⟨b,off+5,none⟩=some (.int .i64 3):=by have:=c5;rw[Nat.zero_mul,Nat.add_zero]at this;exact this
 clear hR hO1 hb1 c0 c1' c2 c3 c4;go_wp2_with fail
 go_ret
 exact⟨rfl,HB1.out⟩
end Go.Proofs.YtjlkeoppppfeiaaGreat
namespace Go.Proofs.YtjlkeoppppfeiaaGreat
open Go.RowKit Go.Shelf Go.Sort Go.Proofs
def fS (a b:List NoteR):Int:=if 300<a.length∨300<b.length then 4 else if a.all aR&&b.all aR then 0 else 2
theorem rF {xs:List NoteR} (h:xs.length≤300):nLE xs=if xs.all aR then 0 else 2:=by
 unfold nLE;rw[if_neg (by omega)]
def RMd (w:World) (a b:List NoteR) (e:Ending) (w':World):Prop:=
 Below w.heap.size w w'∧((fS a b≠0∧e = .returned (.tuple #[.slice none 0 0,.int .i64 (fS a b)])) ∨
  (fS a b=0∧∃A c,e = .returned (.tuple #[.slice A (mnd 0 a b).length c,.int .i64 0])∧OW eC 12 164 w.heap.size w' A (mnd 0 a b).length c (mnd 0 a b)))
set_option maxRecDepth 100000 in
set_option maxHeartbeats 4000000 in
theorem aAV (a b:List NoteR) (aa:Option Addr) (n ac:Nat) (ba:Option Addr) (m bc:Nat) (w:World) (ha:SL nC 10 w w.heap.size aa n a) (hb:SL nC 10 w w.heap.size ba m b) :
  Calls Tryz.prog 13 #[.slice aa n ac,.slice ba m bc] w (RMd w a b):=by
 have HLA:=Lib.hid ha.1;have HLB:=Lib.hid hb.1;have HA:=Lib.hid ha;have HB:=Lib.hid hb;clear ha hb;by_cases h1:300<n
 ·have HE:Hid (fS a b=4):=by show _=_;unfold fS;rw[if_pos (.inl (by rw[←HLA.out];exact h1))]
  have g1:decide ((300:Int)<(n:Int))=true:=by simp;omega
  go_enter Tryz.func13,Tryz.ntmps13
  go_wp2_with fail
  go_ret2
  exact⟨Below.refl _ _,.inl ⟨by rw[HE.out];decide,by rw[HE.out];rfl⟩⟩
 by_cases h2:300<m
 ·have HE:Hid (fS a b=4):=by show _=_;unfold fS;rw[if_pos (.inr (by rw[←HLB.out];exact h2))]
  have g1:decide ((300:Int)<(n:Int))=false:=by simp;omega
  have g2:decide ((300:Int)<(m:Int))=true:=by simp;omega
  go_enter Tryz.func13,Tryz.ntmps13
  go_wp2_with fail
  go_ret2
  exact⟨Below.refl _ _,.inl ⟨by rw[HE.out];decide,by rw[HE.out];rfl⟩⟩
 have HE:Hid (fS a b=if a.all aR&&b.all aR then 0 else 2):=by show _=_;unfold fS;rw[if_neg (by rw[←HLA.out,←HLB.out];omega)]
 have g1:decide ((300:Int)<(n:Int))=false:=by simp;omega
 have g2:decide ((300:Int)<(m:Int))=false:=by simp;omega
 have HNA:Hid (nLE a=if a.all aR then 0 else 2):=rF (by rw[←HLA.out];omega)
 have HNB:Hid (nLE b=if b.all aR then 0 else 2):=rF (by rw[←HLB.out];omega)
 cases hva:a.all aR with
 |false=>
  rw[hva]at HE HNA;have HE2:Hid (fS a b=2):=by show _=_;rw[HE.out];simp
  clear hva;go_enter Tryz.func13,Tryz.ntmps13
  go_wp2_with(go_at_call 60;refine(cO aa n ac a _ HA.out).mono ?_;rintro e w1 ⟨rfl,hb1⟩;rw[HNA.out])
  go_ret2
  exact⟨hb1,.inl ⟨by rw[HE2.out];decide,by rw[HE2.out];rfl⟩⟩
 |true=>
  rw[hva]at HE HNA;clear hva;cases hvb:b.all aR with
  |false=>
   rw[hvb]at HE HNB;have HE2:Hid (fS a b=2):=by show _=_;rw[HE.out];simp
   clear hvb;go_enter Tryz.func13,Tryz.ntmps13
   go_wp2_with(first|(go_at_call 60;refine(cO aa n ac a _ HA.out).mono ?_;rintro e w1 ⟨rfl,hb1⟩;rw[HNA.out];have HB1:=Lib.hid hb1;clear hb1)|(go_at_call 60;refine(cO ba m bc b _ (HB.out.grow HB1.out HB1.out.size)).mono ?_;rintro e w2 ⟨rfl,hb2⟩;rw[HNB.out]))
   go_ret2
   exact⟨HB1.out.trans (hb2.mono HB1.out.size),.inl ⟨by rw[HE2.out];decide,by rw[HE2.out];rfl⟩⟩
  |true=>
   rw[hvb]at HE HNB;clear hvb;go_enter Tryz.func13,Tryz.ntmps13
   go_wp2_with(first|(go_at_call 60;refine(cO aa n ac a _ HA.out).mono ?_;rintro e w1 ⟨rfl,hb1⟩;rw[HNA.out];have HB1:=Lib.hid hb1;clear hb1)|(go_at_call 60;refine(cO ba m bc b _ (HB.out.grow HB1.out HB1.out.size)).mono ?_;rintro e w2 ⟨rfl,hb2⟩;rw[HNB.out];have HB2:=Lib.hid (HB1.out.trans (hb2.mono HB1.out.size));clear hb2)|(go_at_call 61;refine(o9 a b aa n ac ba m bc _ (HA.out.grow HB2.out HB2.out.size) (HB.out.grow HB2.out HB2.out.size) (by omega) (by omega)).mono ?_;rintro e w3 ⟨A,c,rfl,hO,hb3⟩;have HO:=Lib.hid hO;have HB3:=Lib.hid hb3;clear hO hb3))
   go_ret2
   exact⟨HB2.out.trans (HB3.out.mono HB2.out.size),.inr ⟨by rw[HE.out];rfl,A,c,rfl,HO.out.drop0 HB2.out.size⟩⟩
end Go.Proofs.YtjlkeoppppfeiaaGreat
namespace Go.Proofs.YtjlkeoppppfeiaaGreat
open Go.RowKit Go.Shelf Go.Sort Go.Proofs
instance edDec:DecidableEq EdR:=fun a b=>
 if h:a.at_=b.at_∧a.kd=b.kd∧a.nt=b.nt then isTrue (by cases a;cases b;simp_all)
 else isFalse (fun e=>h (by subst e;simp))
theorem ES.at12 {w:World} {B n:Nat} {A:Option Addr} {xs:List EdR} (h:SL eC 12 w B A n xs) {k:Nat} (hk:k<xs.length):∃b off,A=some ⟨b,off,none⟩∧b<B ∧
  w.cell? ⟨b,off+k*12,none⟩=some (.int .i64 xs[k].at_)∧w.cell? ⟨b,off+k*12+1,none⟩=some (.int .i64 xs[k].kd)∧w.cell? ⟨b,off+k*12+2,none⟩=some (.int .i64 xs[k].nt.k)∧w.cell? ⟨b,off+k*12+3,none⟩=some (.int .i64 xs[k].nt.tu)∧w.cell? ⟨b,off+k*12+4,none⟩=some (.int .i64 xs[k].nt.gr)∧w.cell? ⟨b,off+k*12+5,none⟩=some (.int .i64 xs[k].nt.lo)∧w.cell? ⟨b,off+k*12+6,none⟩=some (.int .i64 xs[k].nt.ch)∧w.cell? ⟨b,off+k*12+7,none⟩=some (.int .i64 xs[k].nt.ton)∧w.cell? ⟨b,off+k*12+8,none⟩=some (.int .i64 xs[k].nt.me)∧w.cell? ⟨b,off+k*12+9,none⟩=some (.int .i64 xs[k].nt.si)∧w.cell? ⟨b,off+k*12+10,none⟩=some (.int .i64 xs[k].nt.wa)∧w.cell? ⟨b,off+k*12+11,none⟩=some (.int .i64 xs[k].nt.ar):=by
 obtain⟨b,off,e,hb,hc⟩:=h.at_ hk;exact⟨b,off,e,hb,hc 0 _ rfl,hc 1 _ rfl,hc 2 _ rfl,hc 3 _ rfl,hc 4 _ rfl,hc 5 _ rfl,hc 6 _ rfl,hc 7 _ rfl,hc 8 _ rfl,hc 9 _ rfl,hc 10 _ rfl,hc 11 _ rfl⟩
end Go.Proofs.YtjlkeoppppfeiaaGreat
namespace Go.Proofs.YtjlkeoppppfeiaaGreat
theorem eH (n:Nat):∀(q:Nat) (i:Int) (a b:List NoteR) (p k:Int),a.length+b.length≤q→0≤i→i+(a.length:Nat)=n→(∀y∈b,aR y=true)→p≤i→(p=i→k=1)→iO n p k (mnd i a b)=true
 |_,i,[],[],p,k,_,_,_,_,_,_=>by rw[lJ];rfl
 |0,i,[],y::b,_,_,h,_,_,_,_,_=>by simp at h
 |0,i,x::a,_,_,_,h,_,_,_,_,_=>by simp at h
 |q+1,i,[],y::b,p,k,h,h0,hn,hv,hp,hk=>by
  rw[lK,iO];have hy:=hv y (List.mem_cons_self ..);have ih:=eH n q i [] b i 1 (by simp at h ⊢;omega) h0 hn (fun z hz=>hv z (List.mem_cons_of_mem _ hz)) (Int.le_refl _) (fun _=>rfl)
  have h1:fV n ⟨i,1,y⟩=true:=by simp at hn;simp[fV,hy];omega
  have h2:(decide ((⟨i,1,y⟩ : EdR).at_<p)||decide ((⟨i,1,y⟩ : EdR).at_=p)&&decide (k≠1))=false:=by
   by_cases e:p=i
   ·simp[e,hk e]
   ·simp;omega
  rw[h1,h2,ih]
  rfl
 |q+1,i,x::a,[],p,k,h,h0,hn,hv,hp,hk=>by
  simp only[List.length_cons]at h hn;rw[lL,iO];have ih:=eH n q (i+1) a [] i 2 (by simp at h ⊢;omega) (by omega) (by omega) hv (by omega) (fun e=>by omega)
  have h1:fV n ⟨i,2,⟨0,0,0,0,0,0,0,0,0,0⟩⟩=true:=by simp[fV];omega
  have h2:(decide ((⟨i,2,⟨0,0,0,0,0,0,0,0,0,0⟩⟩ : EdR).at_<p)||decide ((⟨i,2,⟨0,0,0,0,0,0,0,0,0,0⟩⟩ : EdR).at_=p)&&decide (k≠1))=false:=by
   by_cases e:p=i
   ·simp[e,hk e]
   ·simp;omega
  rw[h1,h2,ih]
  rfl
 |q+1,i,x::a,y::b,p,k,h,h0,hn,hv,hp,hk=>by
  simp only[List.length_cons]at h hn;have hy:=hv y (List.mem_cons_self ..);have hvb:∀z∈b,aR z=true:=fun z hz=>hv z (List.mem_cons_of_mem _ hz)
  have h2:∀(d:Int) (z:NoteR),(decide ((⟨i,d,z⟩ : EdR).at_<p)||decide ((⟨i,d,z⟩ : EdR).at_=p)&&decide (k≠1))=false:=fun d z=>by
   by_cases e:p=i
   ·simp[e,hk e]
   ·simp;omega
  rw[iX]
  split
  ·exact eH n q (i+1) a b p k (by omega) (by omega) (by omega) hvb (by omega) (fun e=>by omega)
  ·split
   ·rw[iO,h2,eH n q (i+1) a b i 3 (by omega) (by omega) (by omega) hvb (by omega) (fun e=>by omega)]
    have h1:fV n ⟨i,3,y⟩=true:=by simp[fV,hy];omega
    rw[h1]
    rfl
   ·split
    ·rw[iO,h2,eH n q (i+1) a (y::b) i 2 (by simp;omega) (by omega) (by omega) hv (by omega) (fun e=>by omega)]
     have h1:fV n ⟨i,2,⟨0,0,0,0,0,0,0,0,0,0⟩⟩=true:=by simp[fV];omega
     rw[h1]
     rfl
    ·rw[iO,h2,eH n q i (x::a) b i 1 (by simp;omega) (by omega) (by simp;omega) hvb (by omega) (fun e=>rfl)]
     have h1:fV n ⟨i,1,y⟩=true:=by simp[fV,hy];omega
     rw[h1]
     rfl
theorem aCd (a b:List NoteR) (hv:∀y∈b,aR y=true):edB a.length (mnd 0 a b)=true:=
 eH a.length _ 0 a b 0 1 (Nat.le_refl _) (Int.le_refl _) (by omega) hv (Int.le_refl _) (fun _=>rfl)
end Go.Proofs.YtjlkeoppppfeiaaGreat
