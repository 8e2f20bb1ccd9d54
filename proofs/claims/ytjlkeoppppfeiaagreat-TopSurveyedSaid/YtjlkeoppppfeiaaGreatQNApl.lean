/- Lemmas. -/
import Derived.Test.YtjlkeoppppfeiaaGreatQNEds
namespace Go.Proofs.YtjlkeoppppfeiaaGreat
open Go.RowKit Go.Shelf Go.Sort Go.Proofs
def apO (a:List NoteR) (k:Nat) (l:List EdR):List NoteR:=if k≤a.length then apE (k:Nat) (a.drop k) l else []
def apI (a:List NoteR) (k:Nat) (l:List EdR) (kp:Bool):List NoteR:=(eAt (k:Nat) l).1++((if kp&&(eAt (k:Nat) l).2.1 then (a[k]?).toList else [])++apO a (k+1) (eAt (k:Nat) l).2.2)
theorem aA0 (a:List NoteR) {k:Nat} (l:List EdR) (hk:k≤a.length):apO a k l=apI a k l (decide (k<a.length)):=by
 unfold apO apI;rw[if_pos hk];by_cases h:k<a.length
 ·rw[List.drop_eq_getElem_cons h,apE,decide_eq_true h,List.getElem?_eq_getElem h]
  unfold apO;rw[if_pos (show k+1≤a.length by omega),Bool.true_and]
  rfl
 ·rw[List.drop_of_length_le (by omega),apE,decide_eq_false h,Bool.false_and]
  unfold apO;rw[if_neg (show ¬k+1≤a.length by omega)]
  simp
theorem aCr (a:List NoteR) (k:Nat) (x:NoteR) (l:List EdR) (kp:Bool):apI a k (⟨(k:Nat),1,x⟩::l) kp=x::apI a k l kp:=by
 unfold apI;rw[eAt,if_pos rfl];simp
theorem aCs (a:List NoteR) (k:Nat) (x:NoteR) (l:List EdR) (kp:Bool):apI a k (⟨(k:Nat),2,x⟩::l) kp=apI a k l false:=by
 unfold apI;rw[eAt,if_pos rfl];simp
theorem aCt (a:List NoteR) (k:Nat) (d:Int) (x:NoteR) (l:List EdR) (kp:Bool) (h1:d≠1) (h2:d≠2):apI a k (⟨(k:Nat),d,x⟩::l) kp=x::apI a k l false:=by
 unfold apI;rw[eAt,if_pos rfl];simp[h1,h2]
theorem u9 (a:List NoteR) (k:Nat) (l:List EdR) (kp:Bool) (h:∀e r,l=e::r→e.at_≠(k:Nat)):apI a k l kp=(if kp then (a[k]?).toList else [])++apO a (k+1) l:=by
 unfold apI;cases l with
 |nil=>rw[eAt];simp
 |cons e r=>rw[eAt,if_neg (h e r rfl)];simp
def tailK (sz:Nat) (A:Option Addr) (c:Nat):Option Addr:=if c=1 then A else A.map fun x=>x.add sz
theorem aDm (W:World):(sizeOf 164).run Tryz.prog W = .ok 12 W:=by kernel_rfl
theorem aA1 (W:World) (A:Option Addr) (n c:Nat) (hn:1≤n):(Instr.slice 45 (.slice A n c) (some (.int .i64 1)) none none).run Tryz.prog W = .ok (.slice (tailK 12 A c) (n-1) (c-1)) W:=by
 have hz:=aDm W;have hn1:(1:Int)≤(n:Int):=by omega
 simp[Instr.slice,Instr.sliceBounds,Instr.sliceBound,asIntOf,run_underlying Tryz.underlying45,hn1,hz,Result.andThen,tailK]
theorem SL.tailK {α:Type} {f:α→List Value} {sz:Nat} {w:World} {B n c:Nat} {A:Option Addr} {x:α} {r:List α} (h:SL f sz w B A n (x::r)) (hc:n≤c):SL f sz w B (tailK sz A c) (n-1) r:=by
 refine⟨by have:=h.1;simp at this;omega,fun h0=>?_⟩
 obtain⟨b,off,rfl,hb,hx⟩:=h.2 (by omega)
 refine⟨b,off+sz,?_,hb,fun i y hi j v hv=>?_⟩
 ·unfold Go.Proofs.YtjlkeoppppfeiaaGreat.tailK
  rw[if_neg (by omega)]
  simp[Addr.add]
 ·have:=hx (i+1) y (by simpa using hi) j v hv
  rw[Nat.succ_mul]at this;rw[show off+sz+i*sz+j=off+(i*sz+sz)+j by omega]
  exact this
def slN:Value→Nat
 | .slice _ n _=>n
 |_=>0
def eU (a:List NoteR) (xs:List EdR):Int:=if 2000<a.length then 4 else if (a.all aR&&edB a.length xs)=false then 2 else if 2000<(apE 0 a xs).length then 4 else 0
def RAp (w:World) (a:List NoteR) (xs:List EdR) (e:Ending) (w':World):Prop:=
 Below w.heap.size w w'∧((eU a xs≠0∧e = .returned (.tuple #[.slice none 0 0,.int .i64 (eU a xs)])) ∨
  (eU a xs=0∧∃A c,e = .returned (.tuple #[.slice A (apE 0 a xs).length c,.int .i64 0])∧OW nC 10 118 w.heap.size w' A (apE 0 a xs).length c (apE 0 a xs)))
set_option maxRecDepth 100000 in
set_option maxHeartbeats 8000000 in
theorem xP (a:List NoteR) (xs:List EdR) (aa:Option Addr) (n ac:Nat) (A:Option Addr) (m c:Nat) (w:World) (ha:SL nC 10 w w.heap.size aa n a) (h:SL eC 12 w w.heap.size A m xs) (hmc:m≤c) (hm6:m≤100000) :
  Calls Tryz.prog 14 #[.slice aa n ac,.slice A m c] w (RAp w a xs):=by
 have HLA:=Lib.hid ha.1;have HA:=Lib.hid ha;have HS:=Lib.hid h;clear ha h;by_cases hn:2000<n
 ·have HE:Hid (eU a xs=4):=by show _=_;unfold eU;rw[if_pos (by rw[←HLA.out];exact hn)]
  have g1:decide ((2000:Int)<(n:Int))=true:=by simp;omega
  go_enter Tryz.func14,Tryz.ntmps14
  go_wp2_with fail
  go_ret2
  exact⟨Below.refl _ _,.inl ⟨by rw[HE.out];decide,by rw[HE.out];rfl⟩⟩
 have g1:decide ((2000:Int)<(n:Int))=false:=by simp;omega
 have HN:Hid (nLE a=if a.all aR then 0 else 2):=by show _=_;unfold nLE;rw[if_neg (by rw[←HLA.out];omega)]
 have HNL:Hid (¬2000<a.length):=by show ¬_;rw[←HLA.out];exact hn
 cases hva:a.all aR with
 |false=>
  rw[hva]at HN;have HE:Hid (eU a xs=2):=by show _=_;unfold eU;rw[if_neg HNL.out,hva];rfl
  clear hva;go_enter Tryz.func14,Tryz.ntmps14
  go_wp2_with fail
  refine(cO aa n ac a _ HA.out).mono ?_
  rintro e w1 ⟨rfl,hb1⟩;rw[HN.out];go_wp2_with fail
  go_ret2
  exact⟨hb1,.inl ⟨by rw[HE.out];decide,by rw[HE.out];rfl⟩⟩
 |true=>
 rw[hva]at HN;have hedb:cK n 0 false xs=edB a.length xs:=by rw[aD9,HLA.out]
 have HEB:=Lib.hid hedb;clear hedb;cases hvb:edB a.length xs with
 |false=>
  have HE:Hid (eU a xs=2):=by show _=_;unfold eU;rw[if_neg HNL.out,hva,hvb];rfl
  have HVB:=Lib.hid hvb;clear hva hvb;go_enter Tryz.func14,Tryz.ntmps14
  go_wp2_with fail
  refine(cO aa n ac a _ HA.out).mono ?_
  rintro e w1 ⟨rfl,hb1⟩;rw[HN.out];have HB1:=Lib.hid hb1;clear hb1;go_wp2_with fail
  refine(pF n A m c xs _ (HS.out.grow HB1.out HB1.out.size) (by omega)).mono ?_
  rintro e w2 ⟨rfl,hb2⟩;rw[HEB.out,HVB.out];go_wp2_with fail
  go_ret2
  exact⟨HB1.out.trans (hb2.mono HB1.out.size),.inl ⟨by rw[HE.out];decide,by rw[HE.out];rfl⟩⟩
 |true=>
 have HE:Hid (eU a xs=if 2000<(apE 0 a xs).length then 4 else 0):=by show _=_;unfold eU;rw[if_neg HNL.out,hva,hvb];rfl
 have HVB:=Lib.hid hvb;clear hva hvb;have HMC:=Lib.hid hmc;clear hmc;go_enter Tryz.func14,Tryz.ntmps14
 go_wp2_with fail
 refine(cO aa n ac a _ HA.out).mono ?_
 rintro e w1 ⟨rfl,hb1⟩;rw[HN.out];have HB1:=Lib.hid hb1;clear hb1;go_wp2_with fail
 refine(pF n A m c xs _ (HS.out.grow HB1.out HB1.out.size) (by omega)).mono ?_
 rintro e w2 ⟨rfl,hb2⟩;rw[HEB.out,HVB.out];have HB2:=Lib.hid (HB1.out.trans (hb2.mono HB1.out.size));clear hb2;have hwn:IntKind.i64.wrap ((n:Int)+1)=(n:Int)+1:=IntWalk.i64_in _ (by omega)
 go_wp2_with fail
 go_loopw [1,6,7,8,25] (fun lv ov _ _ rv wr=>∃(k N C:Nat) (A':Option Addr) (ys:List EdR) (acc:List NoteR) (Ao:Option Addr) (co:Nat),k≤n+1∧lv = .slice A' N C∧ov = .slice Ao acc.length co∧rv = .int .i64 (k:Nat)∧SL eC 12 w w.heap.size A' N ys∧N≤C∧N≤m∧acc.length+N≤k+m∧apE 0 a xs=acc++apO a k ys∧OW nC 10 118 w.heap.size wr Ao acc.length co acc∧Below w.heap.size w wr) (fun _ _ _ _ rv _=>n+1-(intOf rv).toNat)
 case atStart=>exact⟨0,m,c,A,xs,[],none,0,Nat.zero_le _,rfl,rfl,rfl,HS.out,HMC.out,Nat.le_refl _,by simp,by unfold apO;rw[if_pos (Nat.zero_le _)];rfl,OW.nil_,HB2.out⟩
 case round=>
  obtain⟨k,N,C,A1,ys,acc,Ao,co,hk,rfl,rfl,rfl,hS1,hNC,hNm,hac,hap,hO,hbr⟩:=hrel;have hcap:=hO.cap;by_cases hkn:k≤n
  case neg=>
   obtain rfl:k=n+1:=by omega
   have hfin:apE 0 a xs=acc:=by
    rw[hap];unfold apO;rw[if_neg (by rw[←HLA.out];omega),List.append_nil]
   have HF:=Lib.hid hfin;have g3:decide (((n+1:Nat):Int)<(n:Int)+1)=false:=by simp
   clear hap hS1 hfin;by_cases hlen:2000<acc.length
   ·have g2:decide ((2000:Int)<(acc.length:Int))=true:=by simp;omega
    have HE4:Hid (eU a xs=4):=by show _=_;rw[HE.out,HF.out,if_pos hlen]
    go_wp2_with fail
    go_ret2
    exact⟨hbr,.inl ⟨by rw[HE4.out];decide,by rw[HE4.out];rfl⟩⟩
   ·have g2:decide ((2000:Int)<(acc.length:Int))=false:=by simp;omega
    have HE0:Hid (eU a xs=0):=by show _=_;rw[HE.out,HF.out,if_neg hlen]
    go_wp2_with fail
    go_ret2
    exact⟨hbr,.inr ⟨HE0.out,Ao,co,by rw[HF.out];rfl,by rw[HF.out];exact hO⟩⟩
  have hkl:k≤a.length:=by rw[←HLA.out];exact hkn
  rw[aA0 a ys hkl]at hap;have g3:decide ((k:Int)<(n:Int)+1)=true:=by simp;omega
  have hkp:decide ((k:Int)<(n:Int))=decide (k<a.length):=by rw[←HLA.out];exact decide_eq_decide.2 (by omega)
  obtain⟨kp0,hkp0⟩ : ∃b,b=decide (k<a.length):=⟨_,rfl⟩
  rw[←hkp0]at hap hkp;have hkpN:decide (k<n)=kp0:=by rw[hkp0,←HLA.out]
  have HKP0:Hid (kp0=true→k<n):=by intro q;rw[q]at hkpN;simpa using hkpN
  have HAC:=Lib.hid hac;have HAP:=Lib.hid hap;have HS1:=Lib.hid hS1;have HO:=Lib.hid hO;have HBR:=Lib.hid hbr;have HNC:=Lib.hid hNC;have HNM:=Lib.hid hNm;clear hac hap hS1 hO hbr hcap hkp0 hNC hNm hk;go_wp2_with fail
  clear hkp hkpN;go_loopw [1,6,8] (fun lv ov kv wq=>∃(N C:Nat) (A':Option Addr) (ys:List EdR) (acc:List NoteR) (Ao:Option Addr) (co:Nat) (kp:Bool),lv = .slice A' N C∧ov = .slice Ao acc.length co∧kv = .bool kp∧(kp=true→k<n)∧SL eC 12 w w.heap.size A' N ys∧N≤C∧N≤m∧acc.length+N≤k+m∧apE 0 a xs=acc++apI a k ys kp∧OW nC 10 118 w.heap.size wq Ao acc.length co acc∧Below w.heap.size w wq) (fun lv _ _ _=>slN lv)
  case atStart=>exact⟨N,C,A1,ys,acc,Ao,co,kp0,rfl,rfl,rfl,HKP0.out,HS1.out,HNC.out,HNM.out,HAC.out,HAP.out,HO.out,HBR.out⟩
  case round=>
   clear HAC HAP HS1 HO HBR HNC HNM HKP0;obtain⟨N,C,A1,ys,acc,Ao,co,kp,rfl,rfl,rfl,hkp,hS1,hNC,hNm,hac,hap,hO,hbr⟩:=hrel;have hcap:=hO.cap;have hNl:=hS1.1;have HO:=Lib.hid hO;have HBR:=Lib.hid hbr;have HS1:=Lib.hid hS1;clear hO hbr hS1;cases ys with
   |nil=>
    obtain rfl:N=0:=by simpa using hNl
    clear hNl;rw[u9 a k [] kp (fun e r q=>by cases q)]at hap
    have HAP1:=Lib.hid hap;clear hap;cases kp with
    |false=>
     have HAP2:Hid (apE 0 a xs=acc++apO a (k+1) []):=HAP1.out;clear HAP1;go_wp2_with fail
     go_roundw
     case rel=>exact⟨k+1,0,C,A1,[],acc,Ao,co,by omega,rfl,rfl,by go_num,HS1.out,by omega,by omega,by omega,HAP2.out,HO.out,HBR.out⟩
     case measure=>simp[intOf];omega
    |true=>
     have hkn2:=hkp rfl;have hka:k<a.length:=by rw[←HLA.out];exact hkn2
     have HAP2:Hid (apE 0 a xs=(acc++[a[k]])++apO a (k+1) []):=by show _=_;rw[HAP1.out,List.getElem?_eq_getElem hka,List.append_assoc];rfl
     clear HAP1;obtain⟨xb,xo,hxa,hxB,d0,d1,d2,d3,d4,d5,d6,d7,d8,d9⟩:=NS.at_ (HA.out.below HBR.out) hka;have gki:(k:Int)<(n:Int):=by omega
     generalize a[k]'hka=y at *
     clear hka hkp;subst hxa;have hws:=HBR.out.size;go_wp2_with(at_builtin;refine aT rfl _ _ 42 rfl w.heap.size 118 _ 10 80 Tryz.underlying42 lP rfl (by decide) nC Ao acc.length co _ rfl (HO.out.alloc _) y #[.int .i64 y.k,.int .i64 y.tu,.int .i64 y.gr,.int .i64 y.lo,.int .i64 y.ch,.int .i64 y.ton,.int .i64 y.me,.int .i64 y.si,.int .i64 y.wa,.int .i64 y.ar] rfl rfl 118 wr.heap.size rfl (BK.new wr _ _) (by simp[nC,Value.oneCell']) (by omega) (by omega) (by simp;omega) ?_;intro g' c9 w8 hap;have HAP:=Lib.hid hap;clear hap)
     have hbN:=(HBR.out.alloc (by have:=HBR.out.size;omega) (.cells #[.int .i64 y.k,.int .i64 y.tu,.int .i64 y.gr,.int .i64 y.lo,.int .i64 y.ch,.int .i64 y.ton,.int .i64 y.me,.int .i64 y.si,.int .i64 y.wa,.int .i64 y.ar] 118)).trans HAP.out.bel
     go_roundw
     case rel=>exact⟨k+1,0,C,A1,[],acc++[y],some ⟨g',0,none⟩,c9,by omega,rfl,by simp,by go_num,HS1.out,by omega,by omega,by rw[List.length_append,List.length_singleton];omega,HAP2.out,by rw[List.length_append];exact HAP.out.own,hbN⟩
     case measure=>simp[intOf];omega
   |cons e r=>
    have hN1:1≤N:=by rw[hNl];simp
    clear hNl;have gN:decide ((0:Int)<(N:Int))=true:=by simp;omega
    have gNN:decide (0<N)=true:=by simp;omega
    have hN0:(0:Int)<(N:Int):=by omega
    obtain⟨b,off,hA1,hbB,c0,c1,c2,c3,c4,c5,c6,c7,c8,c9,c10,c11⟩:=ES.at12 (HS1.out.below HBR.out) (k:=0) (by simp)
    simp only[List.getElem_cons_zero,Nat.zero_mul,Nat.add_zero]at c0 c1 c2 c3 c4 c5 c6 c7 c8 c9 c10 c11;subst hA1;obtain⟨ea,ek,x⟩:=e
    dsimp only at c0 c1 c2 c3 c4 c5 c6 c7 c8 c9 c10 c11
    by_cases hek:ea=(k:Nat)
    case neg=>
     have ge:(ea == (k:Int))=false:=by simpa using hek
     rw[u9 a k _ kp (fun e' r' q=>by injection q with q1 q2;subst q1;exact hek)]at hap
     have HAP1:=Lib.hid hap;clear hap;cases kp with
     |false=>
      have HAP2:Hid (apE 0 a xs=acc++apO a (k+1) (⟨ea,ek,x⟩::r)):=HAP1.out;clear HAP1;go_wp2_with fail
      go_roundw
      case rel=>exact⟨k+1,N,C,(some ⟨b,off,none⟩),(⟨ea,ek,x⟩::r),acc,Ao,co,by omega,rfl,rfl,by go_num,HS1.out,by omega,by omega,by omega,HAP2.out,HO.out,HBR.out⟩
      case measure=>simp[intOf];omega
     |true=>
      have hkn2:=hkp rfl;have hka:k<a.length:=by rw[←HLA.out];exact hkn2
      have HAP2:Hid (apE 0 a xs=(acc++[a[k]])++apO a (k+1) (⟨ea,ek,x⟩::r)):=by show _=_;rw[HAP1.out,List.getElem?_eq_getElem hka,List.append_assoc];rfl
      clear HAP1;obtain⟨xb,xo,hxa,hxB,d0,d1,d2,d3,d4,d5,d6,d7,d8,d9⟩:=NS.at_ (HA.out.below HBR.out) hka;have gki:(k:Int)<(n:Int):=by omega
      generalize a[k]'hka=y at *
      clear hka hkp;subst hxa;have hws:=HBR.out.size;go_wp2_with(at_builtin;refine aT rfl _ _ 42 rfl w.heap.size 118 _ 10 80 Tryz.underlying42 lP rfl (by decide) nC Ao acc.length co _ rfl (HO.out.alloc _) y #[.int .i64 y.k,.int .i64 y.tu,.int .i64 y.gr,.int .i64 y.lo,.int .i64 y.ch,.int .i64 y.ton,.int .i64 y.me,.int .i64 y.si,.int .i64 y.wa,.int .i64 y.ar] rfl rfl 118 wr.heap.size rfl (BK.new wr _ _) (by simp[nC,Value.oneCell']) (by omega) (by omega) (by simp;omega) ?_;intro g' c9 w8 hap;have HAP:=Lib.hid hap;clear hap)
      have hbN:=(HBR.out.alloc (by have:=HBR.out.size;omega) (.cells #[.int .i64 y.k,.int .i64 y.tu,.int .i64 y.gr,.int .i64 y.lo,.int .i64 y.ch,.int .i64 y.ton,.int .i64 y.me,.int .i64 y.si,.int .i64 y.wa,.int .i64 y.ar] 118)).trans HAP.out.bel
      go_roundw
      case rel=>exact⟨k+1,N,C,(some ⟨b,off,none⟩),(⟨ea,ek,x⟩::r),acc++[y],some ⟨g',0,none⟩,c9,by omega,rfl,by simp,by go_num,HS1.out,by omega,by omega,by rw[List.length_append,List.length_singleton];omega,HAP2.out,by rw[List.length_append];exact HAP.out.own,hbN⟩
      case measure=>simp[intOf];omega
    subst hek;have ge:((k:Int) == (k:Int))=true:=by simp
    have hST:=Lib.hid (HS1.out.tailK (c:=C) hNC);have hsl:=fun W:World=>aA1 W (some ⟨b,off,none⟩) N C (by omega)
    obtain⟨A2,hA2⟩ : ∃A2,A2=tailK 12 (some (⟨b,off,none⟩ : Addr)) C:=⟨_,rfl⟩
    rw[←hA2]at hST hsl;clear hA2 HS1;by_cases k1:ek=1
    ·subst k1
     rw[aCr]at hap;have HAP0:Hid (apE 0 a xs=(acc++[x])++apI a k r kp):=by show _=_;rw[hap,List.append_assoc];rfl
     clear hap;have hws:=HBR.out.size;go_wp2_with(at_builtin;refine aT rfl _ _ 42 rfl w.heap.size 118 _ 10 80 Tryz.underlying42 lP rfl (by decide) nC Ao acc.length co _ rfl (HO.out.alloc _) x #[.int .i64 x.k,.int .i64 x.tu,.int .i64 x.gr,.int .i64 x.lo,.int .i64 x.ch,.int .i64 x.ton,.int .i64 x.me,.int .i64 x.si,.int .i64 x.wa,.int .i64 x.ar] rfl rfl 118 wr.heap.size rfl (BK.new wr _ _) (by simp[nC,Value.oneCell']) (by omega) (by omega) (by simp;omega) ?_;intro g' c9 w8 hap;have HAP:=Lib.hid hap;clear hap)
     have hbN:=(HBR.out.alloc (by have:=HBR.out.size;omega) (.cells #[.int .i64 x.k,.int .i64 x.tu,.int .i64 x.gr,.int .i64 x.lo,.int .i64 x.ch,.int .i64 x.ton,.int .i64 x.me,.int .i64 x.si,.int .i64 x.wa,.int .i64 x.ar] 118)).trans HAP.out.bel
     go_roundw
     case rel=>exact⟨N-1,C-1,A2,r,acc++[x],some ⟨g',0,none⟩,c9,kp,rfl,by simp,rfl,hkp,hST.out,by omega,by omega,by rw[List.length_append,List.length_singleton];omega,HAP0.out,by rw[List.length_append];exact HAP.out.own,hbN⟩
     case measure=>simp[slN];omega
    have g1:(ek != 1)=true:=by simpa using k1
    by_cases k2:ek=2
    ·subst k2
     rw[aCs]at hap;have HAP0:=Lib.hid hap;clear hap;go_wp2_with fail
     go_roundw
     case rel=>exact⟨N-1,C-1,A2,r,acc,Ao,co,false,rfl,rfl,rfl,(fun q=>by cases q),hST.out,by omega,by omega,by omega,HAP0.out,HO.out,HBR.out⟩
     case measure=>simp[slN];omega
    have g2:(ek != 2)=true:=by simpa using k2
    rw[aCt a k ek x r kp k1 k2]at hap;have HAP0:Hid (apE 0 a xs=(acc++[x])++apI a k r false):=by show _=_;rw[hap,List.append_assoc];rfl
    clear hap;have hws:=HBR.out.size;go_wp2_with(at_builtin;refine aT rfl _ _ 42 rfl w.heap.size 118 _ 10 80 Tryz.underlying42 lP rfl (by decide) nC Ao acc.length co _ rfl (HO.out.alloc _) x #[.int .i64 x.k,.int .i64 x.tu,.int .i64 x.gr,.int .i64 x.lo,.int .i64 x.ch,.int .i64 x.ton,.int .i64 x.me,.int .i64 x.si,.int .i64 x.wa,.int .i64 x.ar] rfl rfl 118 wr.heap.size rfl (BK.new wr _ _) (by simp[nC,Value.oneCell']) (by omega) (by omega) (by simp;omega) ?_;intro g' c9 w8 hap;have HAP:=Lib.hid hap;clear hap)
    have hbN:=(HBR.out.alloc (by have:=HBR.out.size;omega) (.cells #[.int .i64 x.k,.int .i64 x.tu,.int .i64 x.gr,.int .i64 x.lo,.int .i64 x.ch,.int .i64 x.ton,.int .i64 x.me,.int .i64 x.si,.int .i64 x.wa,.int .i64 x.ar] 118)).trans HAP.out.bel
    go_roundw
    case rel=>exact⟨N-1,C-1,A2,r,acc++[x],some ⟨g',0,none⟩,c9,false,rfl,by simp,rfl,(fun q=>by cases q),hST.out,by omega,by omega,by rw[List.length_append,List.length_singleton];omega,HAP0.out,by rw[List.length_append];exact HAP.out.own,hbN⟩
    case measure=>simp[slN];omega
theorem aDn {w w':World} {a:List NoteR} {xs:List EdR} {e:Ending} (hE:eU a xs=0) (h:RAp w a xs e w'):Below w.heap.size w w'∧∃A c,e = .returned (.tuple #[.slice A (apE 0 a xs).length c,.int .i64 0])∧OW nC 10 118 w.heap.size w' A (apE 0 a xs).length c (apE 0 a xs):=by
 obtain⟨hb,⟨h0,-⟩|⟨-,h⟩⟩:=h
 ·exact absurd hE h0
 ·exact⟨hb,h⟩
end Go.Proofs.YtjlkeoppppfeiaaGreat
