/- Lemmas. -/
import Derived.Test.YtjlkeoppppfeiaaGreatQMend
namespace Go.Proofs.YtjlkeoppppfeiaaGreat
open Go.RowKit Go.Shelf Go.Sort Go.Proofs
theorem aY (n:Nat) (L:Int) (u:Bool) (e:EdR) (l:List EdR):cK n L u (e::l) =
 (decide (L≤e.at_∧e.at_≤n)&&(!(u&&decide (e.at_≤L))&&(if e.kd=1 then aR e.nt&&cK n e.at_ false l
  else if e.kd=2 then decide (e.at_≠n)&&decide (e.nt=⟨0,0,0,0,0,0,0,0,0,0⟩)&&cK n e.at_ true l
  else if e.kd=3 then decide (e.at_≠n)&&aR e.nt&&cK n e.at_ true l
  else false))):=by rw[cK]
theorem aEL (x y:NoteR) (w:World):(Go.binOp .neq 118 (.agg #[.int .i64 x.k,.int .i64 x.tu,.int .i64 x.gr,.int .i64 x.lo,.int .i64 x.ch,.int .i64 x.ton,.int .i64 x.me,.int .i64 x.si,.int .i64 x.wa,.int .i64 x.ar]) (.agg #[.int .i64 y.k,.int .i64 y.tu,.int .i64 y.gr,.int .i64 y.lo,.int .i64 y.ch,.int .i64 y.ton,.int .i64 y.me,.int .i64 y.si,.int .i64 y.wa,.int .i64 y.ar])).run Tryz.prog w = .ok (.bool (!decide (x=y))) w:=by
 by_cases e:x=y
 ·subst e
  have h1:=eqN x x w;rw[run_eql_struct]at h1;rw[run_neq_struct]
  revert h1
  cases (Op.equalIn 10000 118 (.agg #[.int .i64 x.k,.int .i64 x.tu,.int .i64 x.gr,.int .i64 x.lo,.int .i64 x.ch,.int .i64 x.ton,.int .i64 x.me,.int .i64 x.si,.int .i64 x.wa,.int .i64 x.ar]) (.agg #[.int .i64 x.k,.int .i64 x.tu,.int .i64 x.gr,.int .i64 x.lo,.int .i64 x.ch,.int .i64 x.ton,.int .i64 x.me,.int .i64 x.si,.int .i64 x.wa,.int .i64 x.ar])).run Tryz.prog w with
  |ok b w'=>
   intro h1;simp only[Result.andThen,Result.ok.injEq,Value.bool.injEq]at h1 ⊢;exact⟨by rw[h1.1],h1.2⟩
  |_=>intro h1;simp[Result.andThen]at h1
 ·rw[neN x y w e,decide_eq_false e]
  rfl
set_option maxRecDepth 100000 in
set_option maxHeartbeats 8000000 in
theorem pF (n:Nat) (A:Option Addr) (m c:Nat) (xs:List EdR) (w:World) (h:SL eC 12 w w.heap.size A m xs) (hm6:m≤1000000) :
  Calls Tryz.prog 62 #[.int .i64 (n:Nat),.slice A m c] w fun e w'=>e = .returned (.bool (cK n 0 false xs))∧Below w.heap.size w w':=by
 have HL:=Lib.hid h.1;have HS:=Lib.hid h;clear h;go_enter Tryz.func62,Tryz.ntmps62
 go_wp2_with fail
 go_loopw [5,6,8,11,29,38] (fun lv uv _ iv _ _ wr=>∃(k:Nat) (L:Int) (u:Bool),k≤m∧lv = .int .i64 L∧uv = .bool u∧iv = .int .i64 (k:Nat)∧cK n 0 false xs=cK n L u (xs.drop k)∧Below w.heap.size w wr) (fun _ _ _ iv _ _ _=>m-(intOf iv).toNat)
 case atStart=>exact⟨0,0,false,Nat.zero_le _,rfl,rfl,rfl,rfl,Below.refl _ _⟩
 case round=>
  obtain⟨k,L,u,hk,rfl,rfl,rfl,hed,hbr⟩:=hrel;by_cases hlt:k<m
  case neg=>
   obtain rfl:k=m:=by omega
   have HR:Hid (cK n 0 false xs=true):=by
    show _=_
    rw[hed,List.drop_of_length_le (by rw[←HL.out];omega)]
    rfl
   clear hed;go_wp2_with fail
   go_ret
   exact⟨by rw[HR.out];rfl,hbr⟩
  have hkl:k<xs.length:=by rw[←HL.out];exact hlt
  obtain⟨b,off,hA,hbB,c0,c1,c2,c3,c4,c5,c6,c7,c8,c9,c10,c11⟩:=ES.at12 (HS.out.below hbr) hkl;rw[List.drop_eq_getElem_cons hkl]at hed
  generalize xs[k]'hkl=x at *
  subst hA;obtain⟨ea,ek,⟨k0,tu0,gr0,lo0,ch0,ton0,me0,si0,wa0,ar0⟩⟩:=x
  dsimp only at c0 c1 c2 c3 c4 c5 c6 c7 c8 c9 c10 c11
  have HED:=Lib.hid hed;have HB1:Hid (Below w.heap.size w (wr.alloc (.cells #[.int .i64 ea,.int .i64 ek,.int .i64 k0,.int .i64 tu0,.int .i64 gr0,.int .i64 lo0,.int .i64 ch0,.int .i64 ton0,.int .i64 me0,.int .i64 si0,.int .i64 wa0,.int .i64 ar0] 164))):=hbr.alloc hbr.size _;have hgk:(k:Int)<(m:Int):=by omega
  clear hed hkl hbr;by_cases h1:L≤ea∧ea≤n
  case neg=>
   have HI:Hid (inR ea L n=false):=by show _=_;rw[←Bool.not_eq_true];simp only[inR,Bool.and_eq_true,decide_eq_true_eq];exact h1
   have HVV:Hid True:=trivial;have HR:Hid (cK n 0 false xs=false):=by show _=_;rw[HED.out,aY,decide_eq_false h1];rfl
   clear HED;go_wp2_with(go_at_call 131;refine(aU _ _ _ _).mono ?_;rintro e w' ⟨rfl,rfl⟩;rw[HI.out])
   go_ret
   exact⟨by rw[HR.out];rfl,HB1.out⟩
  have HI:Hid (inR ea L n=true):=by show _=_;simp only[inR,Bool.and_eq_true,decide_eq_true_eq];exact h1
  by_cases h2:L<ea
  ·have gl:decide (L<ea)=true:=decide_eq_true h2
   have h3:¬ea≤L:=by omega
   by_cases k1:ek=1
   ·subst k1
    cases hv:aR ⟨k0,tu0,gr0,lo0,ch0,ton0,me0,si0,wa0,ar0⟩ with
    |false=>
     have HVV:=Lib.hid hv;have HR:Hid (cK n 0 false xs=false):=by show _=_;rw[HED.out,aY];simp[h1,h3,hv]
     clear HED;go_wp2_with(first|(go_at_call 131;refine(aU _ _ _ _).mono ?_;rintro e w' ⟨rfl,rfl⟩;rw[HI.out])|(go_at_call 141;refine(nvalid_any k0 tu0 gr0 lo0 ch0 ton0 me0 si0 wa0 ar0 _).mono ?_;rintro e w2 ⟨rfl,hb2⟩;rw[HVV.out]))
     go_ret
     exact⟨by rw[HR.out];rfl,HB1.out.trans (hb2.mono HB1.out.size)⟩
    |true=>
     have HVV:=Lib.hid hv;have HR:Hid (cK n 0 false xs=cK n ea false (xs.drop (k+1))):=by show _=_;rw[HED.out,aY];simp[h1,h3,hv]
     clear HED;go_wp2_with(first|(go_at_call 131;refine(aU _ _ _ _).mono ?_;rintro e w' ⟨rfl,rfl⟩;rw[HI.out])|(go_at_call 141;refine(nvalid_any k0 tu0 gr0 lo0 ch0 ton0 me0 si0 wa0 ar0 _).mono ?_;rintro e w2 ⟨rfl,hb2⟩;rw[HVV.out]))
     go_roundw
     case rel=>exact⟨k+1,ea,false,by omega,rfl,rfl,by go_num,HR.out,HB1.out.trans (hb2.mono HB1.out.size)⟩
     case measure=>simp[intOf];omega
   have g1:(ek == 1)=false:=by simpa using k1
   by_cases k2:ek=2
   ·subst k2
    by_cases hn:ea=n
    ·subst hn
     have gn:((n:Int) == (n:Int))=true:=by simp
     have HR:Hid (cK n 0 false xs=false):=by show _=_;rw[HED.out,aY];simp[h1,h3]
     clear HED;go_wp2_with(first|(go_at_call 131;refine(aU _ _ _ _).mono ?_;rintro e w' ⟨rfl,rfl⟩;rw[HI.out])|(go_at_call 141;refine(nvalid_any k0 tu0 gr0 lo0 ch0 ton0 me0 si0 wa0 ar0 _).mono ?_;rintro e w2 ⟨rfl,hb2⟩;rw[HVV.out]))
     go_ret
     exact⟨by rw[HR.out];rfl,HB1.out⟩
    ·have gn:(ea == (n:Int))=false:=by simpa using hn
     have hq:=aEL ⟨k0,tu0,gr0,lo0,ch0,ton0,me0,si0,wa0,ar0⟩ ⟨0,0,0,0,0,0,0,0,0,0⟩;by_cases hz:(⟨k0,tu0,gr0,lo0,ch0,ton0,me0,si0,wa0,ar0⟩ : NoteR)=⟨0,0,0,0,0,0,0,0,0,0⟩
     ·rw[decide_eq_true hz]at hq
      have HR:Hid (cK n 0 false xs=cK n ea true (xs.drop (k+1))):=by show _=_;rw[HED.out,aY];simp[h1,h3,hn,hz]
      clear HED;go_wp2_with(first|(go_at_call 131;refine(aU _ _ _ _).mono ?_;rintro e w' ⟨rfl,rfl⟩;rw[HI.out])|(go_at_call 141;refine(nvalid_any k0 tu0 gr0 lo0 ch0 ton0 me0 si0 wa0 ar0 _).mono ?_;rintro e w2 ⟨rfl,hb2⟩;rw[HVV.out]))
      go_roundw
      case rel=>exact⟨k+1,ea,true,by omega,rfl,rfl,by go_num,HR.out,HB1.out⟩
      case measure=>simp[intOf];omega
     ·rw[decide_eq_false hz]at hq
      have HR:Hid (cK n 0 false xs=false):=by show _=_;rw[HED.out,aY];simp[h1,h3,hn,hz]
      clear HED;go_wp2_with(first|(go_at_call 131;refine(aU _ _ _ _).mono ?_;rintro e w' ⟨rfl,rfl⟩;rw[HI.out])|(go_at_call 141;refine(nvalid_any k0 tu0 gr0 lo0 ch0 ton0 me0 si0 wa0 ar0 _).mono ?_;rintro e w2 ⟨rfl,hb2⟩;rw[HVV.out]))
      go_ret
      exact⟨by rw[HR.out];rfl,HB1.out⟩
   have g2:(ek == 2)=false:=by simpa using k2
   by_cases k3:ek=3
   ·subst k3
    by_cases hn:ea=n
    ·subst hn
     have gn:((n:Int) == (n:Int))=true:=by simp
     have HR:Hid (cK n 0 false xs=false):=by show _=_;rw[HED.out,aY];simp[h1,h3]
     clear HED;go_wp2_with(first|(go_at_call 131;refine(aU _ _ _ _).mono ?_;rintro e w' ⟨rfl,rfl⟩;rw[HI.out])|(go_at_call 141;refine(nvalid_any k0 tu0 gr0 lo0 ch0 ton0 me0 si0 wa0 ar0 _).mono ?_;rintro e w2 ⟨rfl,hb2⟩;rw[HVV.out]))
     go_ret
     exact⟨by rw[HR.out];rfl,HB1.out⟩
    ·have gn:(ea == (n:Int))=false:=by simpa using hn
     cases hv:aR ⟨k0,tu0,gr0,lo0,ch0,ton0,me0,si0,wa0,ar0⟩ with
     |false=>
      have HVV:=Lib.hid hv;have HR:Hid (cK n 0 false xs=false):=by show _=_;rw[HED.out,aY];simp[h1,h3,hn,hv]
      clear HED;go_wp2_with(first|(go_at_call 131;refine(aU _ _ _ _).mono ?_;rintro e w' ⟨rfl,rfl⟩;rw[HI.out])|(go_at_call 141;refine(nvalid_any k0 tu0 gr0 lo0 ch0 ton0 me0 si0 wa0 ar0 _).mono ?_;rintro e w2 ⟨rfl,hb2⟩;rw[HVV.out]))
      go_ret
      exact⟨by rw[HR.out];rfl,HB1.out.trans (hb2.mono HB1.out.size)⟩
     |true=>
      have HVV:=Lib.hid hv;have HR:Hid (cK n 0 false xs=cK n ea true (xs.drop (k+1))):=by show _=_;rw[HED.out,aY];simp[h1,h3,hn,hv]
      clear HED;go_wp2_with(first|(go_at_call 131;refine(aU _ _ _ _).mono ?_;rintro e w' ⟨rfl,rfl⟩;rw[HI.out])|(go_at_call 141;refine(nvalid_any k0 tu0 gr0 lo0 ch0 ton0 me0 si0 wa0 ar0 _).mono ?_;rintro e w2 ⟨rfl,hb2⟩;rw[HVV.out]))
      go_roundw
      case rel=>exact⟨k+1,ea,true,by omega,rfl,rfl,by go_num,HR.out,HB1.out.trans (hb2.mono HB1.out.size)⟩
      case measure=>simp[intOf];omega
   have g3:(ek == 3)=false:=by simpa using k3
   have HR:Hid (cK n 0 false xs=false):=by show _=_;rw[HED.out,aY];simp[h1,h3,k1,k2,k3]
   clear HED;go_wp2_with(first|(go_at_call 131;refine(aU _ _ _ _).mono ?_;rintro e w' ⟨rfl,rfl⟩;rw[HI.out])|(go_at_call 141;refine(nvalid_any k0 tu0 gr0 lo0 ch0 ton0 me0 si0 wa0 ar0 _).mono ?_;rintro e w2 ⟨rfl,hb2⟩;rw[HVV.out]))
   go_ret
   exact⟨by rw[HR.out];rfl,HB1.out⟩
  ·obtain rfl:L=ea:=by omega
   have gl:decide (L<L)=false:=by simp
   have h3:L≤L:=Int.le_refl _;cases u with
   |true=>
    by_cases k1:ek=1
    ·subst k1
     have HR:Hid (cK n 0 false xs=false):=by show _=_;rw[HED.out,aY];simp[h1]
     clear HED;go_wp2_with(first|(go_at_call 131;refine(aU _ _ _ _).mono ?_;rintro e w' ⟨rfl,rfl⟩;rw[HI.out])|(go_at_call 141;refine(nvalid_any k0 tu0 gr0 lo0 ch0 ton0 me0 si0 wa0 ar0 _).mono ?_;rintro e w2 ⟨rfl,hb2⟩;rw[HVV.out]))
     go_ret
     exact⟨by rw[HR.out];rfl,HB1.out⟩
    have g1:(ek == 1)=false:=by simpa using k1
    by_cases k2:ek=2
    ·subst k2
     have HR:Hid (cK n 0 false xs=false):=by show _=_;rw[HED.out,aY];simp[h1]
     clear HED;go_wp2_with(first|(go_at_call 131;refine(aU _ _ _ _).mono ?_;rintro e w' ⟨rfl,rfl⟩;rw[HI.out])|(go_at_call 141;refine(nvalid_any k0 tu0 gr0 lo0 ch0 ton0 me0 si0 wa0 ar0 _).mono ?_;rintro e w2 ⟨rfl,hb2⟩;rw[HVV.out]))
     go_ret
     exact⟨by rw[HR.out];rfl,HB1.out⟩
    have g2:(ek == 2)=false:=by simpa using k2
    by_cases k3:ek=3
    ·subst k3
     have HR:Hid (cK n 0 false xs=false):=by show _=_;rw[HED.out,aY];simp[h1]
     clear HED;go_wp2_with(first|(go_at_call 131;refine(aU _ _ _ _).mono ?_;rintro e w' ⟨rfl,rfl⟩;rw[HI.out])|(go_at_call 141;refine(nvalid_any k0 tu0 gr0 lo0 ch0 ton0 me0 si0 wa0 ar0 _).mono ?_;rintro e w2 ⟨rfl,hb2⟩;rw[HVV.out]))
     go_ret
     exact⟨by rw[HR.out];rfl,HB1.out⟩
    have g3:(ek == 3)=false:=by simpa using k3
    have HR:Hid (cK n 0 false xs=false):=by show _=_;rw[HED.out,aY];simp[h1]
    clear HED;go_wp2_with(first|(go_at_call 131;refine(aU _ _ _ _).mono ?_;rintro e w' ⟨rfl,rfl⟩;rw[HI.out])|(go_at_call 141;refine(nvalid_any k0 tu0 gr0 lo0 ch0 ton0 me0 si0 wa0 ar0 _).mono ?_;rintro e w2 ⟨rfl,hb2⟩;rw[HVV.out]))
    go_ret
    exact⟨by rw[HR.out];rfl,HB1.out⟩
   |false=>
    by_cases k1:ek=1
    ·subst k1
     cases hv:aR ⟨k0,tu0,gr0,lo0,ch0,ton0,me0,si0,wa0,ar0⟩ with
     |false=>
      have HVV:=Lib.hid hv;have HR:Hid (cK n 0 false xs=false):=by show _=_;rw[HED.out,aY];simp[h1,hv]
      clear HED;go_wp2_with(first|(go_at_call 131;refine(aU _ _ _ _).mono ?_;rintro e w' ⟨rfl,rfl⟩;rw[HI.out])|(go_at_call 141;refine(nvalid_any k0 tu0 gr0 lo0 ch0 ton0 me0 si0 wa0 ar0 _).mono ?_;rintro e w2 ⟨rfl,hb2⟩;rw[HVV.out]))
      go_ret
      exact⟨by rw[HR.out];rfl,HB1.out.trans (hb2.mono HB1.out.size)⟩
     |true=>
      have HVV:=Lib.hid hv;have HR:Hid (cK n 0 false xs=cK n L false (xs.drop (k+1))):=by show _=_;rw[HED.out,aY];simp[h1,hv]
      clear HED;go_wp2_with(first|(go_at_call 131;refine(aU _ _ _ _).mono ?_;rintro e w' ⟨rfl,rfl⟩;rw[HI.out])|(go_at_call 141;refine(nvalid_any k0 tu0 gr0 lo0 ch0 ton0 me0 si0 wa0 ar0 _).mono ?_;rintro e w2 ⟨rfl,hb2⟩;rw[HVV.out]))
      go_roundw
      case rel=>exact⟨k+1,L,false,by omega,rfl,rfl,by go_num,HR.out,HB1.out.trans (hb2.mono HB1.out.size)⟩
      case measure=>simp[intOf];omega
    have g1:(ek == 1)=false:=by simpa using k1
    by_cases k2:ek=2
    ·subst k2
     by_cases hn:L=n
     ·subst hn
      have gn:((n:Int) == (n:Int))=true:=by simp
      have HR:Hid (cK n 0 false xs=false):=by show _=_;rw[HED.out,aY];simp
      clear HED;go_wp2_with(first|(go_at_call 131;refine(aU _ _ _ _).mono ?_;rintro e w' ⟨rfl,rfl⟩;rw[HI.out])|(go_at_call 141;refine(nvalid_any k0 tu0 gr0 lo0 ch0 ton0 me0 si0 wa0 ar0 _).mono ?_;rintro e w2 ⟨rfl,hb2⟩;rw[HVV.out]))
      go_ret
      exact⟨by rw[HR.out];rfl,HB1.out⟩
     ·have gn:(L == (n:Int))=false:=by simpa using hn
      have hq:=aEL ⟨k0,tu0,gr0,lo0,ch0,ton0,me0,si0,wa0,ar0⟩ ⟨0,0,0,0,0,0,0,0,0,0⟩;by_cases hz:(⟨k0,tu0,gr0,lo0,ch0,ton0,me0,si0,wa0,ar0⟩ : NoteR)=⟨0,0,0,0,0,0,0,0,0,0⟩
      ·rw[decide_eq_true hz]at hq
       have HR:Hid (cK n 0 false xs=cK n L true (xs.drop (k+1))):=by show _=_;rw[HED.out,aY];simp[h1,hn,hz]
       clear HED;go_wp2_with(first|(go_at_call 131;refine(aU _ _ _ _).mono ?_;rintro e w' ⟨rfl,rfl⟩;rw[HI.out])|(go_at_call 141;refine(nvalid_any k0 tu0 gr0 lo0 ch0 ton0 me0 si0 wa0 ar0 _).mono ?_;rintro e w2 ⟨rfl,hb2⟩;rw[HVV.out]))
       go_roundw
       case rel=>exact⟨k+1,L,true,by omega,rfl,rfl,by go_num,HR.out,HB1.out⟩
       case measure=>simp[intOf];omega
      ·rw[decide_eq_false hz]at hq
       have HR:Hid (cK n 0 false xs=false):=by show _=_;rw[HED.out,aY];simp[h1,hn,hz]
       clear HED;go_wp2_with(first|(go_at_call 131;refine(aU _ _ _ _).mono ?_;rintro e w' ⟨rfl,rfl⟩;rw[HI.out])|(go_at_call 141;refine(nvalid_any k0 tu0 gr0 lo0 ch0 ton0 me0 si0 wa0 ar0 _).mono ?_;rintro e w2 ⟨rfl,hb2⟩;rw[HVV.out]))
       go_ret
       exact⟨by rw[HR.out];rfl,HB1.out⟩
    have g2:(ek == 2)=false:=by simpa using k2
    by_cases k3:ek=3
    ·subst k3
     by_cases hn:L=n
     ·subst hn
      have gn:((n:Int) == (n:Int))=true:=by simp
      have HR:Hid (cK n 0 false xs=false):=by show _=_;rw[HED.out,aY];simp
      clear HED;go_wp2_with(first|(go_at_call 131;refine(aU _ _ _ _).mono ?_;rintro e w' ⟨rfl,rfl⟩;rw[HI.out])|(go_at_call 141;refine(nvalid_any k0 tu0 gr0 lo0 ch0 ton0 me0 si0 wa0 ar0 _).mono ?_;rintro e w2 ⟨rfl,hb2⟩;rw[HVV.out]))
      go_ret
      exact⟨by rw[HR.out];rfl,HB1.out⟩
     ·have gn:(L == (n:Int))=false:=by simpa using hn
      cases hv:aR ⟨k0,tu0,gr0,lo0,ch0,ton0,me0,si0,wa0,ar0⟩ with
      |false=>
       have HVV:=Lib.hid hv;have HR:Hid (cK n 0 false xs=false):=by show _=_;rw[HED.out,aY];simp[h1,hn,hv]
       clear HED;go_wp2_with(first|(go_at_call 131;refine(aU _ _ _ _).mono ?_;rintro e w' ⟨rfl,rfl⟩;rw[HI.out])|(go_at_call 141;refine(nvalid_any k0 tu0 gr0 lo0 ch0 ton0 me0 si0 wa0 ar0 _).mono ?_;rintro e w2 ⟨rfl,hb2⟩;rw[HVV.out]))
       go_ret
       exact⟨by rw[HR.out];rfl,HB1.out.trans (hb2.mono HB1.out.size)⟩
      |true=>
       have HVV:=Lib.hid hv;have HR:Hid (cK n 0 false xs=cK n L true (xs.drop (k+1))):=by show _=_;rw[HED.out,aY];simp[h1,hn,hv]
       clear HED;go_wp2_with(first|(go_at_call 131;refine(aU _ _ _ _).mono ?_;rintro e w' ⟨rfl,rfl⟩;rw[HI.out])|(go_at_call 141;refine(nvalid_any k0 tu0 gr0 lo0 ch0 ton0 me0 si0 wa0 ar0 _).mono ?_;rintro e w2 ⟨rfl,hb2⟩;rw[HVV.out]))
       go_roundw
       case rel=>exact⟨k+1,L,true,by omega,rfl,rfl,by go_num,HR.out,HB1.out.trans (hb2.mono HB1.out.size)⟩
       case measure=>simp[intOf];omega
    have g3:(ek == 3)=false:=by simpa using k3
    have HR:Hid (cK n 0 false xs=false):=by show _=_;rw[HED.out,aY];simp[h1,k1,k2,k3]
    clear HED;go_wp2_with(first|(go_at_call 131;refine(aU _ _ _ _).mono ?_;rintro e w' ⟨rfl,rfl⟩;rw[HI.out])|(go_at_call 141;refine(nvalid_any k0 tu0 gr0 lo0 ch0 ton0 me0 si0 wa0 ar0 _).mono ?_;rintro e w2 ⟨rfl,hb2⟩;rw[HVV.out]))
    go_ret
    exact⟨by rw[HR.out];rfl,HB1.out⟩
end Go.Proofs.YtjlkeoppppfeiaaGreat
