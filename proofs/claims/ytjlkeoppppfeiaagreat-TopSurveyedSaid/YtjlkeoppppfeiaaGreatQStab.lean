/- Lemmas. -/
import Derived.Test.YtjlkeoppppfeiaaGreatQSymM
namespace Go.Proofs.YtjlkeoppppfeiaaGreat
open Go.RowKit Go.Shelf Go.Sort Go.Proofs
theorem aDx:∀N,aCL N
 |0=>fun base b n c a m e P L R Q w hN h hP hm he hL hR=>by omega
 |N+1=>fun base b n c a m e P L R Q w hN h hP hm he hL hR hLs hRs hn=>by
  by_cases h1:L.length=1
  ·exact aEZ base b n c a m e P L R Q w h hP hm he h1 hRs hn
  ·by_cases h2:R.length=1
   ·exact aE1 base b n c a m e P L R Q w h hP hm he (by omega) h2 hLs hn
   ·exact aE3 N (aDx N) base b n c a m e P L R Q w hN h hP hm he (by omega) (by omega) hLs hRs hn
set_option maxRecDepth 100000 in
set_option maxHeartbeats 8000000 in
theorem aET (base b n c:Nat) (xs:List Crest) (w:World) (h:OW cC 2 52 base w (some ⟨b,0,none⟩) n c xs) (hn:n≤100000) :
  Calls Tryz.prog 188 #[.slice (some ⟨b,0,none⟩) n c,.int .i64 n,.func (.func 44) #[] #[]] w fun ev w'=>(∃v,ev = .returned v)∧OW cC 2 52 base w' (some ⟨b,0,none⟩) n c (aK (fun x:Crest=>x.pos) xs)∧w.grownBy w' (some b):=by
 have HH:=Lib.hid h;have HN:=Lib.hid h.2;clear h;go_enter Tryz.func188,Tryz.ntmps188
 go_wp2_with fail
 go_loopw [7,8] (fun av bv wr=>∃k a0 b0:Nat,av = .int .i64 a0∧bv = .int .i64 b0∧Hid (a0=k*20)∧Hid (b0=a0+20)∧a0≤n∧OW cC 2 52 base wr (some ⟨b,0,none⟩) n c (bl (fun x:Crest=>x.pos) 20 k xs)∧w.grownBy wr (some b))
  (fun av _ _=>n-(intOf av).toNat)
 case atStart=>exact⟨0,0,20,rfl,rfl,Lib.hid (by omega),Lib.hid rfl,Nat.zero_le _,HH.out,World.grownBy.refl w _⟩
 case round=>
  obtain⟨k,a0,b0,rfl,rfl,HA0,HB0,hann,hO,hg⟩:=hrel;have han:a0≤n:=hann;obtain⟨A,hA1,hA2,hA3⟩:=oB (fun x:Crest=>x.pos) 20 k xs (by have h1:=HA0.out;have h2:=HN.out;omega)
  rw[hA2]at hO;have hA1':A.length=a0:=by rw[hA1];exact HA0.out.symm
  obtain⟨C,hC⟩ : ∃C,C=(xs.drop (k*20)).take 20:=⟨_,rfl⟩
  obtain⟨B,hB⟩ : ∃B,B=(xs.drop (k*20)).drop 20:=⟨_,rfl⟩
  have hCl:C.length=min 20 (n-a0):=by rw[hC,List.length_take,List.length_drop,←HN.out,←HA0.out]
  rw[←hC,←hB]at hO hA3;have HA3:=Lib.hid hA3;have HAL:=Lib.hid hA1';have HCL:=Lib.hid hCl;clear hA1 hA2 hA3 hC hB hA1' hCl;by_cases hlt:b0≤n
  ·obtain⟨b1,hb1⟩ : ∃b1,b1=b0+20:=⟨_,rfl⟩
   have hwb:IntKind.i64.wrap ((b0:Int)+20)=(b1:Int):=by rw[show (b0:Int)+20=(b1:Int) by omega];exact IntWalk.i64_in _ (by omega)
   have HB1:=Lib.hid hb1;clear hb1;go_wp2_with fail
   refine(aEG base b n c a0 b0 A C B _ hO HAL.out (by have h1:=HCL.out;have h2:=HB0.out;omega) hn).mono ?_
   rintro ev w2 ⟨⟨v,rfl⟩,hO2,hg2⟩;rw[←HA3.out]at hO2;go_wp2_with fail
   go_roundw
   case rel=>exact⟨k+1,b0,b1,rfl,rfl,Lib.hid (by have h1:=HA0.out;have h2:=HB0.out;omega),HB1,hlt,hO2,aN hg hg2⟩
   case measure=>have:=HB0.out;simp[intOf];omega
  ·go_wp2_with fail
   refine(aEG base b n c a0 n A C B _ hO HAL.out (by have h1:=HCL.out;have h2:=HB0.out;omega) hn).mono ?_
   rintro ev w2 ⟨⟨v,rfl⟩,hO2,hg2⟩;have hbs:bl (fun x:Crest=>x.pos) 20 (k+1) xs=bs (fun x:Crest=>x.pos) 20 xs:=qV (fun x:Crest=>x.pos) (by omega) (by have h1:=HA0.out;have h2:=HB0.out;have h3:=HN.out;omega)
   rw[←HA3.out,hbs]at hO2;have HG:=Lib.hid (aN hg hg2);have HO:=Lib.hid hO2;clear hO2 hg hg2 hO hbs HA3 HAL HCL HA0 HB0;go_wp2_with fail
   go_loopw [6] (fun sv wq=>∃S:Nat,sv = .int .i64 S∧1≤S∧S≤400000∧OW cC 2 52 base wq (some ⟨b,0,none⟩) n c (bs (fun x:Crest=>x.pos) S xs)∧w.grownBy wq (some b))
    (fun sv _=>n-(intOf sv).toNat)
   case atStart=>exact⟨20,rfl,by omega,by omega,HO.out,HG.out⟩
   case round=>
    obtain⟨S,rfl,hS1,hS2,hOS,hgS⟩:=hrel;by_cases hlt2:S<n
    ·obtain⟨S2,hSS⟩ : ∃S2,S2=2*S:=⟨_,rfl⟩
     have hw1:IntKind.i64.wrap (2*(S:Int))=(S2:Int):=by rw[show 2*(S:Int)=(S2:Int) by omega];exact IntWalk.i64_in _ (by omega)
     have hw2:IntKind.i64.wrap ((S:Int)*2)=(S2:Int):=by rw[show (S:Int)*2=(S2:Int) by omega];exact IntWalk.i64_in _ (by omega)
     have HSS:=Lib.hid hSS;have HOS:=Lib.hid hOS;have HGS:=Lib.hid hgS;clear hSS hOS hgS;go_wp2_with fail
     go_loopw [7,8] (fun av bv wr=>∃k a0 b0:Nat,av = .int .i64 a0∧bv = .int .i64 b0∧Hid (a0=k*(2*S))∧Hid (b0=a0+S2)∧a0≤n∧OW cC 2 52 base wr (some ⟨b,0,none⟩) n c (mx (fun x:Crest=>x.pos) S k xs)∧w.grownBy wr (some b))
      (fun av _ _=>n-(intOf av).toNat)
     case atStart=>exact⟨0,0,S2,rfl,rfl,Lib.hid (by omega),Lib.hid (by omega),Nat.zero_le _,HOS.out,HGS.out⟩
     case round=>
      obtain⟨j,a0,b0,rfl,rfl,HA0,HB0,han2,hO,hg⟩:=hrel;have han3:a0≤n:=han2;obtain⟨A,hA1,hA2,hA3⟩:=oD (fun x:Crest=>x.pos) S hS1 j xs (by have h1:=HA0.out;have h2:=HN.out;omega)
      have hA1':A.length=a0:=by rw[hA1];exact HA0.out.symm
      obtain⟨D,hD⟩ : ∃D,D=xs.drop (j*(2*S)):=⟨_,rfl⟩
      rw[←hD]at hA2 hA3;have hDl:D.length=n-a0:=by rw[hD,List.length_drop,←HN.out,←HA0.out]
      have HAL:=Lib.hid hA1';have HDL:=Lib.hid hDl;have HA2:=Lib.hid hA2;have HA3:=Lib.hid hA3;have hm1:Hid (mrg (fun x:Crest=>x.pos) (aK (fun x:Crest=>x.pos) (D.take S)) (aK (fun x:Crest=>x.pos) ((D.drop S).take S))=aK (fun x:Crest=>x.pos) (D.take (2*S))):=by show _=_;rw[jP,oX]
      have hm2:Hid (mx (fun x:Crest=>x.pos) S j xs=A++(aK (fun x:Crest=>x.pos) (D.take S)++(aK (fun x:Crest=>x.pos) ((D.drop S).take S)++bs (fun x:Crest=>x.pos) S (D.drop (2*S))))):=by show _=_;rw[HA2.out,wW (fun x:Crest=>x.pos) D hS1]
      clear hA1 hA2 hA3 hD hA1' hDl;obtain⟨m0,hm0⟩ : ∃m0,m0=a0+S:=⟨_,rfl⟩
      have hwm:IntKind.i64.wrap ((a0:Int)+(S:Int))=(m0:Int):=by rw[show (a0:Int)+(S:Int)=(m0:Int) by omega];exact IntWalk.i64_in _ (by omega)
      have HM0:=Lib.hid hm0;clear hm0;have hl1:Hid (S≤n-a0→(aK (fun x:Crest=>x.pos) (D.take S)).length=S):=by
       show _→_
       intro hh;rw[ssort_len,List.length_take,HDL.out];omega
      have hl2:Hid ((aK (fun x:Crest=>x.pos) ((D.drop S).take S)).length=min S (n-a0-S)):=by show _=_;rw[ssort_len,List.length_take,List.length_drop,HDL.out]
      by_cases hlt3:b0≤n
      ·obtain⟨b1,hb1⟩ : ∃b1,b1=b0+S2:=⟨_,rfl⟩
       have hwb:IntKind.i64.wrap ((b0:Int)+(S2:Int))=(b1:Int):=by rw[show (b0:Int)+(S2:Int)=(b1:Int) by omega];exact IntWalk.i64_in _ (by have:=HSS.out;omega)
       have HB1:=Lib.hid hb1;clear hb1;rw[hm2.out]at hO;go_wp2_with fail
       refine(aDx (b0-a0) base b n c a0 m0 b0 A _ _ _ _ (Nat.le_refl _) hO HAL.out (by have h1:=hl1.out (by have:=HB0.out;have:=HSS.out;omega);have:=HM0.out;omega) (by have h1:=hl2.out;have:=HB0.out;have:=HSS.out;have:=HM0.out;omega) (by have h1:=hl1.out (by have:=HB0.out;have:=HSS.out;omega);omega) (by have h1:=hl2.out;have:=HB0.out;have:=HSS.out;omega) (bU _ _) (bU _ _) hn).mono ?_
       rintro ev w3 ⟨⟨v3,rfl⟩,hO3,hg3⟩;rw[hm1.out,←HA3.out]at hO3;go_wp2_with fail
       go_roundw
       case rel=>exact⟨j+1,b0,b1,rfl,rfl,Lib.hid (by have h1:=HA0.out;have h2:=HB0.out;have h3:=HSS.out;rw[Nat.succ_mul];omega),HB1,hlt3,hO3,aN hg hg3⟩
       case measure=>have:=HB0.out;have:=HSS.out;simp[intOf];omega
      ·by_cases hlt4:m0<n
       ·rw[hm2.out]at hO
        go_wp2_with fail
        refine(aDx (n-a0) base b n c a0 m0 n A _ _ _ _ (Nat.le_refl _) hO HAL.out (by have h1:=hl1.out (by have:=HM0.out;omega);have:=HM0.out;omega) (by have h1:=hl2.out;have:=HB0.out;have:=HSS.out;have:=HM0.out;omega) (by have h1:=hl1.out (by have:=HM0.out;omega);omega) (by have h1:=hl2.out;have:=HM0.out;omega) (bU _ _) (bU _ _) hn).mono ?_
        rintro ev w3 ⟨⟨v3,rfl⟩,hO3,hg3⟩;have hall:mx (fun x:Crest=>x.pos) S (j+1) xs=bs (fun x:Crest=>x.pos) (2*S) xs:=wX (fun x:Crest=>x.pos) hS1 xs (by have h1:=HA0.out;have h2:=HB0.out;have h3:=HSS.out;have h4:=HN.out;rw[Nat.succ_mul];omega)
        rw[hm1.out,←HA3.out,hall,←HSS.out]at hO3;clear hall;go_wp2_with fail
        go_roundw
        case rel=>exact⟨S2,rfl,by have:=HSS.out;omega,by have:=HSS.out;omega,hO3,aN hg hg3⟩
        case measure=>have:=HSS.out;simp[intOf];omega
       ·have hall:mx (fun x:Crest=>x.pos) S j xs=bs (fun x:Crest=>x.pos) (2*S) xs:=sI (fun x:Crest=>x.pos) hS1 xs (by have h1:=HA0.out;have h4:=HN.out;omega) (by have h1:=HA0.out;have h3:=HM0.out;have h4:=HN.out;omega)
        rw[hall,←HSS.out]at hO;clear hall;go_wp2_with fail
        go_roundw
        case rel=>exact⟨S2,rfl,by have:=HSS.out;omega,by have:=HSS.out;omega,hO,hg⟩
        case measure=>have:=HSS.out;simp[intOf];omega
    ·have hfin:bs (fun x:Crest=>x.pos) S xs=aK (fun x:Crest=>x.pos) xs:=bs_one (fun x:Crest=>x.pos) hS1 (by rw[←HN.out];omega)
     rw[hfin]at hOS;clear hfin;go_wp2_with fail
     go_end0
     exact⟨⟨_,rfl⟩,hOS,hgS⟩
set_option maxRecDepth 100000 in
theorem aEU (c:Nat) (w:World):Calls Tryz.prog 245 #[.slice none 0 c,.int .i64 0,.int .i64 0,.func (.func 44) #[] #[]] w fun ev w'=>(∃v,ev = .returned v)∧w'=w:=by
 go_enter Tryz.func245,Tryz.ntmps245
 go_wp2_with fail
 go_loopw [8] (fun iv wr=>iv = .int .i64 1∧wr=w) (fun _ _=>0)
 case atStart=>exact⟨rfl,rfl⟩
 case round=>
  obtain⟨rfl,rfl⟩:=hrel;go_wp2_with fail
  go_end0
  exact⟨⟨_,rfl⟩,rfl⟩
set_option maxRecDepth 100000 in
theorem aDy (c:Nat) (w:World):Calls Tryz.prog 188 #[.slice none 0 c,.int .i64 0,.func (.func 44) #[] #[]] w fun ev w'=>(∃v,ev = .returned v)∧w'=w:=by
 go_enter Tryz.func188,Tryz.ntmps188
 go_wp2_with fail
 go_loopw [7,8] (fun av bv wr=>av = .int .i64 0∧bv = .int .i64 20∧wr=w) (fun _ _ _=>0)
 case atStart=>exact⟨rfl,rfl,rfl⟩
 case round=>
  obtain⟨rfl,rfl,rfl⟩:=hrel;go_wp2_with fail
  refine(aEU c _).mono ?_
  rintro ev w2 ⟨⟨v,rfl⟩,rfl⟩;go_wp2_with fail
  go_loopw [6] (fun sv wq=>sv = .int .i64 20∧wq=w2) (fun _ _=>0)
  case atStart=>exact⟨rfl,rfl⟩
  case round=>
   obtain⟨rfl,rfl⟩:=hrel;go_wp2_with fail
   go_end0
   exact⟨⟨_,rfl⟩,rfl⟩
set_option maxRecDepth 100000 in
theorem aCJ (base:Nat) (A:Option Addr) (n c:Nat) (xs:List Crest) (w:World) (h:OW cC 2 52 base w A n c xs) (hn:n≤100000) :
  Calls Tryz.prog 124 #[.slice A n c,.func (.func 44) #[] #[]] w fun ev w'=>(∃v,ev = .returned v)∧OW cC 2 52 base w' A n c (aK (fun x:Crest=>x.pos) xs)∧w.grownBy w' (A.map (·.block)):=by
 rcases A with _|a
 ·obtain⟨rfl,rfl,rfl⟩:=h.none_
  go_enter Tryz.func124,Tryz.ntmps124
  go_wp2_with fail
  refine(aDy 0 _).mono ?_
  rintro ev w2 ⟨⟨v,rfl⟩,rfl⟩;go_wp2_with fail
  go_end0
  exact⟨⟨_,rfl⟩,OW.nil_,World.grownBy.refl _ _⟩
 ·rcases h.1.2 with⟨h3,_⟩|⟨g',cap,cur,h3,_⟩
  ·cases h3
  ·have HH:=Lib.hid h
   clear h
   injection h3 with h3 h4 h5
   injection h3 with h3
   subst h3;clear h4 h5;go_enter Tryz.func124,Tryz.ntmps124
   go_wp2_with fail
   refine(aET base g' n c xs _ HH.out hn).mono ?_
   rintro ev w2 ⟨⟨v,rfl⟩,hO,hg⟩;go_wp2_with fail
   go_end0
   exact⟨⟨_,rfl⟩,hO,hg⟩
theorem aDz:∀N,aCM N
 |0=>fun base b n c a m e P L R Q w hN h hP hm he hL hR=>by omega
 |N+1=>fun base b n c a m e P L R Q w hN h hP hm he hL hR hLs hRs hn=>by
  by_cases h1:L.length=1
  ·exact aE0 base b n c a m e P L R Q w h hP hm he h1 hRs hn
  ·by_cases h2:R.length=1
   ·exact aE2 base b n c a m e P L R Q w h hP hm he (by omega) h2 hLs hn
   ·exact aE4 N (aDz N) base b n c a m e P L R Q w hN h hP hm he (by omega) (by omega) hLs hRs hn
set_option maxRecDepth 100000 in
set_option maxHeartbeats 8000000 in
theorem aEV (base b n c:Nat) (xs:List Junc) (w:World) (h:OW jC 3 54 base w (some ⟨b,0,none⟩) n c xs) (hn:n≤100000) :
  Calls Tryz.prog 190 #[.slice (some ⟨b,0,none⟩) n c,.int .i64 n,.func (.func 48) #[] #[]] w fun ev w'=>(∃v,ev = .returned v)∧OW jC 3 54 base w' (some ⟨b,0,none⟩) n c (aK (fun x:Junc=>x.pos) xs)∧w.grownBy w' (some b):=by
 have HH:=Lib.hid h;have HN:=Lib.hid h.2;clear h;go_enter Tryz.func190,Tryz.ntmps190
 go_wp2_with fail
 go_loopw [7,8] (fun av bv wr=>∃k a0 b0:Nat,av = .int .i64 a0∧bv = .int .i64 b0∧Hid (a0=k*20)∧Hid (b0=a0+20)∧a0≤n∧OW jC 3 54 base wr (some ⟨b,0,none⟩) n c (bl (fun x:Junc=>x.pos) 20 k xs)∧w.grownBy wr (some b))
  (fun av _ _=>n-(intOf av).toNat)
 case atStart=>exact⟨0,0,20,rfl,rfl,Lib.hid (by omega),Lib.hid rfl,Nat.zero_le _,HH.out,World.grownBy.refl w _⟩
 case round=>
  obtain⟨k,a0,b0,rfl,rfl,HA0,HB0,hann,hO,hg⟩:=hrel;have han:a0≤n:=hann;obtain⟨A,hA1,hA2,hA3⟩:=oB (fun x:Junc=>x.pos) 20 k xs (by have h1:=HA0.out;have h2:=HN.out;omega)
  rw[hA2]at hO;have hA1':A.length=a0:=by rw[hA1];exact HA0.out.symm
  obtain⟨C,hC⟩ : ∃C,C=(xs.drop (k*20)).take 20:=⟨_,rfl⟩
  obtain⟨B,hB⟩ : ∃B,B=(xs.drop (k*20)).drop 20:=⟨_,rfl⟩
  have hCl:C.length=min 20 (n-a0):=by rw[hC,List.length_take,List.length_drop,←HN.out,←HA0.out]
  rw[←hC,←hB]at hO hA3;have HA3:=Lib.hid hA3;have HAL:=Lib.hid hA1';have HCL:=Lib.hid hCl;clear hA1 hA2 hA3 hC hB hA1' hCl;by_cases hlt:b0≤n
  ·obtain⟨b1,hb1⟩ : ∃b1,b1=b0+20:=⟨_,rfl⟩
   have hwb:IntKind.i64.wrap ((b0:Int)+20)=(b1:Int):=by rw[show (b0:Int)+20=(b1:Int) by omega];exact IntWalk.i64_in _ (by omega)
   have HB1:=Lib.hid hb1;clear hb1;go_wp2_with fail
   refine(aEH base b n c a0 b0 A C B _ hO HAL.out (by have h1:=HCL.out;have h2:=HB0.out;omega) hn).mono ?_
   rintro ev w2 ⟨⟨v,rfl⟩,hO2,hg2⟩;rw[←HA3.out]at hO2;go_wp2_with fail
   go_roundw
   case rel=>exact⟨k+1,b0,b1,rfl,rfl,Lib.hid (by have h1:=HA0.out;have h2:=HB0.out;omega),HB1,hlt,hO2,aN hg hg2⟩
   case measure=>have:=HB0.out;simp[intOf];omega
  ·go_wp2_with fail
   refine(aEH base b n c a0 n A C B _ hO HAL.out (by have h1:=HCL.out;have h2:=HB0.out;omega) hn).mono ?_
   rintro ev w2 ⟨⟨v,rfl⟩,hO2,hg2⟩;have hbs:bl (fun x:Junc=>x.pos) 20 (k+1) xs=bs (fun x:Junc=>x.pos) 20 xs:=qV (fun x:Junc=>x.pos) (by omega) (by have h1:=HA0.out;have h2:=HB0.out;have h3:=HN.out;omega)
   rw[←HA3.out,hbs]at hO2;have HG:=Lib.hid (aN hg hg2);have HO:=Lib.hid hO2;clear hO2 hg hg2 hO hbs HA3 HAL HCL HA0 HB0;go_wp2_with fail
   go_loopw [6] (fun sv wq=>∃S:Nat,sv = .int .i64 S∧1≤S∧S≤400000∧OW jC 3 54 base wq (some ⟨b,0,none⟩) n c (bs (fun x:Junc=>x.pos) S xs)∧w.grownBy wq (some b))
    (fun sv _=>n-(intOf sv).toNat)
   case atStart=>exact⟨20,rfl,by omega,by omega,HO.out,HG.out⟩
   case round=>
    obtain⟨S,rfl,hS1,hS2,hOS,hgS⟩:=hrel;by_cases hlt2:S<n
    ·obtain⟨S2,hSS⟩ : ∃S2,S2=2*S:=⟨_,rfl⟩
     have hw1:IntKind.i64.wrap (2*(S:Int))=(S2:Int):=by rw[show 2*(S:Int)=(S2:Int) by omega];exact IntWalk.i64_in _ (by omega)
     have hw2:IntKind.i64.wrap ((S:Int)*2)=(S2:Int):=by rw[show (S:Int)*2=(S2:Int) by omega];exact IntWalk.i64_in _ (by omega)
     have HSS:=Lib.hid hSS;have HOS:=Lib.hid hOS;have HGS:=Lib.hid hgS;clear hSS hOS hgS;go_wp2_with fail
     go_loopw [7,8] (fun av bv wr=>∃k a0 b0:Nat,av = .int .i64 a0∧bv = .int .i64 b0∧Hid (a0=k*(2*S))∧Hid (b0=a0+S2)∧a0≤n∧OW jC 3 54 base wr (some ⟨b,0,none⟩) n c (mx (fun x:Junc=>x.pos) S k xs)∧w.grownBy wr (some b))
      (fun av _ _=>n-(intOf av).toNat)
     case atStart=>exact⟨0,0,S2,rfl,rfl,Lib.hid (by omega),Lib.hid (by omega),Nat.zero_le _,HOS.out,HGS.out⟩
     case round=>
      obtain⟨j,a0,b0,rfl,rfl,HA0,HB0,han2,hO,hg⟩:=hrel;have han3:a0≤n:=han2;obtain⟨A,hA1,hA2,hA3⟩:=oD (fun x:Junc=>x.pos) S hS1 j xs (by have h1:=HA0.out;have h2:=HN.out;omega)
      have hA1':A.length=a0:=by rw[hA1];exact HA0.out.symm
      obtain⟨D,hD⟩ : ∃D,D=xs.drop (j*(2*S)):=⟨_,rfl⟩
      rw[←hD]at hA2 hA3;have hDl:D.length=n-a0:=by rw[hD,List.length_drop,←HN.out,←HA0.out]
      have HAL:=Lib.hid hA1';have HDL:=Lib.hid hDl;have HA2:=Lib.hid hA2;have HA3:=Lib.hid hA3;have hm1:Hid (mrg (fun x:Junc=>x.pos) (aK (fun x:Junc=>x.pos) (D.take S)) (aK (fun x:Junc=>x.pos) ((D.drop S).take S))=aK (fun x:Junc=>x.pos) (D.take (2*S))):=by show _=_;rw[jP,oX]
      have hm2:Hid (mx (fun x:Junc=>x.pos) S j xs=A++(aK (fun x:Junc=>x.pos) (D.take S)++(aK (fun x:Junc=>x.pos) ((D.drop S).take S)++bs (fun x:Junc=>x.pos) S (D.drop (2*S))))):=by show _=_;rw[HA2.out,wW (fun x:Junc=>x.pos) D hS1]
      clear hA1 hA2 hA3 hD hA1' hDl;obtain⟨m0,hm0⟩ : ∃m0,m0=a0+S:=⟨_,rfl⟩
      have hwm:IntKind.i64.wrap ((a0:Int)+(S:Int))=(m0:Int):=by rw[show (a0:Int)+(S:Int)=(m0:Int) by omega];exact IntWalk.i64_in _ (by omega)
      have HM0:=Lib.hid hm0;clear hm0;have hl1:Hid (S≤n-a0→(aK (fun x:Junc=>x.pos) (D.take S)).length=S):=by
       show _→_
       intro hh;rw[ssort_len,List.length_take,HDL.out];omega
      have hl2:Hid ((aK (fun x:Junc=>x.pos) ((D.drop S).take S)).length=min S (n-a0-S)):=by show _=_;rw[ssort_len,List.length_take,List.length_drop,HDL.out]
      by_cases hlt3:b0≤n
      ·obtain⟨b1,hb1⟩ : ∃b1,b1=b0+S2:=⟨_,rfl⟩
       have hwb:IntKind.i64.wrap ((b0:Int)+(S2:Int))=(b1:Int):=by rw[show (b0:Int)+(S2:Int)=(b1:Int) by omega];exact IntWalk.i64_in _ (by have:=HSS.out;omega)
       have HB1:=Lib.hid hb1;clear hb1;rw[hm2.out]at hO;go_wp2_with fail
       refine(aDz (b0-a0) base b n c a0 m0 b0 A _ _ _ _ (Nat.le_refl _) hO HAL.out (by have h1:=hl1.out (by have:=HB0.out;have:=HSS.out;omega);have:=HM0.out;omega) (by have h1:=hl2.out;have:=HB0.out;have:=HSS.out;have:=HM0.out;omega) (by have h1:=hl1.out (by have:=HB0.out;have:=HSS.out;omega);omega) (by have h1:=hl2.out;have:=HB0.out;have:=HSS.out;omega) (bU _ _) (bU _ _) hn).mono ?_
       rintro ev w3 ⟨⟨v3,rfl⟩,hO3,hg3⟩;rw[hm1.out,←HA3.out]at hO3;go_wp2_with fail
       go_roundw
       case rel=>exact⟨j+1,b0,b1,rfl,rfl,Lib.hid (by have h1:=HA0.out;have h2:=HB0.out;have h3:=HSS.out;rw[Nat.succ_mul];omega),HB1,hlt3,hO3,aN hg hg3⟩
       case measure=>have:=HB0.out;have:=HSS.out;simp[intOf];omega
      ·by_cases hlt4:m0<n
       ·rw[hm2.out]at hO
        go_wp2_with fail
        refine(aDz (n-a0) base b n c a0 m0 n A _ _ _ _ (Nat.le_refl _) hO HAL.out (by have h1:=hl1.out (by have:=HM0.out;omega);have:=HM0.out;omega) (by have h1:=hl2.out;have:=HB0.out;have:=HSS.out;have:=HM0.out;omega) (by have h1:=hl1.out (by have:=HM0.out;omega);omega) (by have h1:=hl2.out;have:=HM0.out;omega) (bU _ _) (bU _ _) hn).mono ?_
        rintro ev w3 ⟨⟨v3,rfl⟩,hO3,hg3⟩;have hall:mx (fun x:Junc=>x.pos) S (j+1) xs=bs (fun x:Junc=>x.pos) (2*S) xs:=wX (fun x:Junc=>x.pos) hS1 xs (by have h1:=HA0.out;have h2:=HB0.out;have h3:=HSS.out;have h4:=HN.out;rw[Nat.succ_mul];omega)
        rw[hm1.out,←HA3.out,hall,←HSS.out]at hO3;clear hall;go_wp2_with fail
        go_roundw
        case rel=>exact⟨S2,rfl,by have:=HSS.out;omega,by have:=HSS.out;omega,hO3,aN hg hg3⟩
        case measure=>have:=HSS.out;simp[intOf];omega
       ·have hall:mx (fun x:Junc=>x.pos) S j xs=bs (fun x:Junc=>x.pos) (2*S) xs:=sI (fun x:Junc=>x.pos) hS1 xs (by have h1:=HA0.out;have h4:=HN.out;omega) (by have h1:=HA0.out;have h3:=HM0.out;have h4:=HN.out;omega)
        rw[hall,←HSS.out]at hO;clear hall;go_wp2_with fail
        go_roundw
        case rel=>exact⟨S2,rfl,by have:=HSS.out;omega,by have:=HSS.out;omega,hO,hg⟩
        case measure=>have:=HSS.out;simp[intOf];omega
    ·have hfin:bs (fun x:Junc=>x.pos) S xs=aK (fun x:Junc=>x.pos) xs:=bs_one (fun x:Junc=>x.pos) hS1 (by rw[←HN.out];omega)
     rw[hfin]at hOS;clear hfin;go_wp2_with fail
     go_end0
     exact⟨⟨_,rfl⟩,hOS,hgS⟩
set_option maxRecDepth 100000 in
theorem aEW (c:Nat) (w:World):Calls Tryz.prog 247 #[.slice none 0 c,.int .i64 0,.int .i64 0,.func (.func 48) #[] #[]] w fun ev w'=>(∃v,ev = .returned v)∧w'=w:=by
 go_enter Tryz.func247,Tryz.ntmps247
 go_wp2_with fail
 go_loopw [8] (fun iv wr=>iv = .int .i64 1∧wr=w) (fun _ _=>0)
 case atStart=>exact⟨rfl,rfl⟩
 case round=>
  obtain⟨rfl,rfl⟩:=hrel;go_wp2_with fail
  go_end0
  exact⟨⟨_,rfl⟩,rfl⟩
set_option maxRecDepth 100000 in
theorem aEA (c:Nat) (w:World):Calls Tryz.prog 190 #[.slice none 0 c,.int .i64 0,.func (.func 48) #[] #[]] w fun ev w'=>(∃v,ev = .returned v)∧w'=w:=by
 go_enter Tryz.func190,Tryz.ntmps190
 go_wp2_with fail
 go_loopw [7,8] (fun av bv wr=>av = .int .i64 0∧bv = .int .i64 20∧wr=w) (fun _ _ _=>0)
 case atStart=>exact⟨rfl,rfl,rfl⟩
 case round=>
  obtain⟨rfl,rfl,rfl⟩:=hrel;go_wp2_with fail
  refine(aEW c _).mono ?_
  rintro ev w2 ⟨⟨v,rfl⟩,rfl⟩;go_wp2_with fail
  go_loopw [6] (fun sv wq=>sv = .int .i64 20∧wq=w2) (fun _ _=>0)
  case atStart=>exact⟨rfl,rfl⟩
  case round=>
   obtain⟨rfl,rfl⟩:=hrel;go_wp2_with fail
   go_end0
   exact⟨⟨_,rfl⟩,rfl⟩
set_option maxRecDepth 100000 in
theorem aCK (base:Nat) (A:Option Addr) (n c:Nat) (xs:List Junc) (w:World) (h:OW jC 3 54 base w A n c xs) (hn:n≤100000) :
  Calls Tryz.prog 128 #[.slice A n c,.func (.func 48) #[] #[]] w fun ev w'=>(∃v,ev = .returned v)∧OW jC 3 54 base w' A n c (aK (fun x:Junc=>x.pos) xs)∧w.grownBy w' (A.map (·.block)):=by
 rcases A with _|a
 ·obtain⟨rfl,rfl,rfl⟩:=h.none_
  go_enter Tryz.func128,Tryz.ntmps128
  go_wp2_with fail
  refine(aEA 0 _).mono ?_
  rintro ev w2 ⟨⟨v,rfl⟩,rfl⟩;go_wp2_with fail
  go_end0
  exact⟨⟨_,rfl⟩,OW.nil_,World.grownBy.refl _ _⟩
 ·rcases h.1.2 with⟨h3,_⟩|⟨g',cap,cur,h3,_⟩
  ·cases h3
  ·have HH:=Lib.hid h
   clear h
   injection h3 with h3 h4 h5
   injection h3 with h3
   subst h3;clear h4 h5;go_enter Tryz.func128,Tryz.ntmps128
   go_wp2_with fail
   refine(aEV base g' n c xs _ HH.out hn).mono ?_
   rintro ev w2 ⟨⟨v,rfl⟩,hO,hg⟩;go_wp2_with fail
   go_end0
   exact⟨⟨_,rfl⟩,hO,hg⟩
end Go.Proofs.YtjlkeoppppfeiaaGreat
