/- Lemmas. -/
import Derived.Test.YtjlkeoppppfeiaaGreatQNoteP
import Derived.Shelf.Strconv.Itoa3
import Derived.Shelf.Strings.Repeat
import Derived.Shelf.Strings.OnBuilder
namespace Go.Proofs.YtjlkeoppppfeiaaGreat
open Go.RowKit Go.Shelf Go.Sort Go.Proofs
theorem zG (a0 a1 a2 a3 a4 a5 a6 a7 a8 a9 b0 b1 b2 b3 b4 b5 b6 b7 b8 b9:Int) (w:World) :
  (Go.binOp .eql 118 (.agg #[.int .i64 a0,.int .i64 a1,.int .i64 a2,.int .i64 a3,.int .i64 a4,.int .i64 a5,.int .i64 a6,.int .i64 a7,.int .i64 a8,.int .i64 a9]) (.agg #[.int .i64 b0,.int .i64 b1,.int .i64 b2,.int .i64 b3,.int .i64 b4,.int .i64 b5,.int .i64 b6,.int .i64 b7,.int .i64 b8,.int .i64 b9])).run Tryz.prog w = .ok (.bool ((a0 == b0)&&(a1 == b1)&&(a2 == b2)&&(a3 == b3)&&(a4 == b4)&&(a5 == b5)&&(a6 == b6)&&(a7 == b7)&&(a8 == b8)&&(a9 == b9))) w:=by
 by_cases h0:a0=b0
 case neg=>
  have g0:(a0 == b0)=false:=by simpa using h0
  go_simp
 subst h0;by_cases h1:a1=b1
 case neg=>
  have g1:(a1 == b1)=false:=by simpa using h1
  go_simp
 subst h1;by_cases h2:a2=b2
 case neg=>
  have g2:(a2 == b2)=false:=by simpa using h2
  go_simp
 subst h2;by_cases h3:a3=b3
 case neg=>
  have g3:(a3 == b3)=false:=by simpa using h3
  go_simp
 subst h3;by_cases h4:a4=b4
 case neg=>
  have g4:(a4 == b4)=false:=by simpa using h4
  go_simp
 subst h4;by_cases h5:a5=b5
 case neg=>
  have g5:(a5 == b5)=false:=by simpa using h5
  go_simp
 subst h5;by_cases h6:a6=b6
 case neg=>
  have g6:(a6 == b6)=false:=by simpa using h6
  go_simp
 subst h6;by_cases h7:a7=b7
 case neg=>
  have g7:(a7 == b7)=false:=by simpa using h7
  go_simp
 subst h7;by_cases h8:a8=b8
 case neg=>
  have g8:(a8 == b8)=false:=by simpa using h8
  go_simp
 subst h8;by_cases h9:a9=b9
 case neg=>
  have g9:(a9 == b9)=false:=by simpa using h9
  go_simp
 subst h9;go_simp
theorem cU (x lo hi:Int) (w:World) :
  Calls Tryz.prog 36 #[.int .i64 x,.int .i64 lo,.int .i64 hi] w fun e w'=>e = .returned (.bool (decide (lo≤x)&&decide (x≤hi)))∧w=w':=by
 by_cases h:lo≤x
 ·have e:(decide (lo≤x)&&decide (x≤hi))=decide (x≤hi):=by simp[h]
  rw[e];clear e;go_enter Tryz.func36,Tryz.ntmps36
  go_wp2
  go_ret
  exact⟨rfl,rfl⟩
 ·have e:(decide (lo≤x)&&decide (x≤hi))=false:=by simp[h]
  rw[e];clear e;go_enter Tryz.func36,Tryz.ntmps36
  go_wp2
  go_ret
  exact⟨rfl,rfl⟩
set_option maxRecDepth 100000 in
set_option maxHeartbeats 8000000 in
theorem nvalid_any (k tu gr lo ch ton me si wa ar:Int) (w:World) :
  Calls Tryz.prog 141 #[.agg #[.int .i64 k,.int .i64 tu,.int .i64 gr,.int .i64 lo,.int .i64 ch,.int .i64 ton,.int .i64 me,.int .i64 si,.int .i64 wa,.int .i64 ar]] w fun e w'=>e = .returned (.bool (aR ⟨k,tu,gr,lo,ch,ton,me,si,wa,ar⟩))∧Below w.heap.size w w':=by
 have hq:=zG;by_cases k1:k=1
 ·subst k1
  by_cases t1:tu = -1∨tu=1
  case neg=>
   have g1:(tu == -1)=false:=by simp;omega
   have g2:(tu == 1)=false:=by simp;omega
   have g3:(tu != -1)=true:=by simp;omega
   have g4:(tu != 1)=true:=by simp;omega
   have e:aR ⟨1,tu,gr,lo,ch,ton,me,si,wa,ar⟩=false:=by
    rw[←Bool.not_eq_true,cZ];omega
   rw[e];clear e;go_enter Tryz.func141,Tryz.ntmps141
   go_wp2_with(go_at_call 131;refine(aG _ _ _ _).mono ?_;rintro e w' ⟨rfl,rfl⟩)
   all_goals go_ret
   all_goals exact⟨rfl,(Below.refl _ _).alloc (Nat.le_refl _) _⟩
  rcases t1 with rfl|rfl
  ·
   cases r1:(decide ((1:Int)≤gr)&&decide (gr≤(9:Int)))
   case false=>
    have pr1:¬((1:Int)≤gr∧gr≤9):=by simpa using r1
    have e:aR ⟨1,(-1),gr,lo,ch,ton,me,si,wa,ar⟩=false:=by
     rw[←Bool.not_eq_true,cZ];omega
    rw[e];clear e;go_enter Tryz.func141,Tryz.ntmps141
    go_wp2_with(go_at_call 131;refine(aG _ _ _ _).mono ?_;rintro e w' ⟨rfl,rfl⟩)
    all_goals go_ret
    all_goals exact⟨rfl,(Below.refl _ _).alloc (Nat.le_refl _) _⟩
   have pr1:(1:Int)≤gr∧gr≤9:=by simpa using r1
   cases r2:(decide ((-1:Int)≤lo)&&decide (lo≤(1:Int)))
   case false=>
    have pr2:¬((-1:Int)≤lo∧lo≤1):=by simpa using r2
    have e:aR ⟨1,(-1),gr,lo,ch,ton,me,si,wa,ar⟩=false:=by
     rw[←Bool.not_eq_true,cZ];omega
    rw[e];clear e;go_enter Tryz.func141,Tryz.ntmps141
    go_wp2_with(go_at_call 131;refine(aG _ _ _ _).mono ?_;rintro e w' ⟨rfl,rfl⟩)
    all_goals go_ret
    all_goals exact⟨rfl,(Below.refl _ _).alloc (Nat.le_refl _) _⟩
   have pr2:(-1:Int)≤lo∧lo≤1:=by simpa using r2
   cases r3:(decide ((-1:Int)≤ch)&&decide (ch≤(1:Int)))
   case false=>
    have pr3:¬((-1:Int)≤ch∧ch≤1):=by simpa using r3
    have e:aR ⟨1,(-1),gr,lo,ch,ton,me,si,wa,ar⟩=false:=by
     rw[←Bool.not_eq_true,cZ];omega
    rw[e];clear e;go_enter Tryz.func141,Tryz.ntmps141
    go_wp2_with(go_at_call 131;refine(aG _ _ _ _).mono ?_;rintro e w' ⟨rfl,rfl⟩)
    all_goals go_ret
    all_goals exact⟨rfl,(Below.refl _ _).alloc (Nat.le_refl _) _⟩
   have pr3:(-1:Int)≤ch∧ch≤1:=by simpa using r3
   have hch:ch=0∨ch = -1∨ch=1:=by omega
   clear r3 pr3;rcases hch with rfl|rfl|rfl
   ·
    by_cases r4:ton=0
    case neg=>
     have g5:(ton == 0)=false:=by simp;omega
     have g6:(ton != 0)=true:=by simp;omega
     have e:aR ⟨1,(-1),gr,lo,0,ton,me,si,wa,ar⟩=false:=by
      rw[←Bool.not_eq_true,cZ];omega
     rw[e];clear e;go_enter Tryz.func141,Tryz.ntmps141
     go_wp2_with(go_at_call 131;refine(aG _ _ _ _).mono ?_;rintro e w' ⟨rfl,rfl⟩)
     all_goals go_ret
     all_goals exact⟨rfl,(Below.refl _ _).alloc (Nat.le_refl _) _⟩
    subst r4;obtain⟨bb,hbb⟩ : ∃bb,bb=aR ⟨1,(-1),gr,lo,0,0,me,si,wa,ar⟩:=⟨_,rfl⟩
    rw[←hbb];go_enter Tryz.func141,Tryz.ntmps141
    go_wp2_with(go_at_call 131;refine(aG _ _ _ _).mono ?_;rintro e w' ⟨rfl,rfl⟩)
    all_goals go_ret
    refine⟨?_,(Below.refl _ _).alloc (Nat.le_refl _) _⟩
    rw[hbb];refine congrArg (fun b=>Ending.returned (Value.bool b)) ?_
    rw[Bool.eq_iff_iff];simp only[Bool.and_eq_true,beq_iff_eq];rw[cZ];omega
   ·
    cases r4:(decide ((gr+1:Int)≤ton)&&decide (ton≤(9:Int)))
    case false=>
     have pr4:¬((gr+1:Int)≤ton∧ton≤9):=by simpa using r4
     have e:aR ⟨1,(-1),gr,lo,(-1),ton,me,si,wa,ar⟩=false:=by
      rw[←Bool.not_eq_true,cZ];omega
     rw[e];clear e;go_enter Tryz.func141,Tryz.ntmps141
     go_wp2_with(go_at_call 131;refine(aG _ _ _ _).mono ?_;rintro e w' ⟨rfl,rfl⟩)
     all_goals go_ret
     all_goals exact⟨rfl,(Below.refl _ _).alloc (Nat.le_refl _) _⟩
    have pr4:(gr+1:Int)≤ton∧ton≤9:=by simpa using r4
    obtain⟨bb,hbb⟩ : ∃bb,bb=aR ⟨1,(-1),gr,lo,(-1),ton,me,si,wa,ar⟩:=⟨_,rfl⟩
    rw[←hbb];go_enter Tryz.func141,Tryz.ntmps141
    go_wp2_with(go_at_call 131;refine(aG _ _ _ _).mono ?_;rintro e w' ⟨rfl,rfl⟩)
    all_goals go_ret
    refine⟨?_,(Below.refl _ _).alloc (Nat.le_refl _) _⟩
    rw[hbb];refine congrArg (fun b=>Ending.returned (Value.bool b)) ?_
    rw[Bool.eq_iff_iff];simp only[Bool.and_eq_true,beq_iff_eq];rw[cZ];omega
   ·
    cases r4:(decide ((1:Int)≤ton)&&decide (ton≤(gr-1:Int)))
    case false=>
     have pr4:¬((1:Int)≤ton∧ton≤gr-1):=by simpa using r4
     have e:aR ⟨1,(-1),gr,lo,1,ton,me,si,wa,ar⟩=false:=by
      rw[←Bool.not_eq_true,cZ];omega
     rw[e];clear e;go_enter Tryz.func141,Tryz.ntmps141
     go_wp2_with(go_at_call 131;refine(aG _ _ _ _).mono ?_;rintro e w' ⟨rfl,rfl⟩)
     all_goals go_ret
     all_goals exact⟨rfl,(Below.refl _ _).alloc (Nat.le_refl _) _⟩
    have pr4:(1:Int)≤ton∧ton≤gr-1:=by simpa using r4
    obtain⟨bb,hbb⟩ : ∃bb,bb=aR ⟨1,(-1),gr,lo,1,ton,me,si,wa,ar⟩:=⟨_,rfl⟩
    rw[←hbb];go_enter Tryz.func141,Tryz.ntmps141
    go_wp2_with(go_at_call 131;refine(aG _ _ _ _).mono ?_;rintro e w' ⟨rfl,rfl⟩)
    all_goals go_ret
    refine⟨?_,(Below.refl _ _).alloc (Nat.le_refl _) _⟩
    rw[hbb];refine congrArg (fun b=>Ending.returned (Value.bool b)) ?_
    rw[Bool.eq_iff_iff];simp only[Bool.and_eq_true,beq_iff_eq];rw[cZ];omega
  ·
   cases r1:(decide ((1:Int)≤gr)&&decide (gr≤(9:Int)))
   case false=>
    have pr1:¬((1:Int)≤gr∧gr≤9):=by simpa using r1
    have e:aR ⟨1,1,gr,lo,ch,ton,me,si,wa,ar⟩=false:=by
     rw[←Bool.not_eq_true,cZ];omega
    rw[e];clear e;go_enter Tryz.func141,Tryz.ntmps141
    go_wp2_with(go_at_call 131;refine(aG _ _ _ _).mono ?_;rintro e w' ⟨rfl,rfl⟩)
    all_goals go_ret
    all_goals exact⟨rfl,(Below.refl _ _).alloc (Nat.le_refl _) _⟩
   have pr1:(1:Int)≤gr∧gr≤9:=by simpa using r1
   cases r2:(decide ((-1:Int)≤lo)&&decide (lo≤(1:Int)))
   case false=>
    have pr2:¬((-1:Int)≤lo∧lo≤1):=by simpa using r2
    have e:aR ⟨1,1,gr,lo,ch,ton,me,si,wa,ar⟩=false:=by
     rw[←Bool.not_eq_true,cZ];omega
    rw[e];clear e;go_enter Tryz.func141,Tryz.ntmps141
    go_wp2_with(go_at_call 131;refine(aG _ _ _ _).mono ?_;rintro e w' ⟨rfl,rfl⟩)
    all_goals go_ret
    all_goals exact⟨rfl,(Below.refl _ _).alloc (Nat.le_refl _) _⟩
   have pr2:(-1:Int)≤lo∧lo≤1:=by simpa using r2
   cases r3:(decide ((-1:Int)≤ch)&&decide (ch≤(1:Int)))
   case false=>
    have pr3:¬((-1:Int)≤ch∧ch≤1):=by simpa using r3
    have e:aR ⟨1,1,gr,lo,ch,ton,me,si,wa,ar⟩=false:=by
     rw[←Bool.not_eq_true,cZ];omega
    rw[e];clear e;go_enter Tryz.func141,Tryz.ntmps141
    go_wp2_with(go_at_call 131;refine(aG _ _ _ _).mono ?_;rintro e w' ⟨rfl,rfl⟩)
    all_goals go_ret
    all_goals exact⟨rfl,(Below.refl _ _).alloc (Nat.le_refl _) _⟩
   have pr3:(-1:Int)≤ch∧ch≤1:=by simpa using r3
   have hch:ch=0∨ch = -1∨ch=1:=by omega
   clear r3 pr3;rcases hch with rfl|rfl|rfl
   ·
    by_cases r4:ton=0
    case neg=>
     have g5:(ton == 0)=false:=by simp;omega
     have g6:(ton != 0)=true:=by simp;omega
     have e:aR ⟨1,1,gr,lo,0,ton,me,si,wa,ar⟩=false:=by
      rw[←Bool.not_eq_true,cZ];omega
     rw[e];clear e;go_enter Tryz.func141,Tryz.ntmps141
     go_wp2_with(go_at_call 131;refine(aG _ _ _ _).mono ?_;rintro e w' ⟨rfl,rfl⟩)
     all_goals go_ret
     all_goals exact⟨rfl,(Below.refl _ _).alloc (Nat.le_refl _) _⟩
    subst r4;obtain⟨bb,hbb⟩ : ∃bb,bb=aR ⟨1,1,gr,lo,0,0,me,si,wa,ar⟩:=⟨_,rfl⟩
    rw[←hbb];go_enter Tryz.func141,Tryz.ntmps141
    go_wp2_with(go_at_call 131;refine(aG _ _ _ _).mono ?_;rintro e w' ⟨rfl,rfl⟩)
    all_goals go_ret
    refine⟨?_,(Below.refl _ _).alloc (Nat.le_refl _) _⟩
    rw[hbb];refine congrArg (fun b=>Ending.returned (Value.bool b)) ?_
    rw[Bool.eq_iff_iff];simp only[Bool.and_eq_true,beq_iff_eq];rw[cZ];omega
   ·
    cases r4:(decide ((gr+1:Int)≤ton)&&decide (ton≤(9:Int)))
    case false=>
     have pr4:¬((gr+1:Int)≤ton∧ton≤9):=by simpa using r4
     have e:aR ⟨1,1,gr,lo,(-1),ton,me,si,wa,ar⟩=false:=by
      rw[←Bool.not_eq_true,cZ];omega
     rw[e];clear e;go_enter Tryz.func141,Tryz.ntmps141
     go_wp2_with(go_at_call 131;refine(aG _ _ _ _).mono ?_;rintro e w' ⟨rfl,rfl⟩)
     all_goals go_ret
     all_goals exact⟨rfl,(Below.refl _ _).alloc (Nat.le_refl _) _⟩
    have pr4:(gr+1:Int)≤ton∧ton≤9:=by simpa using r4
    obtain⟨bb,hbb⟩ : ∃bb,bb=aR ⟨1,1,gr,lo,(-1),ton,me,si,wa,ar⟩:=⟨_,rfl⟩
    rw[←hbb];go_enter Tryz.func141,Tryz.ntmps141
    go_wp2_with(go_at_call 131;refine(aG _ _ _ _).mono ?_;rintro e w' ⟨rfl,rfl⟩)
    all_goals go_ret
    refine⟨?_,(Below.refl _ _).alloc (Nat.le_refl _) _⟩
    rw[hbb];refine congrArg (fun b=>Ending.returned (Value.bool b)) ?_
    rw[Bool.eq_iff_iff];simp only[Bool.and_eq_true,beq_iff_eq];rw[cZ];omega
   ·
    cases r4:(decide ((1:Int)≤ton)&&decide (ton≤(gr-1:Int)))
    case false=>
     have pr4:¬((1:Int)≤ton∧ton≤gr-1):=by simpa using r4
     have e:aR ⟨1,1,gr,lo,1,ton,me,si,wa,ar⟩=false:=by
      rw[←Bool.not_eq_true,cZ];omega
     rw[e];clear e;go_enter Tryz.func141,Tryz.ntmps141
     go_wp2_with(go_at_call 131;refine(aG _ _ _ _).mono ?_;rintro e w' ⟨rfl,rfl⟩)
     all_goals go_ret
     all_goals exact⟨rfl,(Below.refl _ _).alloc (Nat.le_refl _) _⟩
    have pr4:(1:Int)≤ton∧ton≤gr-1:=by simpa using r4
    obtain⟨bb,hbb⟩ : ∃bb,bb=aR ⟨1,1,gr,lo,1,ton,me,si,wa,ar⟩:=⟨_,rfl⟩
    rw[←hbb];go_enter Tryz.func141,Tryz.ntmps141
    go_wp2_with(go_at_call 131;refine(aG _ _ _ _).mono ?_;rintro e w' ⟨rfl,rfl⟩)
    all_goals go_ret
    refine⟨?_,(Below.refl _ _).alloc (Nat.le_refl _) _⟩
    rw[hbb];refine congrArg (fun b=>Ending.returned (Value.bool b)) ?_
    rw[Bool.eq_iff_iff];simp only[Bool.and_eq_true,beq_iff_eq];rw[cZ];omega
 by_cases k2:k=2
 ·subst k2
  cases r1:(decide ((1:Int)≤me)&&decide (me≤(9999:Int)))
  case false=>
   have pr1:¬((1:Int)≤me∧me≤9999):=by simpa using r1
   have e:aR ⟨2,tu,gr,lo,ch,ton,me,si,wa,ar⟩=false:=by
    rw[←Bool.not_eq_true,rO];omega
   rw[e];clear e;go_enter Tryz.func141,Tryz.ntmps141
   go_wp2_with(go_at_call 131;refine(aG _ _ _ _).mono ?_;rintro e w' ⟨rfl,rfl⟩)
   all_goals go_ret
   all_goals exact⟨rfl,(Below.refl _ _).alloc (Nat.le_refl _) _⟩
  have pr1:(1:Int)≤me∧me≤9999:=by simpa using r1
  obtain⟨bb,hbb⟩ : ∃bb,bb=aR ⟨2,tu,gr,lo,ch,ton,me,si,wa,ar⟩:=⟨_,rfl⟩
  rw[←hbb];go_enter Tryz.func141,Tryz.ntmps141
  go_wp2_with(go_at_call 131;refine(aG _ _ _ _).mono ?_;rintro e w' ⟨rfl,rfl⟩)
  all_goals go_ret
  refine⟨?_,(Below.refl _ _).alloc (Nat.le_refl _) _⟩
  rw[hbb];refine congrArg (fun b=>Ending.returned (Value.bool b)) ?_
  rw[Bool.eq_iff_iff];simp only[Bool.and_eq_true,beq_iff_eq];rw[rO];omega
 by_cases k3:k=3
 ·subst k3
  obtain⟨bb,hbb⟩ : ∃bb,bb=aR ⟨3,tu,gr,lo,ch,ton,me,si,wa,ar⟩:=⟨_,rfl⟩
  rw[←hbb];go_enter Tryz.func141,Tryz.ntmps141
  go_wp2_with(go_at_call 131;refine(aG _ _ _ _).mono ?_;rintro e w' ⟨rfl,rfl⟩)
  all_goals go_ret
  refine⟨?_,(Below.refl _ _).alloc (Nat.le_refl _) _⟩
  rw[hbb];refine congrArg (fun b=>Ending.returned (Value.bool b)) ?_
  rw[Bool.eq_iff_iff];simp only[Bool.and_eq_true,beq_iff_eq];rw[aDR];omega
 by_cases k4:k=4
 ·subst k4
  obtain⟨bb,hbb⟩ : ∃bb,bb=aR ⟨4,tu,gr,lo,ch,ton,me,si,wa,ar⟩:=⟨_,rfl⟩
  rw[←hbb];go_enter Tryz.func141,Tryz.ntmps141
  go_wp2_with(go_at_call 131;refine(aG _ _ _ _).mono ?_;rintro e w' ⟨rfl,rfl⟩)
  all_goals go_ret
  refine⟨?_,(Below.refl _ _).alloc (Nat.le_refl _) _⟩
  rw[hbb];refine congrArg (fun b=>Ending.returned (Value.bool b)) ?_
  rw[Bool.eq_iff_iff];simp only[Bool.and_eq_true,beq_iff_eq];rw[aDS];omega
 by_cases k5:k=5
 ·subst k5
  cases r1:(decide ((1:Int)≤si)&&decide (si≤(3:Int)))
  case false=>
   have pr1:¬((1:Int)≤si∧si≤3):=by simpa using r1
   have e:aR ⟨5,tu,gr,lo,ch,ton,me,si,wa,ar⟩=false:=by
    rw[←Bool.not_eq_true,aB9];omega
   rw[e];clear e;go_enter Tryz.func141,Tryz.ntmps141
   go_wp2_with(go_at_call 131;refine(aG _ _ _ _).mono ?_;rintro e w' ⟨rfl,rfl⟩)
   all_goals go_ret
   all_goals exact⟨rfl,(Below.refl _ _).alloc (Nat.le_refl _) _⟩
  have pr1:(1:Int)≤si∧si≤3:=by simpa using r1
  obtain⟨bb,hbb⟩ : ∃bb,bb=aR ⟨5,tu,gr,lo,ch,ton,me,si,wa,ar⟩:=⟨_,rfl⟩
  rw[←hbb];go_enter Tryz.func141,Tryz.ntmps141
  go_wp2_with(go_at_call 131;refine(aG _ _ _ _).mono ?_;rintro e w' ⟨rfl,rfl⟩)
  all_goals go_ret
  refine⟨?_,(Below.refl _ _).alloc (Nat.le_refl _) _⟩
  rw[hbb];refine congrArg (fun b=>Ending.returned (Value.bool b)) ?_
  rw[Bool.eq_iff_iff];simp only[Bool.and_eq_true,beq_iff_eq];rw[aB9];omega
 by_cases k6:k=6
 ·subst k6
  cases r1:(decide ((1:Int)≤si)&&decide (si≤(3:Int)))
  case false=>
   have pr1:¬((1:Int)≤si∧si≤3):=by simpa using r1
   have e:aR ⟨6,tu,gr,lo,ch,ton,me,si,wa,ar⟩=false:=by
    rw[←Bool.not_eq_true,aBa];omega
   rw[e];clear e;go_enter Tryz.func141,Tryz.ntmps141
   go_wp2_with(go_at_call 131;refine(aG _ _ _ _).mono ?_;rintro e w' ⟨rfl,rfl⟩)
   all_goals go_ret
   all_goals exact⟨rfl,(Below.refl _ _).alloc (Nat.le_refl _) _⟩
  have pr1:(1:Int)≤si∧si≤3:=by simpa using r1
  obtain⟨bb,hbb⟩ : ∃bb,bb=aR ⟨6,tu,gr,lo,ch,ton,me,si,wa,ar⟩:=⟨_,rfl⟩
  rw[←hbb];go_enter Tryz.func141,Tryz.ntmps141
  go_wp2_with(go_at_call 131;refine(aG _ _ _ _).mono ?_;rintro e w' ⟨rfl,rfl⟩)
  all_goals go_ret
  refine⟨?_,(Below.refl _ _).alloc (Nat.le_refl _) _⟩
  rw[hbb];refine congrArg (fun b=>Ending.returned (Value.bool b)) ?_
  rw[Bool.eq_iff_iff];simp only[Bool.and_eq_true,beq_iff_eq];rw[aBa];omega
 by_cases k7:k=7
 ·subst k7
  cases r1:(decide ((2:Int)≤ar)&&decide (ar≤(6:Int)))
  case false=>
   have pr1:¬((2:Int)≤ar∧ar≤6):=by simpa using r1
   have e:aR ⟨7,tu,gr,lo,ch,ton,me,si,wa,ar⟩=false:=by
    rw[←Bool.not_eq_true,vF];omega
   rw[e];clear e;go_enter Tryz.func141,Tryz.ntmps141
   go_wp2_with(go_at_call 131;refine(aG _ _ _ _).mono ?_;rintro e w' ⟨rfl,rfl⟩)
   all_goals go_ret
   all_goals exact⟨rfl,(Below.refl _ _).alloc (Nat.le_refl _) _⟩
  have pr1:(2:Int)≤ar∧ar≤6:=by simpa using r1
  cases r2:(decide ((1:Int)≤wa)&&decide (wa≤(ar:Int)))
  case false=>
   have pr2:¬((1:Int)≤wa∧wa≤ar):=by simpa using r2
   have e:aR ⟨7,tu,gr,lo,ch,ton,me,si,wa,ar⟩=false:=by
    rw[←Bool.not_eq_true,vF];omega
   rw[e];clear e;go_enter Tryz.func141,Tryz.ntmps141
   go_wp2_with(go_at_call 131;refine(aG _ _ _ _).mono ?_;rintro e w' ⟨rfl,rfl⟩)
   all_goals go_ret
   all_goals exact⟨rfl,(Below.refl _ _).alloc (Nat.le_refl _) _⟩
  have pr2:(1:Int)≤wa∧wa≤ar:=by simpa using r2
  obtain⟨bb,hbb⟩ : ∃bb,bb=aR ⟨7,tu,gr,lo,ch,ton,me,si,wa,ar⟩:=⟨_,rfl⟩
  rw[←hbb];go_enter Tryz.func141,Tryz.ntmps141
  go_wp2_with(go_at_call 131;refine(aG _ _ _ _).mono ?_;rintro e w' ⟨rfl,rfl⟩)
  all_goals go_ret
  refine⟨?_,(Below.refl _ _).alloc (Nat.le_refl _) _⟩
  rw[hbb];refine congrArg (fun b=>Ending.returned (Value.bool b)) ?_
  rw[Bool.eq_iff_iff];simp only[Bool.and_eq_true,beq_iff_eq];rw[vF];omega
 have m1:¬k=1:=by assumption
 have n1:(k == 1)=false:=by simpa using m1
 have m2:¬k=2:=by assumption
 have n2:(k == 2)=false:=by simpa using m2
 have m3:¬k=3:=by assumption
 have n3:(k == 3)=false:=by simpa using m3
 have m4:¬k=4:=by assumption
 have n4:(k == 4)=false:=by simpa using m4
 have m5:¬k=5:=by assumption
 have n5:(k == 5)=false:=by simpa using m5
 have m6:¬k=6:=by assumption
 have n6:(k == 6)=false:=by simpa using m6
 have m7:¬k=7:=by assumption
 have n7:(k == 7)=false:=by simpa using m7
 rw[aBb tu gr lo ch ton me si wa ar k m1 m2 m3 m4 m5 m6 m7];go_enter Tryz.func141,Tryz.ntmps141
 go_wp2_with(go_at_call 131;refine(aG _ _ _ _).mono ?_;rintro e w' ⟨rfl,rfl⟩)
 all_goals go_ret
 all_goals exact⟨rfl,(Below.refl _ _).alloc (Nat.le_refl _) _⟩
end Go.Proofs.YtjlkeoppppfeiaaGreat
namespace Go.Proofs.YtjlkeoppppfeiaaGreat
open Go.RowKit Go.Shelf Go.Sort Go.Proofs
def nC (n:NoteR):List Value:=[.int .i64 n.k,.int .i64 n.tu,.int .i64 n.gr,.int .i64 n.lo,.int .i64 n.ch,.int .i64 n.ton,.int .i64 n.me,.int .i64 n.si,.int .i64 n.wa,.int .i64 n.ar]
theorem jB (n:NoteR):(nC n).length=10:=rfl
def nA (n:NoteR):Value:=.agg #[.int .i64 n.k,.int .i64 n.tu,.int .i64 n.gr,.int .i64 n.lo,.int .i64 n.ch,.int .i64 n.ton,.int .i64 n.me,.int .i64 n.si,.int .i64 n.wa,.int .i64 n.ar]
theorem NS.at_ {w:World} {B n:Nat} {A:Option Addr} {xs:List NoteR} (h:SL nC 10 w B A n xs) {k:Nat} (hk:k<xs.length):∃b off,A=some ⟨b,off,none⟩∧b<B ∧
  w.cell? ⟨b,off+k*10,none⟩=some (.int .i64 xs[k].k)∧w.cell? ⟨b,off+k*10+1,none⟩=some (.int .i64 xs[k].tu)∧w.cell? ⟨b,off+k*10+2,none⟩=some (.int .i64 xs[k].gr)∧w.cell? ⟨b,off+k*10+3,none⟩=some (.int .i64 xs[k].lo)∧w.cell? ⟨b,off+k*10+4,none⟩=some (.int .i64 xs[k].ch)∧w.cell? ⟨b,off+k*10+5,none⟩=some (.int .i64 xs[k].ton)∧w.cell? ⟨b,off+k*10+6,none⟩=some (.int .i64 xs[k].me)∧w.cell? ⟨b,off+k*10+7,none⟩=some (.int .i64 xs[k].si)∧w.cell? ⟨b,off+k*10+8,none⟩=some (.int .i64 xs[k].wa)∧w.cell? ⟨b,off+k*10+9,none⟩=some (.int .i64 xs[k].ar):=by
 obtain⟨b,off,e,hb,hc⟩:=h.at_ hk;exact⟨b,off,e,hb,hc 0 _ rfl,hc 1 _ rfl,hc 2 _ rfl,hc 3 _ rfl,hc 4 _ rfl,hc 5 _ rfl,hc 6 _ rfl,hc 7 _ rfl,hc 8 _ rfl,hc 9 _ rfl⟩
def tC (l:List UInt8):List Value:=[.string (nbs l)]
theorem pK (l:List UInt8):(tC l).length=1:=rfl
theorem aEO:(Tryz.prog.info? 9).map (fun i=>(i.zero,i.size,i.bytes))=some (some (.string (nbs [])),1,16):=by kernel_rfl
theorem OW.cap {α:Type} {f:α→List Value} {sz:Nat} {e:TypeId} {base:Nat} {w:World} {A:Option Addr} {n c:Nat} {xs:List α} (h:OW f sz e base w A n c xs):n≤c:=by
 rcases h.1.2 with⟨_,h4⟩|⟨b,cap,cur,h3,_,_,hn,_⟩
 ·omega
 ·injection h3 with _ _ h5
  subst h5;exact hn
theorem qK {α:Type} (p:α→Bool) (xs:List α) (k:Nat) (hk:k<xs.length):(xs.take (k+1)).all p=((xs.take k).all p&&p xs[k]):=by
 rw[List.take_add_one,List.getElem?_eq_getElem hk,List.all_append]
 simp
theorem tE {α:Type} (p:α→Bool) (xs:List α) (k:Nat) (hk:k<xs.length) (h:p xs[k]=false):xs.all p=false:=
 List.all_eq_false.2 ⟨xs[k],List.getElem_mem hk,by rw[h];decide⟩
def nLE (xs:List NoteR):Int:=if 2000<xs.length then 4 else if xs.all aR then 0 else 2
def aDT (xs:List NoteR):List UInt8:=Lib.join (xs.map xU) [32]
theorem tF (x:NoteR) (w:World) :
  Calls Tryz.prog 140 #[nA x] w fun e w'=>e = .returned (.bool (!aR x))∧Below w.heap.size w w':=by
 obtain⟨k,tu,gr,lo,ch,ton,me,si,wa,ar⟩:=x;have hb:=(Below.refl w.heap.size w).alloc (Nat.le_refl _) (.cells #[.int .i64 k,.int .i64 tu,.int .i64 gr,.int .i64 lo,.int .i64 ch,.int .i64 ton,.int .i64 me,.int .i64 si,.int .i64 wa,.int .i64 ar] 118);have hv:=nvalid_any k tu gr lo ch ton me si wa ar (w.alloc (.cells #[.int .i64 k,.int .i64 tu,.int .i64 gr,.int .i64 lo,.int .i64 ch,.int .i64 ton,.int .i64 me,.int .i64 si,.int .i64 wa,.int .i64 ar] 118));unfold nA;go_enter Tryz.func140,Tryz.ntmps140
 go_wp2_with fail
 refine hv.mono ?_
 rintro e w' ⟨rfl,hb'⟩;go_wp2_with fail
 go_ret
 exact⟨rfl,hb.trans (hb'.mono (by simp))⟩
theorem aA6 (A:Option Addr) (n c:Nat) (xs:List NoteR) (w:World) (h:SL nC 10 w w.heap.size A n xs) (hn:n≤2000) :
  Calls Tryz.prog 196 #[.slice A n c,.func (.func 140) #[] #[]] w fun e w'=>∃i:Int,e = .returned (.int .i64 i)∧(xs.all aR=true→i = -1)∧(xs.all aR=false→0≤i)∧Below w.heap.size w w':=by
 have HK:=tF;unfold nA at HK;have HL:=Lib.hid h.1;have HS:=Lib.hid h;clear h;go_enter Tryz.func196,Tryz.ntmps196
 go_wp2_with fail
 go_loopw [8] (fun i wr=>∃k:Nat,k≤n∧i = .int .i64 k∧(xs.take k).all aR=true∧Below w.heap.size w wr)
  (fun i _=>n-(intOf i).toNat)
 case atStart=>exact⟨0,Nat.zero_le _,rfl,by simp,Below.refl _ _⟩
 case round=>
  obtain⟨k,hk1,rfl,hal,hbr⟩:=hrel;have HAL:=Lib.hid hal;clear hal;by_cases hlt:k<n
  ·have hkl:k<xs.length:=by rw[←HL.out];exact hlt
   obtain⟨b,off,hA,hbB,c0,c1,c2,c3,c4,c5,c6,c7,c8,c9⟩:=NS.at_ (HS.out.below hbr) hkl;have HX:Hid (aR (xs[k]'hkl)=aR xs[k]):=rfl;have HT:=Lib.hid (qK aR xs k hkl);have HF:=Lib.hid (tE aR xs k hkl)
   generalize xs[k]'hkl=x at *
   subst hA;have gk:decide ((k:Int)<(n:Int))=true:=decide_eq_true (by omega)
   have gkN:decide (k<n)=true:=decide_eq_true hlt;go_wp2_with fail
   refine(HK x _).mono ?_
   rintro e w' ⟨rfl,hb'⟩;cases hv:aR x with
   |false=>
    have hall:=HF.out hv;have HALL:=Lib.hid hall;clear hall hv;go_wp2_with fail
    go_ret
    exact⟨_,rfl,fun hh=>absurd (hh.symm.trans HALL.out) (by decide),fun _=>by omega,hbr.trans (hb'.mono hbr.size)⟩
   |true=>
    have HV:=Lib.hid hv;clear hv;go_wp2_with fail
    go_roundw
    case rel=>exact⟨k+1,by omega,by go_num,by rw[HT.out,HAL.out,HV.out];rfl,hbr.trans (hb'.mono hbr.size)⟩
    case measure=>simp[intOf];omega
  ·obtain rfl:k=n:=by omega
   have gk:decide ((k:Int)<(k:Int))=false:=decide_eq_false (by omega)
   have hall:xs.all aR=true:=by have:=HAL.out;rwa [HL.out,List.take_length]at this
   have HALL:=Lib.hid hall;clear hall;go_wp2_with fail
   go_ret
   exact⟨-1,rfl,fun _=>rfl,fun hh=>absurd (hh.symm.trans HALL.out) (by decide),hbr⟩
theorem xV (A:Option Addr) (n c:Nat) (xs:List NoteR) (w:World) (h:SL nC 10 w w.heap.size A n xs) (hn:n≤2000) :
  Calls Tryz.prog 139 #[.slice A n c,.func (.func 140) #[] #[]] w fun e w'=>e = .returned (.bool (!xs.all aR))∧Below w.heap.size w w':=by
 go_enter Tryz.func139,Tryz.ntmps139
 go_wp2_with fail
 refine(aA6 A n c xs w h hn).mono ?_
 rintro e w' ⟨i,rfl,h1,h2,hb'⟩;cases hall:xs.all aR with
 |true=>
  obtain rfl:=h1 hall;have HALL:=Lib.hid hall;clear h1 h2 hall;go_wp2_with fail
  go_ret
  exact⟨by rw[HALL.out];rfl,hb'⟩
 |false=>
  have h0:=h2 hall;have g0:decide ((0:Int)≤i)=true:=decide_eq_true h0;have HALL:=Lib.hid hall;clear h1 h2 hall h0;go_wp2_with fail
  go_ret
  exact⟨by rw[HALL.out];rfl,hb'⟩
theorem cO (A:Option Addr) (n c:Nat) (xs:List NoteR) (w:World) (h:SL nC 10 w w.heap.size A n xs) :
  Calls Tryz.prog 60 #[.slice A n c] w fun e w'=>e = .returned (.int .i64 (nLE xs))∧Below w.heap.size w w':=by
 have HL:=Lib.hid h.1;by_cases hn:n≤2000
 case neg=>
  have hE:Hid (nLE xs=4):=by show _=_;unfold nLE;rw[if_pos (by rw[←HL.out];omega)]
  have g0:decide ((2000:Int)<(n:Int))=true:=decide_eq_true (by omega)
  clear hn h;go_enter Tryz.func60,Tryz.ntmps60
  go_wp2_with fail
  go_ret
  exact⟨by rw[hE.out];rfl,Below.refl _ _⟩
 have g0:decide ((2000:Int)<(n:Int))=false:=decide_eq_false (by omega)
 have hcall:=xV A n c xs w h hn;clear h;go_enter Tryz.func60,Tryz.ntmps60
 go_wp2_with fail
 refine hcall.mono ?_
 rintro e w' ⟨rfl,hb'⟩;cases hall:xs.all aR with
 |true=>
  have hE:Hid (nLE xs=0):=by show _=_;unfold nLE;rw[if_neg (by rw[←HL.out];omega),hall];rfl
  clear hall hcall;go_wp2_with fail
  go_ret
  exact⟨by rw[hE.out];rfl,hb'⟩
 |false=>
  have hE:Hid (nLE xs=2):=by show _=_;unfold nLE;rw[if_neg (by rw[←HL.out];omega),hall];rfl
  clear hall hcall;go_wp2_with fail
  go_ret
  exact⟨by rw[hE.out];rfl,hb'⟩
end Go.Proofs.YtjlkeoppppfeiaaGreat
