/- Lemmas. -/
import Derived.Test.YtjlkeoppppfeiaaGreatQTSwR
namespace Go.Proofs.YtjlkeoppppfeiaaGreat
open Go.RowKit Go.Shelf Go.Sort Go.Proofs
set_option maxRecDepth 100000 in
set_option maxHeartbeats 4000000 in
theorem aEk (base b n c a m e:Nat) (P U V Q:List ThR) (w:World) (h:OW thC 13 147 base w (some ⟨b,0,none⟩) n c (P++(U++(V++Q)))) (hP:P.length=a) (hm:a+U.length=m) (he:m+V.length=e) (hU:0<U.length) (hV:0<V.length) (hn:n≤100000) :
  Calls Tryz.prog 251 #[.slice (some ⟨b,0,none⟩) n c,.int .i64 a,.int .i64 m,.int .i64 e,.func (.func 57) #[] #[]] w fun ev w'=>(∃v,ev = .returned v)∧OW thC 13 147 base w' (some ⟨b,0,none⟩) n c (P++(V++(U++Q)))∧w.grownBy w' (some b):=by
 have HH:=Lib.hid h;have HN:n=P.length+U.length+V.length+Q.length:=by rw[h.2];simp;omega
 have hme:m≤n:=by omega
 have hen:e≤n:=by omega
 have hma:IntKind.i64.wrap ((m:Int)-(a:Int))=((U.length:Nat):Int):=by rw[show ((m:Int)-(a:Int))=((U.length:Nat):Int) by omega];exact IntWalk.i64_in _ (by omega)
 have hem:IntKind.i64.wrap ((e:Int)-(m:Int))=((V.length:Nat):Int):=by rw[show ((e:Int)-(m:Int))=((V.length:Nat):Int) by omega];exact IntWalk.i64_in _ (by omega)
 have HM:P.length+U.length=m:=by omega
 clear h HN;go_enter Tryz.func251,Tryz.ntmps251
 go_wp2_with fail
 clear hma hem;go_loopw [10,11] (fun iv jv wr=>∃(i j:Nat) (D X Y E:List ThR),iv = .int .i64 i∧jv = .int .i64 j∧X.length=i∧Y.length=j∧0<i∧0<j∧P.length+D.length+i=m∧m+j≤n∧Hid (D++(Y++(X++E))=V++U)∧OW thC 13 147 base wr (some ⟨b,0,none⟩) n c (P++(D++(X++(Y++(E++Q)))))∧w.grownBy wr (some b))
  (fun iv jv _=>(intOf iv).toNat+(intOf jv).toNat)
 case atStart=>exact⟨U.length,V.length,[],U,V,[],rfl,rfl,rfl,rfl,hU,hV,by simp;exact HM,by omega,by show _=_;simp,HH.out,World.grownBy.refl w _⟩
 case round=>
  obtain⟨i,j,D,X,Y,E,rfl,rfl,hX,hY,hi0,hj0,hDm,hjn,HT,hO,hg⟩:=hrel;have hmi:IntKind.i64.wrap ((m:Int)-(i:Int))=((m-i:Nat):Int):=by rw[show ((m:Int)-(i:Int))=((m-i:Nat):Int) by omega];exact IntWalk.i64_in _ (by omega)
  rw[←List.append_assoc]at hO;have hPD:(P++D).length=m-i:=by simp;omega
  by_cases hne:i=j
  ·subst hne
   go_wp2_with fail
   refine(aEF base b n c (m-i) m i (P++D) X [] Y (E++Q) _ (by simpa only[List.append_assoc,List.nil_append]using hO) hPD hX hY (by simp;omega) hn).mono ?_
   rintro ev w2 ⟨⟨v,rfl⟩,hO2,hg2⟩;go_wp2_with fail
   go_end0
   refine⟨⟨_,rfl⟩,?_,aN hg hg2⟩
   have:=HT.out;have e2:P++(V++(U++Q))=(P++D)++(Y++([]++(X++(E++Q)))):=by
    rw[←List.append_assoc V,←this];simp
   rw[e2];exact hO2
  ·have hne':¬(i:Int)=(j:Int):=by omega
   by_cases hgt:j<i
   ·obtain⟨X1,X2,hX12,hX1,hX2⟩ : ∃X1 X2,X=X1++X2∧X1.length=j∧X2.length=i-j:=⟨X.take j,X.drop j,by simp,by simp;omega,by simp;omega⟩
    subst hX12;have hij:IntKind.i64.wrap ((i:Int)-(j:Int))=((i-j:Nat):Int):=by rw[show ((i:Int)-(j:Int))=((i-j:Nat):Int) by omega];exact IntWalk.i64_in _ (by omega)
    go_wp2_with fail
    refine(aEF base b n c (m-i) m j (P++D) X1 X2 Y (E++Q) _ (by simpa only[List.append_assoc]using hO) hPD hX1 hY (by omega) hn).mono ?_
    rintro ev w2 ⟨⟨v,rfl⟩,hO2,hg2⟩;go_wp2_with fail
    go_roundw
    case rel=>
     refine⟨i-j,j,D++Y,X2,X1,E,rfl,rfl,hX2,hX1,by omega,hj0,by simp;omega,by omega,?_,?_,aN hg hg2⟩
     ·show _=_
      rw[←HT.out];simp
     ·have e2:P++(D++Y++(X2++(X1++(E++Q))))=(P++D)++(Y++(X2++(X1++(E++Q)))):=by simp
      rw[e2];exact hO2
    case measure=>simp[intOf];omega
   ·obtain⟨Y1,Y2,hY12,hY1,hY2⟩ : ∃Y1 Y2,Y=Y1++Y2∧Y1.length=j-i∧Y2.length=i:=⟨Y.take (j-i),Y.drop (j-i),by simp,by simp;omega,by simp;omega⟩
    subst hY12;have hji:IntKind.i64.wrap ((j:Int)-(i:Int))=((j-i:Nat):Int):=by rw[show ((j:Int)-(i:Int))=((j-i:Nat):Int) by omega];exact IntWalk.i64_in _ (by omega)
    obtain⟨z,hz⟩ : ∃z:Nat,z=m+j-i:=⟨_,rfl⟩
    have hmj:IntKind.i64.wrap ((m:Int)+(j:Int))=(z:Int)+(i:Int):=by rw[show ((m:Int)+(j:Int))=(z:Int)+(i:Int) by omega];exact IntWalk.i64_in _ (by omega)
    have hmji:IntKind.i64.wrap (z:Int)=(z:Int):=IntWalk.i64_in _ (by omega)
    have HZ:=Lib.hid hz;clear hz;go_wp2_with fail
    refine(aEF base b n c (m-i) z i (P++D) X Y1 Y2 (E++Q) _ (by simpa only[List.append_assoc]using hO) hPD hX hY2 (by have:=HZ.out;omega) hn).mono ?_
    rintro ev w2 ⟨⟨v,rfl⟩,hO2,hg2⟩;go_wp2_with fail
    go_roundw
    case rel=>
     refine⟨i,j-i,D,Y2,Y1,X++E,rfl,rfl,hY2,hY1,hi0,by omega,hDm,by omega,?_,?_,aN hg hg2⟩
     ·show _=_
      rw[←HT.out];simp
     ·have e2:P++(D++(Y2++(Y1++(X++E++Q))))=(P++D)++(Y2++(Y1++(X++(E++Q)))):=by simp
      rw[e2];exact hO2
    case measure=>simp[intOf];omega
end Go.Proofs.YtjlkeoppppfeiaaGreat
