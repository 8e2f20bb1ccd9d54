/- Lemmas. -/
import Derived.Test.YtjlkeoppppfeiaaGreatQMendP
namespace Go.Proofs.YtjlkeoppppfeiaaGreat
open Go.RowKit Go.Shelf Go.Sort Go.Proofs
theorem aDa:(Tryz.prog.info? 3).map (fun i=>(i.zero,i.size,i.bytes))=some (some (.int .i64 0),1,8):=by kernel_rfl
theorem aDb:(Tryz.prog.info? 27).map (fun i=>(i.zero,i.size,i.bytes))=some (some (.slice none 0 0),1,24):=by kernel_rfl
theorem aCf (N:Nat) (hN:N≤1000000) (w:World):(Instr.makeSlice 27 (.int .i64 (N:Int)) (.int .i64 (N:Int))).run Tryz.prog w =
  .ok (.slice (some ⟨w.heap.size,0,none⟩) N N) (w.alloc (.cells (madeCells #[.int .i64 0] N) 3)):=by
 obtain⟨ie,hie,hiz,his,hib⟩:=info_parts aDa;have hr:=run_makeSlice (P:=Tryz.prog) w 27 3 ie (.int .i64 0) Tryz.underlying27 hie hiz .i64 .i64 (N:Int) (N:Int) (by omega) (by omega) (by rw[his];omega) (by rw[hib];omega) (by omega)
 rw[hr,his];have e1:((N:Int)).toNat=N:=by omega
 rw[e1,Nat.mul_one]
 rfl
theorem aCg (N:Nat) (hN:N≤1000000) (w:World):(Instr.makeSlice 195 (.int .i64 (N:Int)) (.int .i64 (N:Int))).run Tryz.prog w =
  .ok (.slice (some ⟨w.heap.size,0,none⟩) N N) (w.alloc (.cells (madeCells #[.slice none 0 0] N) 27)):=by
 obtain⟨ie,hie,hiz,his,hib⟩:=info_parts aDb;have hr:=run_makeSlice (P:=Tryz.prog) w 195 27 ie (.slice none 0 0) Tryz.underlying195 hie hiz .i64 .i64 (N:Int) (N:Int) (by omega) (by omega) (by rw[his];omega) (by rw[hib];omega) (by omega)
 rw[hr,his];have e1:((N:Int)).toNat=N:=by omega
 rw[e1,Nat.mul_one]
 rfl
set_option maxRecDepth 100000 in
theorem aBX:Tryz.prog.elem 27=3:=by kernel_rfl
set_option maxRecDepth 100000 in
theorem aDc (W:World):(sizeOf (Tryz.prog.elem 27)).run Tryz.prog W = .ok 1 W:=by rw[aBX];kernel_rfl
theorem rG (v:Value) (N:Nat):(madeCells #[v] N).size=N:=by simp[madeCells]
theorem aCh (W:World) (cb T L k:Nat) (hk:0<k) (h2:L+k≤T) (H:Nat) (hH:H=L+k):(Instr.slice 27 (.slice (some ⟨cb,0,none⟩) T T) (some (.int .i64 (L:Nat))) (some (.int .i64 (H:Nat))) (some (.int .i64 (H:Nat)))).run Tryz.prog W = .ok (.slice (some ⟨cb,L,none⟩) k k) W:=by
 subst hH;rw[run_slice_lhm (w:=W) (t:=27) (ht:=by rw[aBX];exact Tryz.underlying27) (h0:=by omega) (h1:=by omega) (h2:=by omega) (h3:=by omega)]
 rw[aDc];simp only[Result.andThen,sliced,Int.toNat_natCast];have e1:¬L+k=L:=by omega
 have e2:¬k=0:=by omega
 by_cases e3:L=0
 ·subst e3
  simp[Addr.add,e2]
 ·simp[Addr.add,e2,e3]
def eC (x:EdR):List Value:=[.int .i64 x.at_,.int .i64 x.kd,.int .i64 x.nt.k,.int .i64 x.nt.tu,.int .i64 x.nt.gr,.int .i64 x.nt.lo,.int .i64 x.nt.ch,.int .i64 x.nt.ton,.int .i64 x.nt.me,.int .i64 x.nt.si,.int .i64 x.nt.wa,.int .i64 x.nt.ar]
theorem aDd (x:EdR):(eC x).length=12:=rfl
theorem uZ:(Tryz.prog.info? 164).map (fun i=>(i.zero,i.size,i.bytes))=some (some (.agg #[.int .i64 0,.int .i64 0,.int .i64 0,.int .i64 0,.int .i64 0,.int .i64 0,.int .i64 0,.int .i64 0,.int .i64 0,.int .i64 0,.int .i64 0,.int .i64 0]),12,96):=by kernel_rfl
theorem drop_cons {α:Type} {l:List α} {i:Nat} (h:i<l.length):l.drop i=l[i]::l.drop (i+1):=List.drop_eq_getElem_cons h
theorem aCi {a b:List NoteR} {n:Nat} (h:n=a.length) (j:Nat):cst (a.drop n) (b.drop j)=b.length-j:=by
 rw[List.drop_of_length_le (by omega),fT,List.length_drop]
theorem o8 {a b:List NoteR} {m:Nat} (h:m=b.length) (i:Nat):cst (a.drop i) (b.drop m)=a.length-i:=by
 rw[List.drop_of_length_le (by omega:b.length≤m),dU,List.length_drop]
theorem aDe {a b:List NoteR} (h1:a.length≤300) (h2:b.length≤300) (i j:Nat):cst (a.drop i) (b.drop j)≤600:=by
 have:=xJ _ (a.drop i) (b.drop j) (Nat.le_refl _);rw[List.length_drop,List.length_drop]at this;omega
set_option maxRecDepth 100000 in
set_option maxHeartbeats 8000000 in
theorem o9 (a b:List NoteR) (aa:Option Addr) (n ac:Nat) (ba:Option Addr) (m bc:Nat) (w:World) (ha:SL nC 10 w w.heap.size aa n a) (hb:SL nC 10 w w.heap.size ba m b) (hn:n≤300) (hm:m≤300) :
  Calls Tryz.prog 61 #[.slice aa n ac,.slice ba m bc] w fun e w'=>∃A c,e = .returned (.slice A (mnd 0 a b).length c)∧OW eC 12 164 w.heap.size w' A (mnd 0 a b).length c (mnd 0 a b)∧Below w.heap.size w w':=by
 have hmo:Tryz.prog.follows .mixedOrders=true:=by kernel_rfl
 have hT1:(n+1)*(m+1)≤301*301:=Nat.mul_le_mul (by omega) (by omega)
 obtain⟨T,hT⟩ : ∃T,T=(n+1)*(m+1):=⟨_,rfl⟩
 have hTi:((n:Int)+1)*((m:Int)+1)=(T:Int):=by rw[hT];simp
 have hw1:IntKind.i64.wrap (((n:Int)+1)*((m:Int)+1))=(T:Int):=by rw[hTi];exact IntWalk.i64_in _ (by omega)
 have hmk1:=aCf T (by omega)
 have hmk2:∀w,(Instr.makeSlice 195 (.int .i64 ((n:Int)+1)) (.int .i64 ((n:Int)+1))).run Tryz.prog w = .ok (.slice (some ⟨w.heap.size,0,none⟩) (n+1) (n+1)) (w.alloc (.cells (madeCells #[.slice none 0 0] (n+1)) 27)):=aCg (n+1) (by omega)
 obtain⟨w0,hw0⟩ : ∃w0,w0=(w.alloc (.cells (madeCells #[.int .i64 0] T) 3)).alloc (.cells (madeCells #[.slice none 0 0] (n+1)) 27):=⟨_,rfl⟩
 have hC0:BK w0 w.heap.size 3 (madeCells #[.int .i64 0] T):=by rw[hw0];exact(BK.new w _ _).alloc _
 have hR0:BK w0 (w.heap.size+1) 27 (madeCells #[.slice none 0 0] (n+1)):=by rw[hw0];exact bk2 _ _ _ _ _
 have hB0:Below w.heap.size w w0:=by rw[hw0];exact((Below.refl _ w).alloc (Nat.le_refl _) _).alloc (by simp) _
 have hG0:GR a b n m w0 w.heap.size (w.heap.size+1) (n+1) 0:=⟨⟨_,hC0,by rw[rG,hT],fun r j' h1 h2 h3=>by omega⟩,⟨_,hR0,by rw[rG],fun r h1 h2=>by omega⟩⟩
 have hTb:T≤90601:=by omega
 have HLA:=Lib.hid ha.1;have HLB:=Lib.hid hb.1;have hc600:=aDe (a:=a) (b:=b) (by rw[←HLA.out];exact hn) (by rw[←HLB.out];exact hm)
 have HC6:=Lib.hid hc600;have HG0:=Lib.hid hG0;have HB0:=Lib.hid hB0;have HT:=Lib.hid hT;have HA:=Lib.hid ha;have HB:=Lib.hid hb;clear hT hTi ha hb hT1 hC0 hR0 hB0 hG0 hc600;go_enter Tryz.func61,Tryz.ntmps61
 go_wp2_with fail
 rw[←hw0];clear hw0 hw1 hmk1 hmk2;go_loopw [9,10,120,134] (fun iv _ _ _ wr=>∃i':Nat,i'≤n+1∧iv = .int .i64 ((i':Int)-1)∧GR a b n m wr w.heap.size (w.heap.size+1) i' 0∧Below w.heap.size w wr) (fun iv _ _ _ _=>(intOf iv+1).toNat)
 case atStart=>exact⟨n+1,Nat.le_refl _,by congr 1;omega,HG0.out,HB0.out⟩
 case round=>
  obtain⟨i',hi',rfl,hG,hbr⟩:=hrel;cases i' with
  |succ i=>
   as_aux_lemma=>
    have e:((i+1:Nat):Int)-1=(i:Int):=by omega
    rw[e];clear e;have hin:i≤n:=by omega
    obtain⟨L,hL⟩ : ∃L,L=i*(m+1):=⟨_,rfl⟩
    obtain⟨L2,hL2⟩ : ∃L2,L2=(i+1)*(m+1):=⟨_,rfl⟩
    have hLL:L2=L+(m+1):=by rw[hL2,hL,Nat.succ_mul]
    have hLT:L2≤T:=by rw[hL2,HT.out];exact Nat.mul_le_mul_right _ (by omega)
    have q1:(i:Int)*((m:Int)+1)=(L:Int):=by rw[hL];simp
    have q2:((i:Int)+1)*((m:Int)+1)=(L2:Int):=by rw[hL2];simp
    have hw2:IntKind.i64.wrap ((i:Int)*((m:Int)+1))=(L:Int):=by rw[q1];exact IntWalk.i64_in _ (by omega)
    have hw3:IntKind.i64.wrap (((i:Int)+1)*((m:Int)+1))=(L2:Int):=by rw[q2];exact IntWalk.i64_in _ (by omega)
    have hsl:=fun W=>aCh W w.heap.size T L (m+1) (by omega) (by omega) L2 hLL
    obtain⟨rv,hrv⟩:=hG.row_some hin;have hfr:=(hG.fz i).2;have HL:=Lib.hid hL;have HL2:=Lib.hid hL2;have HG:=Lib.hid hG;have HLL:=Lib.hid hLL;have HLT:=Lib.hid hLT;have HBR:=Lib.hid hbr;have hi0:(0:Int)≤(i:Int):=by omega
    clear hL hL2 hG q1 q2 hLL hLT hbr hi';go_wp2_with fail
    clear hw2 hw3 hsl hrv hfr;obtain⟨w1,hw1⟩ : ∃w1,w1=wr.setCell ⟨w.heap.size+1,i,none⟩ (.slice (some ⟨w.heap.size,L,none⟩) (m+1) (m+1)):=⟨_,rfl⟩
    have hG1:GR a b n m w1 w.heap.size (w.heap.size+1) i (m+1):=by rw[hw1,HL.out];exact HG.out.putRow (by omega) hin
    have hb1:Below w.heap.size w w1:=by rw[hw1];exact HBR.out.setCell (p:=⟨w.heap.size+1,i,none⟩) (by simp) _
    rw[←hw1];clear hw1 HG HBR;have HG1:=Lib.hid hG1;have HB1:=Lib.hid hb1;clear hG1 hb1;go_loopw [10,120,134] (fun jv _ _ wq=>∃j':Nat,j'≤m+1∧jv = .int .i64 ((j':Int)-1)∧GR a b n m wq w.heap.size (w.heap.size+1) i j'∧Below w.heap.size w wq) (fun jv _ _ _=>(intOf jv+1).toNat)
    case atStart=>exact⟨m+1,Nat.le_refl _,by congr 1;omega,HG1.out,HB1.out⟩
    case round=>
     obtain⟨j',hj',rfl,hG,hbr⟩:=hrel;cases j' with
     |zero=>
      have e:((0:Nat):Int)-1 = -1:=by omega
      rw[e];clear e;go_wp2_with fail
      go_roundw
      case rel=>exact⟨i,by omega,by go_num,hG,hbr⟩
      case measure=>simp[intOf]
     |succ j=>
      have e:((j+1:Nat):Int)-1=(j:Int):=by omega
      rw[e];clear e;have hjm:j≤m:=by omega
      have hj0:(0:Int)≤(j:Int):=by omega
      have hj1:(j:Int)<(m:Int)+1:=by omega
      have r0:=hG.row hin (Nat.le_refl i);have f0:=fun k=>(hG.fz k).1
      obtain⟨cv,hcv⟩:=hG.some_ hin hjm;rw[←HL.out]at r0 hcv;have HG:=Lib.hid hG;have HBR:=Lib.hid hbr;have hput:=fun(v:Int) (hv:v=(cst (a.drop i) (b.drop j):Nat))=>hG.put (by omega) hin hjm v hv
      rw[←HL.out]at hput;have HPUT:=Lib.hid hput;have hbelow:=fun u:Value=>hbr.setCell (p:=⟨w.heap.size,L+j,none⟩) (by simp) u
      have HBEL:=Lib.hid hbelow;clear hG hbr hput hbelow hj';by_cases hni:i=n
      ·have g1:((i:Int) == (n:Int))=true:=by simp;omega
       have g1N:(i == n)=true:=by simp;omega
       have hval:(m:Int)-(j:Int)=(cst (a.drop i) (b.drop j):Nat):=by rw[hni,aCi HLA.out,←HLB.out];omega
       have HV:=Lib.hid hval;clear hval hni;go_wp2_with fail
       go_roundw
       case rel=>exact⟨j,by omega,by go_num,HPUT.out _ HV.out,HBEL.out _⟩
       case measure=>simp[intOf]
      ·have g1:((i:Int) == (n:Int))=false:=by simp;omega
       have g1N:(i == n)=false:=by simp;omega
       by_cases hmj:j=m
       ·have g2:((j:Int) == (m:Int))=true:=by simp;omega
        have g2N:(j == m)=true:=by simp;omega
        have hval:(n:Int)-(i:Int)=(cst (a.drop i) (b.drop j):Nat):=by rw[hmj,o8 HLB.out,←HLA.out];omega
        have HV:=Lib.hid hval;clear hval hmj hni;go_wp2_with fail
        go_roundw
        case rel=>exact⟨j,by omega,by go_num,HPUT.out _ HV.out,HBEL.out _⟩
        case measure=>simp[intOf]
       ·have g2:((j:Int) == (m:Int))=false:=by simp;omega
        have g2N:(j == m)=false:=by simp;omega
        have hin2:i+1≤n:=by omega
        have hjm2:j+1≤m:=by omega
        have r1:=HG.out.row hin2 (by omega)
        have c11:=HG.out.at_ (r:=i+1) (j':=j+1) hin2 hjm2 (.inl (by omega))
        have c10:=HG.out.at_ (r:=i+1) (j':=j) hin2 hjm (.inl (by omega))
        have c01:=HG.out.at_ (r:=i) (j':=j+1) hin hjm2 (.inr ⟨rfl,by omega⟩)
        rw[←HL2.out]at r1 c11 c10;rw[←HL.out]at c01;have k1:=HC6.out (i+1) (j+1);have k2:=HC6.out (i+1) j;have k3:=HC6.out i (j+1);have hia:i<a.length:=by rw[←HLA.out];omega
        have hjb:j<b.length:=by rw[←HLB.out];omega
        have HCM:Hid (cst (a.drop i) (b.drop j)=if a[i]=b[j] then min (1+min (cst (a.drop (i+1)) (b.drop (j+1))) (min (cst (a.drop (i+1)) (b.drop j)) (cst (a.drop i) (b.drop (j+1))))) (cst (a.drop (i+1)) (b.drop (j+1))) else 1+min (cst (a.drop (i+1)) (b.drop (j+1))) (min (cst (a.drop (i+1)) (b.drop j)) (cst (a.drop i) (b.drop (j+1))))):=by
         show _=_
         rw[drop_cons hia,drop_cons hjb];exact aCe _ _ _ _
        obtain⟨x11,hx11⟩ : ∃x,cst (a.drop (i+1)) (b.drop (j+1))=x:=⟨_,rfl⟩
        rw[hx11]at c11 k1 HCM;have HX11:=Lib.hid hx11;clear hx11
        generalize cst (a.drop (i+1)) (b.drop j)=x10 at *
        generalize cst (a.drop i) (b.drop (j+1))=x01 at *
        obtain⟨M1,hM1⟩ : ∃M1:Nat,M1=min x11 x10:=⟨_,rfl⟩
        obtain⟨M,hM⟩ : ∃M:Nat,M=min M1 x01:=⟨_,rfl⟩
        have hMM:min x11 (min x10 x01)=M:=by rw[hM,hM1];omega
        have t1:(if (x10:Int)<(x11:Int) then (x10:Int) else (x11:Int))=(M1:Int):=by rw[hM1];split<;>omega
        have t1N:(if x10<x11 then (x10:Int) else (x11:Int))=(M1:Int):=by rw[hM1];split<;>omega
        have t2:(if (x01:Int)<(M1:Int) then (x01:Int) else (M1:Int))=(M:Int):=by rw[hM];split<;>omega
        have t2N:(if x01<M1 then (x01:Int) else (M1:Int))=(M:Int):=by rw[hM];split<;>omega
        have hM600:M≤600:=by omega
        rw[hMM]at HCM;clear hM hM1 hMM k1 k2 k3;have r0':=fun d os=>cell_regrown r0 d os
        have r1':=fun d os=>cell_regrown r1 d os
        have c11':=fun d os=>cell_regrown c11 d os
        have c10':=fun d os=>cell_regrown c10 d os
        have c01':=fun d os=>cell_regrown c01 d os
        have u1:IntKind.i64.wrap ((i:Int)+1)=(i:Int)+1:=IntWalk.i64_in _ (by omega)
        have u2:IntKind.i64.wrap ((j:Int)+1)=(j:Int)+1:=IntWalk.i64_in _ (by omega)
        have u3:IntKind.i64.wrap (1+(M:Int))=1+(M:Int):=IntWalk.i64_in _ (by omega)
        have b1:(i:Int)<(n:Int)+1:=by omega
        have b9:i<n:=by omega
        have b10:j<m:=by omega
        have b2:(i:Int)+1<(n:Int)+1:=by omega
        have b3:(j:Int)<(m:Int)+1:=by omega
        have b4:(j:Int)+1<(m:Int)+1:=by omega
        have b5:((i:Int)+1).toNat=i+1:=by omega
        have b6:((j:Int)+1).toNat=j+1:=by omega
        have b7:(0:Int)≤(i:Int)+1:=by omega
        have b8:(0:Int)≤(j:Int)+1:=by omega
        go_wp2_with fail
        refine dW 32 hmo (by kernel_rfl) ?_
        simp only[List.take_succ_cons,List.take_zero,List.drop_succ_cons,List.drop_zero]
        repeat (quiet_step (fail))
        refine wpQuiet_nil ?_
        intro w2 hbw;have hb2:Below w.heap.size w w2:=HBR.out.trans (hbw.mono HBR.out.size);have hG2:=HG.out.below hbw;obtain⟨cv2,hcv2⟩:=hG2.some_ hin hjm;have f2:=fun k=>(hG2.fz k).1
        obtain⟨hG3',h3c'⟩:=hG2.scr (by omega) hin hjm (.int .i64 (1+(M:Int)))
        have hput:=fun(v:Int) (hv:v=(cst (a.drop i) (b.drop j):Nat))=>hG2.put (by omega) hin hjm v hv
        rw[←HL.out]at hcv2 hG3' h3c' hput;have hbel2:=fun u:Value=>hb2.setCell (p:=⟨w.heap.size,L+j,none⟩) (by simp) u
        have HPUT2:=Lib.hid hput;have HBEL2:=Lib.hid hbel2;have HG3':=Lib.hid hG3';have H3C:=Lib.hid h3c';clear r0 r1 c11 c10 c01 r0' r1' c11' c10' c01' t1 t1N t2 t2N f0 hcv hbw hb2 hG2 hG3' h3c' hput hbel2;go_wp2_with fail
        clear hcv2 f2;obtain⟨w3,hw3⟩ : ∃w3,w3=w2.setCell ⟨w.heap.size,L+j,none⟩ (.int .i64 (1+(M:Int))):=⟨_,rfl⟩
        have hb3:Below w.heap.size w w3:=by rw[hw3];exact HBEL2.out _
        have hG3:GR a b n m w3 w.heap.size (w.heap.size+1) i (j+1):=by rw[hw3];exact HG3'.out
        have h3c:w3.cell? ⟨w.heap.size,L+j,none⟩=some (.int .i64 (1+(M:Int))):=by rw[hw3];exact H3C.out
        have HP3:Hid (∀v:Int,v=(cst (a.drop i) (b.drop j):Nat)→v=1+(M:Int)→GR a b n m w3 w.heap.size (w.heap.size+1) i j):=fun v hv hv2=>by rw[hw3,←hv2];exact HPUT2.out v hv
        rw[←hw3];clear hw3;obtain⟨xb,xo,hxa,hxB,c0',c1',c2',c3',c4',c5',c6',c7',c8',c9'⟩:=NS.at_ (HA.out.below hb3) hia;obtain⟨yb,yo,hya,hyB,d0',d1',d2',d3',d4',d5',d6',d7',d8',d9'⟩:=NS.at_ (HB.out.below hb3) hjb;have HIA:=Lib.hid hia;have HJB:=Lib.hid hjb
        generalize a[i]'hia=x at *
        generalize b[j]'hjb=y at *
        have hia0:(i:Int)<(n:Int):=by omega
        have hjb0:(j:Int)<(m:Int):=by omega
        have HG3:=Lib.hid hG3;have HB3:=Lib.hid hb3;have H3C':=Lib.hid h3c;clear hG3 hb3 h3c hia hjb;rw[hxa,hya];by_cases exy:x=y
        ·subst exy
         have HCV:Hid (cst (a.drop i) (b.drop j)=min (1+M) x11):=by have:=HCM.out;rwa [if_pos rfl]at this
         clear HCM;go_wp2_with fail
         go_quiet(fail)
         go_wp2_with fail
         rw[←hxa,←hya];obtain⟨w4,hw4⟩ : ∃w4,w4=w3.drewN nq:=⟨_,rfl⟩
         have hb4:Below w.heap.size w w4:=by rw[hw4];exact aD HB3.out _
         have hG4:GR a b n m w4 w.heap.size (w.heap.size+1) i (j+1):=by rw[hw4];exact HG3.out.same rfl rfl
         have h4c:w4.cell? ⟨w.heap.size,L+j,none⟩=some (.int .i64 (1+(M:Int))):=by rw[hw4];exact H3C'.out
         rw[←hw4];clear hw4 HG3 HB3 H3C' HP3 hxa hya c0' c1' c2' c3' c4' c5' c6' c7' c8' c9' d0' d1' d2' d3' d4' d5' d6' d7' d8' d9';have r0:=hG4.row hin (Nat.le_refl i);have r1:=hG4.row hin2 (by omega)
         have c11:=hG4.at_ (r:=i+1) (j':=j+1) hin2 hjm2 (.inl (by omega))
         rw[←HL2.out]at r1 c11;rw[←HL.out]at r0;rw[HX11.out]at c11;have HG4:=Lib.hid hG4;have HB4:=Lib.hid hb4;clear hG4 hb4;have HV:Hid (min (1+(M:Int)) (x11:Int)=(cst (a.drop i) (b.drop j):Nat)):=by show _=_;rw[HCV.out];omega
         have r0':=fun d os=>cell_regrown r0 d os
         have r1':=fun d os=>cell_regrown r1 d os
         have c11':=fun d os=>cell_regrown c11 d os
         have c01':=fun d os=>cell_regrown h4c d os
         refine dW 22 hmo (by kernel_rfl) ?_
         simp only[List.take_succ_cons,List.take_zero,List.drop_succ_cons,List.drop_zero]
         repeat (quiet_step (fail))
         refine wpQuiet_nil ?_
         intro w5 hbw;have hb5:Below w.heap.size w w5:=HB4.out.trans (hbw.mono HB4.out.size);have hG5:=HG4.out.below hbw;obtain⟨cv2,hcv2⟩:=hG5.some_ hin hjm;have f2:=fun k=>(hG5.fz k).1
         have hput:=hG5.put (by omega) hin hjm _ HV.out
         rw[←HL.out]at hcv2 hput;have hbel2:=hb5.setCell (p:=⟨w.heap.size,L+j,none⟩) (by simp) (.int .i64 (min (1+(M:Int)) (x11:Int)))
         have HPUT2:=Lib.hid hput;have HBEL2:=Lib.hid hbel2;clear r0 r1 c11 r0' r1' c11' c01' h4c hbw hb5 hG5 hput hbel2;go_wp2_with fail
         go_roundw
         case rel=>exact⟨j,by omega,by go_num,HPUT2.out,HBEL2.out⟩
         case measure=>simp[intOf]
        ·have HCV:Hid (cst (a.drop i) (b.drop j)=1+M):=by have:=HCM.out;rwa [if_neg exy]at this
         have hq:∀w,(Go.binOp .eql 118 (.agg #[.int .i64 x.k,.int .i64 x.tu,.int .i64 x.gr,.int .i64 x.lo,.int .i64 x.ch,.int .i64 x.ton,.int .i64 x.me,.int .i64 x.si,.int .i64 x.wa,.int .i64 x.ar]) (.agg #[.int .i64 y.k,.int .i64 y.tu,.int .i64 y.gr,.int .i64 y.lo,.int .i64 y.ch,.int .i64 y.ton,.int .i64 y.me,.int .i64 y.si,.int .i64 y.wa,.int .i64 y.ar])).run Tryz.prog w = .ok (.bool false) w:=fun w=>by rw[eqN,decide_eq_false exy]
         clear HCM;go_wp2_with fail
         go_quiet(fail)
         go_wp2_with fail
         rw[←hxa,←hya];go_roundw
         case rel=>exact⟨j,by omega,by go_num,(HP3.out (1+(M:Int)) (by rw[HCV.out];omega) rfl).same rfl rfl,aD HB3.out _⟩
         case measure=>simp[intOf]
  |zero=>
   have e:((0:Nat):Int)-1 = -1:=by omega
   rw[e];clear e hi';have HG:=Lib.hid hG;have HBR:=Lib.hid hbr;clear hG hbr;go_wp2_with fail
   go_loopw [11,12,13,14,175,213,250] (fun ov iv jv _ _ _ _ wq=>∃(i j:Nat) (acc:List EdR) (A:Option Addr) (c:Nat),i≤n∧j≤m∧iv = .int .i64 (i:Nat)∧jv = .int .i64 (j:Nat)∧ov = .slice A acc.length c∧acc.length≤i+j∧mnd 0 a b=acc++mnd (i:Nat) (a.drop i) (b.drop j)∧OW eC 12 164 w.heap.size wq A acc.length c acc∧GR a b n m wq w.heap.size (w.heap.size+1) 0 0∧Below w.heap.size w wq) (fun _ iv jv _ _ _ _ _=>(n-(intOf iv).toNat)+(m-(intOf jv).toNat))
   case atStart=>exact⟨0,0,[],none,0,Nat.zero_le _,Nat.zero_le _,rfl,rfl,rfl,Nat.zero_le _,rfl,OW.nil_,HG.out,HBR.out⟩
   case round=>
    obtain⟨i,j,acc,A,c,hin,hjm,rfl,rfl,rfl,hal,hmn,hO,hG,hbr⟩:=hrel;have hlt:=hG.lt.1;have hcap:=hO.cap;by_cases hi:i<n
    ·have r0:=hG.row (r:=i) hin (Nat.zero_le _)
     have r1:=hG.row (r:=i+1) (by omega) (Nat.zero_le _)
     have c00:=hG.at_ (r:=i) (j':=j) hin hjm (by omega)
     have c10:=hG.at_ (r:=i+1) (j':=j) (by omega) hjm (by omega)
     obtain⟨L,hL⟩ : ∃L,i*(m+1)=L:=⟨_,rfl⟩
     obtain⟨L2,hL2⟩ : ∃L2,(i+1)*(m+1)=L2:=⟨_,rfl⟩
     rw[hL]at r0 c00;rw[hL2]at r1 c10;obtain⟨C,hC⟩ : ∃C,cst (a.drop i) (b.drop j)=C:=⟨_,rfl⟩
     obtain⟨x10,hx10⟩ : ∃C,cst (a.drop (i+1)) (b.drop j)=C:=⟨_,rfl⟩
     have hC6:=HC6.out i j;have h106:=HC6.out (i+1) j;have hia:i<a.length:=by rw[←HLA.out];exact hi
     have b1:(i:Int)<(n:Int)+1:=by omega
     have b2:(i:Int)+1<(n:Int)+1:=by omega
     have b3:(j:Int)<(m:Int)+1:=by omega
     have b5:((i:Int)+1).toNat=i+1:=by omega
     have b7:(0:Int)≤(i:Int)+1:=by omega
     have u1:IntKind.i64.wrap ((i:Int)+1)=(i:Int)+1:=IntWalk.i64_in _ (by omega)
     rw[hC]at c00 hC6;rw[hx10]at c10 h106;by_cases hj:j<m
     ·have c11:=hG.at_ (r:=i+1) (j':=j+1) (by omega) (by omega) (by omega)
      rw[hL2]at c11;obtain⟨x11,hx11⟩ : ∃C,cst (a.drop (i+1)) (b.drop (j+1))=C:=⟨_,rfl⟩
      have h116:=HC6.out (i+1) (j+1);have hjb:j<b.length:=by rw[←HLB.out];exact hj
      obtain⟨xb,xo,hxa,hxB,c0',c1',c2',c3',c4',c5',c6',c7',c8',c9'⟩:=NS.at_ (HA.out.below hbr) hia;obtain⟨yb,yo,hya,hyB,d0',d1',d2',d3',d4',d5',d6',d7',d8',d9'⟩:=NS.at_ (HB.out.below hbr) hjb;have HD:Hid (mnd (i:Nat) (a.drop i) (b.drop j)=if a[i]=b[j]∧x11=C then mnd ((i+1:Nat):Int) (a.drop (i+1)) (b.drop (j+1))
        else if x11+1=C then ⟨(i:Nat),3,b[j]⟩::mnd ((i+1:Nat):Int) (a.drop (i+1)) (b.drop (j+1))
        else if x10+1=C then ⟨(i:Nat),2,⟨0,0,0,0,0,0,0,0,0,0⟩⟩::mnd ((i+1:Nat):Int) (a.drop (i+1)) (b.drop j)
        else ⟨(i:Nat),1,b[j]⟩::mnd (i:Nat) (a.drop i) (b.drop (j+1))):=by
       show _=_
       have h1:=drop_cons hia;have h2:=drop_cons hjb;rw[h1,h2,iX,←h1,←h2,hC,hx11,hx10]
       rfl
      have HXY:Hid (a[i]=b[j]→x11=C):=by
       intro q;rw[drop_cons hia,drop_cons hjb,cst_cons,if_pos q,hx11]at hC;exact hC
      rw[hx11]at c11 h116
      generalize a[i]'hia=x at *
      generalize b[j]'hjb=y at *
      have b4:(j:Int)+1<(m:Int)+1:=by omega
      have b6:((j:Int)+1).toNat=j+1:=by omega
      have b8:(0:Int)≤(j:Int)+1:=by omega
      have u2:IntKind.i64.wrap ((j:Int)+1)=(j:Int)+1:=IntWalk.i64_in _ (by omega)
      have u3:IntKind.i64.wrap ((C:Int)-1)=(C:Int)-1:=IntWalk.i64_in _ (by omega)
      have hbi:(i:Int)<(n:Int):=by omega
      have hbj:(j:Int)<(m:Int):=by omega
      have HMN:=Lib.hid hmn;have HO:=Lib.hid hO;have HG2:=Lib.hid hG;have HBR2:=Lib.hid hbr;have HAL:=Lib.hid hal;clear hmn hO hG hbr hL hL2 hC hx10 hx11 hia hjb hal hcap;by_cases hA:x=y∧x11=C
      ·have hmn2:mnd 0 a b=acc++mnd ((i+1:Nat):Int) (a.drop (i+1)) (b.drop (j+1)):=by rw[HMN.out,HD.out,if_pos hA]
       have HM2:=Lib.hid hmn2;obtain⟨exy,exC⟩:=hA;subst exy exC;clear hmn2;have g1:((x11:Int) == (x11:Int))=true:=by simp
       rw[hxa,hya];go_wp2_with fail
       go_quiet(fail)
       go_wp2_with fail
       go_roundw
       case rel=>exact⟨i+1,j+1,acc,A,c,by omega,by omega,by go_num,by go_num,rfl,by have:=HAL.out;omega,HM2.out,HO.out.drewN _,HG2.out.same rfl rfl,aD HBR2.out _⟩
       case measure=>simp[intOf];omega
      ·have hD2:=HD.out
       rw[if_neg hA]at hD2;have gT:∀w:World,True:=fun _=>trivial
       have hal7:acc.length≤700:=by have:=HAL.out;omega
       have exy:x≠y:=fun q=>hA ⟨q,HXY.out q⟩
       have hq:∀w,(Go.binOp .eql 118 (.agg #[.int .i64 x.k,.int .i64 x.tu,.int .i64 x.gr,.int .i64 x.lo,.int .i64 x.ch,.int .i64 x.ton,.int .i64 x.me,.int .i64 x.si,.int .i64 x.wa,.int .i64 x.ar]) (.agg #[.int .i64 y.k,.int .i64 y.tu,.int .i64 y.gr,.int .i64 y.lo,.int .i64 y.ch,.int .i64 y.ton,.int .i64 y.me,.int .i64 y.si,.int .i64 y.wa,.int .i64 y.ar])).run Tryz.prog w = .ok (.bool false) w:=fun w=>by rw[eqN,decide_eq_false exy]
       rw[hxa,hya];clear HD hA;go_wp2_with fail
       go_quiet(fail)
       obtain⟨w1,hw1⟩ : ∃w1,w1=wr.drewN nq:=⟨_,rfl⟩
       have HB1:Hid (Below w.heap.size w w1):=by show Below _ _ _;rw[hw1];exact aD HBR2.out _
       have HG1:Hid (GR a b n m w1 w.heap.size (w.heap.size+1) 0 0):=by show GR _ _ _ _ _ _ _ _ _;rw[hw1];exact HG2.out.same rfl rfl
       have HO1:Hid (OW eC 12 164 w.heap.size w1 A acc.length c acc):=by show OW _ _ _ _ _ _ _ _ _;rw[hw1];exact HO.out.drewN _
       have hlt1:=HG1.out.lt.1;have d0:w1.cell? ⟨yb,yo+j*10,none⟩=some (.int .i64 y.k):=by rw[hw1];exact d0'
       have d1:w1.cell? ⟨yb,yo+j*10+1,none⟩=some (.int .i64 y.tu):=by rw[hw1];exact d1'
       have d2:w1.cell? ⟨yb,yo+j*10+2,none⟩=some (.int .i64 y.gr):=by rw[hw1];exact d2'
       have d3:w1.cell? ⟨yb,yo+j*10+3,none⟩=some (.int .i64 y.lo):=by rw[hw1];exact d3'
       have d4:w1.cell? ⟨yb,yo+j*10+4,none⟩=some (.int .i64 y.ch):=by rw[hw1];exact d4'
       have d5:w1.cell? ⟨yb,yo+j*10+5,none⟩=some (.int .i64 y.ton):=by rw[hw1];exact d5'
       have d6:w1.cell? ⟨yb,yo+j*10+6,none⟩=some (.int .i64 y.me):=by rw[hw1];exact d6'
       have d7:w1.cell? ⟨yb,yo+j*10+7,none⟩=some (.int .i64 y.si):=by rw[hw1];exact d7'
       have d8:w1.cell? ⟨yb,yo+j*10+8,none⟩=some (.int .i64 y.wa):=by rw[hw1];exact d8'
       have d9:w1.cell? ⟨yb,yo+j*10+9,none⟩=some (.int .i64 y.ar):=by rw[hw1];exact d9'
       have c11:w1.cell? ⟨w.heap.size,L2+(j+1),none⟩=some (.int .i64 (x11:Int)):=by rw[hw1];exact c11
       have c10:w1.cell? ⟨w.heap.size,L2+j,none⟩=some (.int .i64 (x10:Int)):=by rw[hw1];exact c10
       have r1:w1.cell? ⟨w.heap.size+1,i+1,none⟩=some (.slice (some ⟨w.heap.size,L2,none⟩) (m+1) (m+1)):=by rw[hw1];exact r1
       rw[←hw1];clear hw1 HO HG2 HBR2 hq r0 c00 c0' c1' c2' c3' c4' c5' c6' c7' c8' c9' d0' d1' d2' d3' d4' d5' d6' d7' d8' d9';by_cases hB:x11+1=C
       ·rw[if_pos hB]at hD2
        have HM2:Hid (mnd 0 a b=(acc++[⟨(i:Nat),3,y⟩])++mnd ((i+1:Nat):Int) (a.drop (i+1)) (b.drop (j+1))):=by show _=_;rw[HMN.out,hD2,List.append_assoc];rfl
        have g2:((x11:Int) == (C:Int)-1)=true:=by simp;omega
        clear hD2;go_wp2_with(at_builtin;refine aT rfl _ _ 45 rfl w.heap.size 164 _ 12 96 Tryz.underlying45 uZ rfl (by decide) eC A acc.length c _ rfl (HO1.out.alloc _) ⟨(i:Nat),3,y⟩ #[.int .i64 (i:Nat),.int .i64 3,.int .i64 y.k,.int .i64 y.tu,.int .i64 y.gr,.int .i64 y.lo,.int .i64 y.ch,.int .i64 y.ton,.int .i64 y.me,.int .i64 y.si,.int .i64 y.wa,.int .i64 y.ar] rfl rfl 164 w1.heap.size rfl (BK.new w1 _ _) (by simp[eC,Value.oneCell']) (by omega) (by omega) (by simp;omega) ?_;intro g' c9 w8 hap;have HAP:=Lib.hid hap;clear hap)
        have hbN:=(HB1.out.alloc (by omega) (.cells #[.int .i64 (i:Nat),.int .i64 3,.int .i64 y.k,.int .i64 y.tu,.int .i64 y.gr,.int .i64 y.lo,.int .i64 y.ch,.int .i64 y.ton,.int .i64 y.me,.int .i64 y.si,.int .i64 y.wa,.int .i64 y.ar] 164)).trans HAP.out.bel
        have hGN:=HG1.out.app HO1.out HAP.out;go_roundw
        case rel=>exact⟨i+1,j+1,acc++[⟨(i:Nat),3,y⟩],some ⟨g',0,none⟩,c9,by omega,by omega,by go_num,by go_num,by simp,by rw[List.length_append,List.length_singleton];have:=HAL.out;omega,HM2.out,by rw[List.length_append];exact HAP.out.own,hGN,hbN⟩
        case measure=>simp[intOf];omega
       ·rw[if_neg hB]at hD2
        have g2:((x11:Int) == (C:Int)-1)=false:=by simp;omega
        by_cases hC':x10+1=C
        ·rw[if_pos hC']at hD2
         have HM2:Hid (mnd 0 a b=(acc++[⟨(i:Nat),2,⟨0,0,0,0,0,0,0,0,0,0⟩⟩])++mnd ((i+1:Nat):Int) (a.drop (i+1)) (b.drop j)):=by show _=_;rw[HMN.out,hD2,List.append_assoc];rfl
         have g3:((x10:Int) == (C:Int)-1)=true:=by simp;omega
         clear hD2;go_wp2_with(at_builtin;refine aT rfl _ _ 45 rfl w.heap.size 164 _ 12 96 Tryz.underlying45 uZ rfl (by decide) eC A acc.length c _ rfl (HO1.out.alloc _) ⟨(i:Nat),2,⟨0,0,0,0,0,0,0,0,0,0⟩⟩ #[.int .i64 (i:Nat),.int .i64 2,.int .i64 0,.int .i64 0,.int .i64 0,.int .i64 0,.int .i64 0,.int .i64 0,.int .i64 0,.int .i64 0,.int .i64 0,.int .i64 0] rfl rfl 164 w1.heap.size rfl (BK.new w1 _ _) (by simp[eC,Value.oneCell']) (by omega) (by omega) (by simp;omega) ?_;intro g' c9 w8 hap;have HAP:=Lib.hid hap;clear hap)
         have hbN:=(HB1.out.alloc (by omega) (.cells #[.int .i64 (i:Nat),.int .i64 2,.int .i64 0,.int .i64 0,.int .i64 0,.int .i64 0,.int .i64 0,.int .i64 0,.int .i64 0,.int .i64 0,.int .i64 0,.int .i64 0] 164)).trans HAP.out.bel
         have hGN:=HG1.out.app HO1.out HAP.out;go_roundw
         case rel=>exact⟨i+1,j,acc++[⟨(i:Nat),2,⟨0,0,0,0,0,0,0,0,0,0⟩⟩],some ⟨g',0,none⟩,c9,by omega,by omega,by go_num,rfl,by simp,by rw[List.length_append,List.length_singleton];have:=HAL.out;omega,HM2.out,by rw[List.length_append];exact HAP.out.own,hGN,hbN⟩
         case measure=>simp[intOf];omega
        ·rw[if_neg hC']at hD2
         have HM2:Hid (mnd 0 a b=(acc++[⟨(i:Nat),1,y⟩])++mnd (i:Nat) (a.drop i) (b.drop (j+1))):=by show _=_;rw[HMN.out,hD2,List.append_assoc];rfl
         have g3:((x10:Int) == (C:Int)-1)=false:=by simp;omega
         clear hD2;go_wp2_with(at_builtin;refine aT rfl _ _ 45 rfl w.heap.size 164 _ 12 96 Tryz.underlying45 uZ rfl (by decide) eC A acc.length c _ rfl (HO1.out.alloc _) ⟨(i:Nat),1,y⟩ #[.int .i64 (i:Nat),.int .i64 1,.int .i64 y.k,.int .i64 y.tu,.int .i64 y.gr,.int .i64 y.lo,.int .i64 y.ch,.int .i64 y.ton,.int .i64 y.me,.int .i64 y.si,.int .i64 y.wa,.int .i64 y.ar] rfl rfl 164 w1.heap.size rfl (BK.new w1 _ _) (by simp[eC,Value.oneCell']) (by omega) (by omega) (by simp;omega) ?_;intro g' c9 w8 hap;have HAP:=Lib.hid hap;clear hap)
         have hbN:=(HB1.out.alloc (by omega) (.cells #[.int .i64 (i:Nat),.int .i64 1,.int .i64 y.k,.int .i64 y.tu,.int .i64 y.gr,.int .i64 y.lo,.int .i64 y.ch,.int .i64 y.ton,.int .i64 y.me,.int .i64 y.si,.int .i64 y.wa,.int .i64 y.ar] 164)).trans HAP.out.bel
         have hGN:=HG1.out.app HO1.out HAP.out;go_roundw
         case rel=>exact⟨i,j+1,acc++[⟨(i:Nat),1,y⟩],some ⟨g',0,none⟩,c9,by omega,by omega,rfl,by go_num,by simp,by rw[List.length_append,List.length_singleton];have:=HAL.out;omega,HM2.out,by rw[List.length_append];exact HAP.out.own,hGN,hbN⟩
         case measure=>simp[intOf];omega
     ·obtain rfl:m=j:=by omega
      have hia:i<a.length:=by rw[←HLA.out];exact hi
      have HD:Hid (mnd (i:Nat) (a.drop i) (b.drop m)=⟨(i:Nat),2,⟨0,0,0,0,0,0,0,0,0,0⟩⟩::mnd ((i+1:Nat):Int) (a.drop (i+1)) (b.drop m)):=by
       show _=_
       rw[drop_cons hia,List.drop_of_length_le (Nat.le_of_eq HLB.out.symm),lL]
       rfl
      have hmn2:mnd 0 a b=(acc++[⟨(i:Nat),2,⟨0,0,0,0,0,0,0,0,0,0⟩⟩])++mnd ((i+1:Nat):Int) (a.drop (i+1)) (b.drop m):=by rw[hmn,HD.out,List.append_assoc];rfl
      have HM2:=Lib.hid hmn2;have e1:=o8 (a:=a) HLB.out i;have e2:=o8 (a:=a) HLB.out (i+1);rw[hC]at e1;rw[hx10]at e2;have hxc:x10+1=C:=by omega
      have g1:((x10:Int) == (C:Int)-1)=true:=by simp;omega
      have u3:IntKind.i64.wrap ((C:Int)-1)=(C:Int)-1:=IntWalk.i64_in _ (by omega)
      have hbi:(i:Int)<(n:Int):=by omega
      have HO:=Lib.hid hO;have HG2:=Lib.hid hG;have HBR2:=Lib.hid hbr;have HAL:=Lib.hid hal;have hal7:acc.length≤700:=by omega
      clear hmn hmn2 hO hG hbr hL hL2 hC hx10 hia hal hcap e1 e2 hlt;go_wp2_with fail
      go_quiet(fail)
      obtain⟨w1,hw1⟩ : ∃w1,w1=wr.drewN nq:=⟨_,rfl⟩
      have HB1:Hid (Below w.heap.size w w1):=by show Below _ _ _;rw[hw1];exact aD HBR2.out _
      have HG1:Hid (GR a b n m w1 w.heap.size (w.heap.size+1) 0 0):=by show GR _ _ _ _ _ _ _ _ _;rw[hw1];exact HG2.out.same rfl rfl
      have HO1:Hid (OW eC 12 164 w.heap.size w1 A acc.length c acc):=by show OW _ _ _ _ _ _ _ _ _;rw[hw1];exact HO.out.drewN _
      have hlt1:=HG1.out.lt.1;have c10:w1.cell? ⟨w.heap.size,L2+m,none⟩=some (.int .i64 (x10:Int)):=by rw[hw1];exact c10
      have r1:w1.cell? ⟨w.heap.size+1,i+1,none⟩=some (.slice (some ⟨w.heap.size,L2,none⟩) (m+1) (m+1)):=by rw[hw1];exact r1
      rw[←hw1];clear hw1 HO HG2 HBR2;go_wp2_with(at_builtin;refine aT rfl _ _ 45 rfl w.heap.size 164 _ 12 96 Tryz.underlying45 uZ rfl (by decide) eC A acc.length c _ rfl (HO1.out.alloc _) ⟨(i:Nat),2,⟨0,0,0,0,0,0,0,0,0,0⟩⟩ #[.int .i64 (i:Nat),.int .i64 2,.int .i64 0,.int .i64 0,.int .i64 0,.int .i64 0,.int .i64 0,.int .i64 0,.int .i64 0,.int .i64 0,.int .i64 0,.int .i64 0] rfl rfl 164 w1.heap.size rfl (BK.new w1 _ _) (by simp[eC,Value.oneCell']) (by omega) (by omega) (by simp;omega) ?_;intro g' c9 w8 hap;have HAP:=Lib.hid hap;clear hap)
      have hbN:=(HB1.out.alloc (by omega) (.cells #[.int .i64 (i:Nat),.int .i64 2,.int .i64 0,.int .i64 0,.int .i64 0,.int .i64 0,.int .i64 0,.int .i64 0,.int .i64 0,.int .i64 0,.int .i64 0,.int .i64 0] 164)).trans HAP.out.bel
      have hGN:=HG1.out.app HO1.out HAP.out;go_roundw
      case rel=>exact⟨i+1,m,acc++[⟨(i:Nat),2,⟨0,0,0,0,0,0,0,0,0,0⟩⟩],some ⟨g',0,none⟩,c9,by omega,by omega,by go_num,rfl,by simp,by rw[List.length_append,List.length_singleton];have:=HAL.out;omega,HM2.out,by rw[List.length_append];exact HAP.out.own,hGN,hbN⟩
      case measure=>simp[intOf];omega
    ·obtain rfl:n=i:=by omega
     by_cases hj:j<m
     ·have r0:=hG.row (r:=n) hin (Nat.zero_le _)
      have c00:=hG.at_ (r:=n) (j':=j) hin hjm (by omega)
      obtain⟨L,hL⟩ : ∃L,n*(m+1)=L:=⟨_,rfl⟩
      rw[hL]at r0 c00;obtain⟨C,hC⟩ : ∃C,cst (a.drop n) (b.drop j)=C:=⟨_,rfl⟩
      have hC6:=HC6.out n j;rw[hC]at c00 hC6;have hjb:j<b.length:=by rw[←HLB.out];exact hj
      obtain⟨yb,yo,hya,hyB,d0',d1',d2',d3',d4',d5',d6',d7',d8',d9'⟩:=NS.at_ (HB.out.below hbr) hjb;have hmn2:mnd 0 a b=(acc++[⟨(n:Nat),1,b[j]⟩])++mnd (n:Nat) (a.drop n) (b.drop (j+1)):=by
       rw[hmn,drop_cons hjb,List.drop_of_length_le (Nat.le_of_eq HLA.out.symm),lK,List.append_assoc]
       rfl
      have HM2:=Lib.hid hmn2;clear hmn2 hmn
      generalize b[j]'hjb=y at *
      have b3:(j:Int)<(m:Int)+1:=by omega
      have hbj:(j:Int)<(m:Int):=by omega
      have HO:=Lib.hid hO;have HG2:=Lib.hid hG;have HBR2:=Lib.hid hbr;have HAL:=Lib.hid hal;have hal7:acc.length≤700:=by omega
      clear hO hG hbr hL hC hjb hal hcap hlt;rw[hya];go_wp2_with fail
      go_quiet(fail)
      obtain⟨w1,hw1⟩ : ∃w1,w1=wr.drewN nq:=⟨_,rfl⟩
      have HB1:Hid (Below w.heap.size w w1):=by show Below _ _ _;rw[hw1];exact aD HBR2.out _
      have HG1:Hid (GR a b n m w1 w.heap.size (w.heap.size+1) 0 0):=by show GR _ _ _ _ _ _ _ _ _;rw[hw1];exact HG2.out.same rfl rfl
      have HO1:Hid (OW eC 12 164 w.heap.size w1 A acc.length c acc):=by show OW _ _ _ _ _ _ _ _ _;rw[hw1];exact HO.out.drewN _
      have hlt1:=HG1.out.lt.1;have d0:w1.cell? ⟨yb,yo+j*10,none⟩=some (.int .i64 y.k):=by rw[hw1];exact d0'
      have d1:w1.cell? ⟨yb,yo+j*10+1,none⟩=some (.int .i64 y.tu):=by rw[hw1];exact d1'
      have d2:w1.cell? ⟨yb,yo+j*10+2,none⟩=some (.int .i64 y.gr):=by rw[hw1];exact d2'
      have d3:w1.cell? ⟨yb,yo+j*10+3,none⟩=some (.int .i64 y.lo):=by rw[hw1];exact d3'
      have d4:w1.cell? ⟨yb,yo+j*10+4,none⟩=some (.int .i64 y.ch):=by rw[hw1];exact d4'
      have d5:w1.cell? ⟨yb,yo+j*10+5,none⟩=some (.int .i64 y.ton):=by rw[hw1];exact d5'
      have d6:w1.cell? ⟨yb,yo+j*10+6,none⟩=some (.int .i64 y.me):=by rw[hw1];exact d6'
      have d7:w1.cell? ⟨yb,yo+j*10+7,none⟩=some (.int .i64 y.si):=by rw[hw1];exact d7'
      have d8:w1.cell? ⟨yb,yo+j*10+8,none⟩=some (.int .i64 y.wa):=by rw[hw1];exact d8'
      have d9:w1.cell? ⟨yb,yo+j*10+9,none⟩=some (.int .i64 y.ar):=by rw[hw1];exact d9'
      rw[←hw1];clear hw1 HO HG2 HBR2;go_wp2_with(at_builtin;refine aT rfl _ _ 45 rfl w.heap.size 164 _ 12 96 Tryz.underlying45 uZ rfl (by decide) eC A acc.length c _ rfl (HO1.out.alloc _) ⟨(n:Nat),1,y⟩ #[.int .i64 (n:Nat),.int .i64 1,.int .i64 y.k,.int .i64 y.tu,.int .i64 y.gr,.int .i64 y.lo,.int .i64 y.ch,.int .i64 y.ton,.int .i64 y.me,.int .i64 y.si,.int .i64 y.wa,.int .i64 y.ar] rfl rfl 164 w1.heap.size rfl (BK.new w1 _ _) (by simp[eC,Value.oneCell']) (by omega) (by omega) (by simp;omega) ?_;intro g' c9 w8 hap;have HAP:=Lib.hid hap;clear hap)
      have hbN:=(HB1.out.alloc (by omega) (.cells #[.int .i64 (n:Nat),.int .i64 1,.int .i64 y.k,.int .i64 y.tu,.int .i64 y.gr,.int .i64 y.lo,.int .i64 y.ch,.int .i64 y.ton,.int .i64 y.me,.int .i64 y.si,.int .i64 y.wa,.int .i64 y.ar] 164)).trans HAP.out.bel
      have hGN:=HG1.out.app HO1.out HAP.out;go_roundw
      case rel=>exact⟨n,j+1,acc++[⟨(n:Nat),1,y⟩],some ⟨g',0,none⟩,c9,by omega,by omega,rfl,by go_num,by simp,by rw[List.length_append,List.length_singleton];have:=HAL.out;omega,HM2.out,by rw[List.length_append];exact HAP.out.own,hGN,hbN⟩
      case measure=>simp[intOf];omega
     ·obtain rfl:m=j:=by omega
      have hfin:mnd 0 a b=acc:=by rw[hmn,List.drop_of_length_le (Nat.le_of_eq HLA.out.symm),List.drop_of_length_le (Nat.le_of_eq HLB.out.symm),lJ,List.append_nil]
      have HF:=Lib.hid hfin;clear hfin hmn;go_wp2_with fail
      go_ret
      exact⟨A,c,by rw[HF.out];rfl,by rw[HF.out];exact hO,hbr⟩
end Go.Proofs.YtjlkeoppppfeiaaGreat
