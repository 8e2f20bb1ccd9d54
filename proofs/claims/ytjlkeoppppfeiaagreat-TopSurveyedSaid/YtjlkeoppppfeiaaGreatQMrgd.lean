/- Lemmas. -/
import Derived.Test.YtjlkeoppppfeiaaGreatQDel
import Derived.Test.YtjlkeoppppfeiaaGreatQConc
import Derived.Test.YtjlkeoppppfeiaaGreatQAppS
namespace Go.Proofs.YtjlkeoppppfeiaaGreat
open Go.RowKit Go.Shelf Go.Sort Go.Proofs
theorem i9 {P:Program} {f:FuncId} {args:Array Value} {w:World} {Φ:Ending→World→Prop} (h:∀W,W=w→Calls P f args W Φ):Calls P f args w Φ:=h w rfl
theorem aDg (v0 v1:Int) (d x:Tmp) (a:Act) (w:World) (b:Nat) (h1:a.eval (.tmp d) = .pointer (some ⟨b,0,none⟩)) (h2:a.eval (.tmp x) = .agg #[.int .i64 v0,.int .i64 v1]) (h3:BK w b 52 #[.int .i64 0,.int .i64 0]) (o:Oper) (ho:o.op = .store 52 (.tmp d) (.tmp x)) :
  ∃w',(execOp a.eval o).run Tryz.prog w = .ok .skip w'∧BK w' b 52 #[.int .i64 v0,.int .i64 v1]∧Below b w w'∧w'.heap.size=w.heap.size∧∀k,k≠b→w'.heap[k]?=w.heap[k]?:=by
 have c0:=h3.cell 0;have c1:=h3.cell 1;have f:=h3.frozen;have hl:=h3.lt;simp only[List.getElem?_toArray,List.getElem?_cons_zero,List.getElem?_cons_succ]at c0 c1
 refine⟨((w.setCell ⟨b,0,none⟩ (.int .i64 v0)).setCell ⟨b,1,none⟩ (.int .i64 v1)),?_,((h3.set_ 0 _).set_ 1 _),((Below.refl b w).setCell (Nat.le_refl _) _).setCell (Nat.le_refl _) _,by simp,fun k hk=>?_⟩
 ·unfold execOp
  rw[ho];simp only[h1,h2];go_simp
 ·rw[Below.heap_setCell _ _ _ _ hk,Below.heap_setCell _ _ _ _ hk]
theorem aDh {base b n c i:Nat} {A B:List Crest} {u v:Crest} {w:World} (h:OW cC 2 52 base w (some ⟨b,0,none⟩) n c (A++u::B)) (hi:A.length=i) :
  OW cC 2 52 base ((w.setCell ⟨b,i*2+0,none⟩ (.int .i64 v.pos)).setCell ⟨b,i*2+1,none⟩ (.int .i64 v.siz)) (some ⟨b,0,none⟩) n c (A++v::B):=by
 have gi:=aL A u B hi
 have hil:i<(A++u::B).length:=(List.getElem?_eq_some_iff.1 gi).1
 have hres:(A++u::B).set i v=A++v::B:=oE A u v B hi;rw[←hres]
 generalize A++u::B=xs at h gi hil ⊢
 clear hres hi;have s0:=OW.setF h aZ i 0 (x:=u) (y:={ u with pos:=v.pos }) (v:=.int .i64 v.pos) gi (by omega) rfl
 have e0:(xs.set i { u with pos:=v.pos })[i]?=some { u with pos:=v.pos }:=by simp[hil]
 have s1:=OW.setF s0 aZ i 1 (x:={ u with pos:=v.pos }) (y:={ u with pos:=v.pos,siz:=v.siz }) (v:=.int .i64 v.siz) e0 (by omega) rfl
 rw[List.set_set]at s1;exact s1
theorem aDi (v0 v1 v2:Int) (d x:Tmp) (a:Act) (w:World) (b:Nat) (h1:a.eval (.tmp d) = .pointer (some ⟨b,0,none⟩)) (h2:a.eval (.tmp x) = .agg #[.int .i64 v0,.int .i64 v1,.int .i64 v2]) (h3:BK w b 54 #[.int .i64 0,.int .i64 0,.int .i64 0]) (o:Oper) (ho:o.op = .store 54 (.tmp d) (.tmp x)) :
  ∃w',(execOp a.eval o).run Tryz.prog w = .ok .skip w'∧BK w' b 54 #[.int .i64 v0,.int .i64 v1,.int .i64 v2]∧Below b w w'∧w'.heap.size=w.heap.size∧∀k,k≠b→w'.heap[k]?=w.heap[k]?:=by
 have c0:=h3.cell 0;have c1:=h3.cell 1;have c2:=h3.cell 2;have f:=h3.frozen;have hl:=h3.lt;simp only[List.getElem?_toArray,List.getElem?_cons_zero,List.getElem?_cons_succ]at c0 c1 c2
 refine⟨(((w.setCell ⟨b,0,none⟩ (.int .i64 v0)).setCell ⟨b,1,none⟩ (.int .i64 v1)).setCell ⟨b,2,none⟩ (.int .i64 v2)),?_,(((h3.set_ 0 _).set_ 1 _).set_ 2 _),(((Below.refl b w).setCell (Nat.le_refl _) _).setCell (Nat.le_refl _) _).setCell (Nat.le_refl _) _,by simp,fun k hk=>?_⟩
 ·unfold execOp
  rw[ho];simp only[h1,h2];go_simp
 ·rw[Below.heap_setCell _ _ _ _ hk,Below.heap_setCell _ _ _ _ hk,Below.heap_setCell _ _ _ _ hk]
theorem aDj {base b n c i:Nat} {A B:List Junc} {u v:Junc} {w:World} (h:OW jC 3 54 base w (some ⟨b,0,none⟩) n c (A++u::B)) (hi:A.length=i) :
  OW jC 3 54 base (((w.setCell ⟨b,i*3+0,none⟩ (.int .i64 v.pos)).setCell ⟨b,i*3+1,none⟩ (.int .i64 v.arms)).setCell ⟨b,i*3+2,none⟩ (.int .i64 v.way)) (some ⟨b,0,none⟩) n c (A++v::B):=by
 have gi:=aL A u B hi
 have hil:i<(A++u::B).length:=(List.getElem?_eq_some_iff.1 gi).1
 have hres:(A++u::B).set i v=A++v::B:=oE A u v B hi;rw[←hres]
 generalize A++u::B=xs at h gi hil ⊢
 clear hres hi;have s0:=OW.setF h aV i 0 (x:=u) (y:={ u with pos:=v.pos }) (v:=.int .i64 v.pos) gi (by omega) rfl
 have e0:(xs.set i { u with pos:=v.pos })[i]?=some { u with pos:=v.pos }:=by simp[hil]
 have s1:=OW.setF s0 aV i 1 (x:={ u with pos:=v.pos }) (y:={ u with pos:=v.pos,arms:=v.arms }) (v:=.int .i64 v.arms) e0 (by omega) rfl
 rw[List.set_set]at s1;have e1:(xs.set i { u with pos:=v.pos,arms:=v.arms })[i]?=some { u with pos:=v.pos,arms:=v.arms }:=by simp[hil]
 have s2:=OW.setF s1 aV i 2 (x:={ u with pos:=v.pos,arms:=v.arms }) (y:={ u with pos:=v.pos,arms:=v.arms,way:=v.way }) (v:=.int .i64 v.way) e1 (by omega) rfl
 rw[List.set_set]at s2;exact s2
set_option maxRecDepth 100000 in
set_option maxHeartbeats 8000000 in
theorem aCp (A1 : Option Addr) (n1 c1 : Nat) (xs : List Crest) (A2 : Option Addr) (n2 c2 : Nat) (ys : List Crest) (S RES : List Crest) (G : Bool) (w : World) (h1 : SL cC 2 w w.heap.size A1 n1 xs) (h2 : SL cC 2 w w.heap.size A2 n2 ys) (hn1 : n1 ≤ 2000) (hn2 : n2 ≤ 2000)
    (hS : aK (fun x : Crest => x.pos) (xs ++ ys) = S) (hRES : mgd (fun x : Crest => x.pos) bA S = RES) (hG : fH (fun x : Crest => x.pos) bA okC S = G) :
    Calls Tryz.prog 43 #[.slice A1 n1 c1, .slice A2 n2 c2, .func (.func 44) #[] #[], .func (.func 46) #[] #[]] w fun e w' =>
      ((G = true → ∃ A n c, e = .returned (.tuple #[.slice A n c, .bool true]) ∧ OW cC 2 52 w.heap.size w' A n c RES) ∧
       (G = false → e = .returned (.tuple #[.slice none 0 0, .bool false]))) ∧ Below w.heap.size w w' := by
  have HSS := Lib.hid hS
  have HR := Lib.hid hRES
  have HGG := Lib.hid hG
  clear hS hRES hG
  have hmo : Tryz.prog.follows .mixedOrders = true := by kernel_rfl
  obtain ⟨w0, hw0⟩ : ∃ w0, w0 = w.alloc (.cells #[.slice A1 n1 c1, .slice A2 n2 c2] 23) := ⟨_, rfl⟩
  have hB0 : Below w.heap.size w w0 := by rw [hw0]; exact (Below.refl _ _).alloc (Nat.le_refl _) _
  have hX0 : BK w0 w.heap.size 23 #[.slice A1 n1 c1, .slice A2 n2 c2] := by rw [hw0]; exact BK.new _ _ _
  have H1 := Lib.hid (h1.grow hB0 hB0.size)
  have H2 := Lib.hid (h2.grow hB0 hB0.size)
  clear h1 h2
  go_enter Tryz.func43, Tryz.ntmps43
  go_wp2_with fail
  rw [← hw0]
  clear hw0
  have x0 := hX0.cell 0
  have x1 := hX0.cell 1
  simp only [List.getElem?_toArray, List.getElem?_cons_zero, List.getElem?_cons_succ] at x0 x1
  refine (uK w.heap.size 0 2 A1 n1 c1 xs A2 n2 c2 ys _ hX0.lt x0 x1 H1.out H2.out (by omega) (by omega)).mono ?_
  rintro e w1 ⟨A, c, rfl, hO1, hb1⟩
  have hO1' := hO1.drop0 hB0.size
  have hB1 := hB0.trans (hb1.mono hB0.size)
  have HO1 := Lib.hid hO1'
  clear hO1 hO1' hb1 x0 x1 H1 H2 hX0 hB0
  go_wp2_with fail
  refine (aCJ w.heap.size A (n1 + n2) c (xs ++ ys) _ HO1.out (by omega)).mono ?_
  rintro e w2 ⟨⟨v, rfl⟩, hO2, hg2⟩
  rw [HSS.out] at hO2
  have hlen : n1 + n2 = S.length := hO2.2
  have hB2 : Below w.heap.size w w2 := by
    rcases A with _ | ad
    · have h0 := hO2.none_
      have hz : w1.grownBy w2 none := hg2
      exact hB1.trans ⟨hz.os, hz.tape, hz.output, hz.size, fun i hi => hz.block i (by have := hB1.size; omega) (by intro e; cases e)⟩
    · exact hB1.trans (gW hg2 hB1.size (HO1.out.lt rfl).1)
  clear HO1 hg2 hB1 HSS
  have HLN := Lib.hid hlen
  obtain ⟨N, hN⟩ : ∃ N, N = n1 + n2 := ⟨_, rfl⟩
  rw [← hN] at hO2 ⊢
  have hN4 : N ≤ 4000 := by omega
  clear hlen
  rcases S with _ | ⟨x0, r0⟩
  · have hN0 : N = 0 := by have := HLN.out; simp at this; omega
    have hr0 : RES = [] := HR.out.symm
    have hg0 : G = true := HGG.out.symm
    subst hN0
    subst hr0
    have HGT := Lib.hid hg0
    clear hN hg0
    have HO := Lib.hid hO2
    have HB := Lib.hid hB2
    clear hO2 hB2
    go_wp2_with fail
    go_loopw [10, 11] (fun sv iv wq => sv = .slice A 0 c ∧ iv = .int .i64 1 ∧ wq = w2) (fun _ _ _ => 0)
    case atStart => exact ⟨rfl, rfl, rfl⟩
    case round =>
      obtain ⟨rfl, rfl, rfl⟩ := hrel
      go_wp2_with fail
      go_ret2
      exact ⟨⟨fun _ => ⟨A, 0, c, rfl, HO.out⟩, fun hh => by rw [HGT.out] at hh; cases hh⟩, HB.out⟩
  · rcases A with _ | ad
    · have := (hO2.none_).2.2; cases this
    obtain ⟨b, hb, hbl0, hbb, hfz0, _⟩ := hO2.at_ aZ _ rfl
    subst hb
    have HO := Lib.hid hO2
    have HB := Lib.hid hB2
    have hNS : N = r0.length + 1 := by have := HLN.out; simp at this; omega
    clear hO2 hB2 hfz0 hN
    have HRES0 := Lib.hid HR.out.symm
    have HG0 := Lib.hid HGG.out.symm
    clear hNS HR HGG
    go_wp2_with fail
    go_loopw [10, 11] (fun sv iv wq => ∃ (m i : Nat) (P : List Crest) (x : Crest) (R : List Crest), sv = .slice (some ⟨b, 0, none⟩) m c ∧ iv = .int .i64 i ∧ Hid (P.length + 1 = i) ∧ Hid (P ++ ded (fun x : Crest => x.pos) bA x R = RES) ∧ Hid (iS (fun x : Crest => x.pos) bA okC x R = G) ∧ m ≤ N ∧ OW cC 2 52 w.heap.size wq (some ⟨b, 0, none⟩) m c (P ++ x :: R) ∧ Below w.heap.size w wq)
      (fun sv iv _ => (match sv with | .slice _ m _ => m | _ => 0) - (intOf iv).toNat)
    case atStart => exact ⟨N, 1, [], x0, r0, rfl, rfl, Lib.hid rfl, Lib.hid HRES0.out.symm, Lib.hid HG0.out.symm, Nat.le_refl _, HO.out, HB.out⟩
    case round =>
      obtain ⟨m, i, P, x, R, rfl, rfl, HI, HRES, HG, hmN, hO, hb⟩ := hrel
      have hml : m = P.length + 1 + R.length := by rw [hO.2]; simp; omega
      have HML := Lib.hid hml
      clear hml
      rcases R with _ | ⟨y, R⟩
      · have hmi : m = i := by have h1 := HML.out; have h2 := HI.out; simp at h1; omega
        subst hmi
        have hfin : P ++ [x] = RES := by have := HRES.out; simpa [ded] using this
        have hgt : G = true := by have := HG.out; simpa [iS] using this.symm
        rw [hfin] at hO
        have HGT := Lib.hid hgt
        have HOF := Lib.hid hO
        have HBF := Lib.hid hb
        clear hfin hO hb hgt
        go_wp2_with fail
        go_ret2
        exact ⟨⟨fun _ => ⟨_, m, c, rfl, HOF.out⟩, fun hh => by rw [HGT.out] at hh; cases hh⟩, HBF.out⟩
      · have him : i < m := by have h1 := HML.out; have h2 := HI.out; simp at h1; omega
        obtain ⟨i0, hi0⟩ : ∃ i0, i0 = P.length := ⟨_, rfl⟩
        have hi01 : i = i0 + 1 := by have := HI.out; omega
        have HI0 := Lib.hid hi0.symm
        have hwm : IntKind.i64.wrap ((i : Int) - 1) = (i0 : Int) := by rw [show (i : Int) - 1 = (i0 : Int) by omega]; exact IntWalk.i64_in _ (by omega)
        have hlt0 : i0 < i := by omega
        obtain ⟨i1, hi1⟩ : ∃ i1, i1 = i + 1 := ⟨_, rfl⟩
        have hwp : IntKind.i64.wrap ((i : Int) + 1) = (i1 : Int) := by rw [show (i : Int) + 1 = (i1 : Int) by omega]; exact IntWalk.i64_in _ (by omega)
        have HI1 := Lib.hid hi1
        have HI01 := Lib.hid hi01
        have e1 : P ++ x :: y :: R = P ++ x :: ([] ++ y :: R) := rfl
        have gi := aL P x (y :: R) HI0.out
        have gj := aS P x [] y R (j := i) (by have := HI.out; simp; omega)
        rw [← e1] at gj
        obtain ⟨b', hb', hbl, _, hfz, hrow⟩ := hO.at_ aZ _ rfl
        cases hb'
        have x0' := hrow (i0) x gi 0 _ rfl
        have x1' := hrow (i0) x gi 1 _ rfl
        have hax : ∀ q, 0 + (i0) * 2 + q = (i0) * 2 + q := fun q => by omega
        rw [hax] at x0' x1'
        rw [Nat.add_zero] at x0'
        have x0 := fun d os => cell_regrown x0' d os
        have x1 := fun d os => cell_regrown x1' d os
        clear hax
        have y0' := hrow (i) y gj 0 _ rfl
        have y1' := hrow (i) y gj 1 _ rfl
        have hay : ∀ q, 0 + (i) * 2 + q = (i) * 2 + q := fun q => by omega
        rw [hay] at y0' y1'
        rw [Nat.add_zero] at y0'
        have y0 := fun d os => cell_regrown y0' d os
        have y1 := fun d os => cell_regrown y1' d os
        clear hay
        have hj1 : (0 : Int) ≤ (i : Int) := by omega
        have hj2 : (i : Int) < (m : Int) := by omega
        have hj3 : (0 : Int) ≤ (i0 : Int) := by omega
        have hj4 : (i0 : Int) < (m : Int) := by omega
        have GI := Lib.hid gi
        have GJ := Lib.hid gj
        clear hrow hi0 hi01 hi1 e1 gi gj
        go_wp2_with fail
        refine aM 11 [10] hmo (by kernel_rfl) ?_
        simp only [List.take_succ_cons, List.take_zero, List.drop_succ_cons, List.drop_zero]
        repeat (refine aH (by decide) (by decide) (fun K hK => ?_); go_simp; refine hK _ ?_; clear hK K)
        refine bF (ι := Unit) 44 #[.agg #[.int .i64 x.pos, .int .i64 x.siz], .agg #[.int .i64 y.pos, .int .i64 y.siz]] (fun _ => .int .i64 (bS x.pos y.pos)) (fun _ _ => True) (by decide) (by decide) (by go_simp) (fun w => by go_simp) aB (fun _ => aB) (fun W hW _ => ?_) (fun ix1 hs1 => ?_)
        · refine (jJ x y W).mono ?_
          rintro ev w' ⟨rfl, hbl⟩
          exact ⟨(), rfl, trivial, hbl⟩
        repeat (refine aH (by decide) (by decide) (fun K hK => ?_); go_simp; refine hK _ ?_; clear hK K)
        refine bI ?_
        intro w3 hbc _
        clear hs1
        have hO3 := hO.call hbc
        have hb3 := hb.trans (hbc.mono hb.size)
        clear hO hb hfz x0 x0' x1 x1' y0 y0' y1 y1'
        by_cases hxy : x.pos = y.pos
        · have d1 : (bS x.pos y.pos != 0) = false := by rw [oP]; simpa using hxy
          have HXY := Lib.hid hxy
          clear hxy
          obtain ⟨K, hK⟩ : ∃ K, K = okC x y := ⟨_, rfl⟩
          have HK := Lib.hid hK
          clear hK
          have gi := GI.out
          have gj := GJ.out
          obtain ⟨b', hb', hbl, _, hfz, hrow⟩ := hO3.at_ aZ _ rfl
          cases hb'
          have x0' := hrow (i0) x gi 0 _ rfl
          have x1' := hrow (i0) x gi 1 _ rfl
          have hax : ∀ q, 0 + (i0) * 2 + q = (i0) * 2 + q := fun q => by omega
          rw [hax] at x0' x1'
          rw [Nat.add_zero] at x0'
          have x0 := fun d os => cell_regrown x0' d os
          have x1 := fun d os => cell_regrown x1' d os
          clear hax
          have y0' := hrow (i) y gj 0 _ rfl
          have y1' := hrow (i) y gj 1 _ rfl
          have hay : ∀ q, 0 + (i) * 2 + q = (i) * 2 + q := fun q => by omega
          rw [hay] at y0' y1'
          rw [Nat.add_zero] at y0'
          have y0 := fun d os => cell_regrown y0' d os
          have y1 := fun d os => cell_regrown y1' d os
          clear hay
          clear hrow gi gj
          go_wp2_with fail
          refine j8 16 14 15 [10] 52 #[.int .i64 0, .int .i64 0] #[.int .i64 (bA x y).pos, .int .i64 (bA x y).siz] 12 51 (.agg #[.int .i64 (bA x y).pos, .int .i64 (bA x y).siz]) _ _ hmo (by decide) rfl rfl rfl (fun a w => rfl) rfl rfl rfl (by kernel_rfl) (by kernel_rfl) (fun a w b h1 h2 h3 => aDg (bA x y).pos (bA x y).siz 12 51 a w b h1 h2 h3 _ rfl) (by kernel_rfl) ?_
          simp only [List.take_succ_cons, List.take_zero, List.drop_succ_cons, List.drop_zero]
          repeat (refine nB (by decide) (by decide) (fun K hK => ?_); go_simp; refine hK _ ?_; clear hK K)
          refine aCA (ι := Unit) 46 #[.agg #[.int .i64 x.pos, .int .i64 x.siz], .agg #[.int .i64 y.pos, .int .i64 y.siz]] (fun _ => .tuple #[.agg #[.int .i64 (bA x y).pos, .int .i64 (bA x y).siz], .bool K]) (by decide) (by decide) rfl (fun w => by go_simp) (fun _ _ h _ => h) (fun _ _ h _ => h) (fun W hW _ => ?_) (fun i2 => ?_)
          · refine (aAM x y W).mono ?_
            rintro e w' ⟨rfl, hbl⟩
            exact ⟨(), by rw [HK.out], hbl⟩
          repeat (refine nB (by decide) (by decide) (fun K hK => ?_); go_simp; refine hK _ ?_; clear hK K)
          refine gD (by decide) (fun h => by cases h) ?_
          refine gD (by decide) (fun _ => ⟨rfl, by simp⟩) ?_
          refine mD ?_
          intro tb Wd hk4 _ htb hTB
          have hO4 := hO3.call hk4
          have hb4 := hb3.trans (hk4.mono hb3.size)
          clear hO3 hb3 hfz x0 x0' x1 x1' y0 y0' y1 y1'
          cases K
          · have hgf : G = false := by
              have := HG.out
              rw [iS, if_pos HXY.out, ← HK.out] at this
              exact this.symm
            have HGF := Lib.hid hgf
            clear hgf
            go_wp2_with fail
            go_ret2
            exact ⟨⟨fun hh => (by rw [HGF.out] at hh; cases hh), fun _ => rfl⟩, hb4⟩
          · obtain ⟨b', hb', hbl2, _, hfz, hrow⟩ := hO4.at_ aZ _ rfl
            cases hb'
            have gi := GI.out
            have htb2 : w3.heap.size ≤ tb := htb
            have hbt : b < tb := by omega
            have x0 := hrow (i0) x gi 0 _ rfl
            have x1 := hrow (i0) x gi 1 _ rfl
            have hax : ∀ q, 0 + (i0) * 2 + q = (i0) * 2 + q := fun q => by omega
            rw [hax] at x0 x1
            rw [Nat.add_zero] at x0
            clear hax
            have t0 := hTB.cell 0
            have t1 := hTB.cell 1
            simp only [List.getElem?_toArray, List.getElem?_cons_zero, List.getElem?_cons_succ] at t0 t1
            have htf := hTB.frozen
            have htl := hTB.lt
            clear hrow gi
            go_wp2_with fail
            refine i9 (fun We hWe => ?_)
            have hO5 : OW cC 2 52 w.heap.size We (some ⟨b, 0, none⟩) m c (P ++ bA x y :: y :: R) := by rw [hWe]; exact aDh (v := bA x y) hO4 HI0.out
            have hb5 : Below w.heap.size w We := by rw [hWe]; exact ((hb4).setCell hbb _).setCell hbb _
            have hdel := aBE w.heap.size b m c i (P ++ [bA x y]) R y We (by rw [List.append_assoc]; exact hO5) (by have := HI.out; simp; omega) (by omega)
            rw [← HI1.out] at hdel
            clear hWe hfz htf htl hTB hO4 hO5
            refine hdel.mono ?_
            rintro e Wf ⟨rfl, hO6, hg6⟩
            have hb6 := hb5.trans (gW hg6 hb5.size hbb)
            go_wp2_with fail
            go_roundw
            case rel =>
              refine ⟨m - 1, i, P, bA x y, R, rfl, rfl, HI, ?_, ?_, by omega, by rw [List.append_assoc] at hO6; exact hO6, hb6⟩
              · show _ = _
                have := HRES.out
                rw [ded, if_pos HXY.out] at this
                exact this
              · show _ = _
                have := HG.out
                rw [iS, if_pos HXY.out, ← HK.out, Bool.true_and] at this
                exact this
            case measure => simp [intOf]; omega
        · have d1 : (bS x.pos y.pos != 0) = true := by rw [oP]; simpa using hxy
          have HXY := Lib.hid hxy
          clear hxy
          go_wp2_with fail
          go_roundw
          case rel =>
            refine ⟨m, i1, P ++ [x], y, R, rfl, rfl, ?_, ?_, ?_, hmN, ?_, hb3⟩
            · have h1 := HI.out; have h2 := HI1.out; show _ = _; simp; omega
            · show _ = _
              have := HRES.out
              rw [ded, if_neg HXY.out] at this
              rw [← this]; simp
            · show _ = _
              have := HG.out
              rw [iS, if_neg HXY.out] at this
              exact this
            · have e2 : P ++ [x] ++ y :: R = P ++ x :: y :: R := by simp
              rw [e2]; exact hO3
          case measure => have := HI1.out; simp [intOf]; omega
set_option maxRecDepth 100000 in
set_option maxHeartbeats 8000000 in
theorem aCq (A1 : Option Addr) (n1 c1 : Nat) (xs : List Junc) (A2 : Option Addr) (n2 c2 : Nat) (ys : List Junc) (S RES : List Junc) (G : Bool) (w : World) (h1 : SL jC 3 w w.heap.size A1 n1 xs) (h2 : SL jC 3 w w.heap.size A2 n2 ys) (hn1 : n1 ≤ 2000) (hn2 : n2 ≤ 2000)
    (hS : aK (fun x : Junc => x.pos) (xs ++ ys) = S) (hRES : mgd (fun x : Junc => x.pos) aX S = RES) (hG : fH (fun x : Junc => x.pos) aX okJ S = G) :
    Calls Tryz.prog 47 #[.slice A1 n1 c1, .slice A2 n2 c2, .func (.func 48) #[] #[], .func (.func 49) #[] #[]] w fun e w' =>
      ((G = true → ∃ A n c, e = .returned (.tuple #[.slice A n c, .bool true]) ∧ OW jC 3 54 w.heap.size w' A n c RES) ∧
       (G = false → e = .returned (.tuple #[.slice none 0 0, .bool false]))) ∧ Below w.heap.size w w' := by
  have HSS := Lib.hid hS
  have HR := Lib.hid hRES
  have HGG := Lib.hid hG
  clear hS hRES hG
  have hmo : Tryz.prog.follows .mixedOrders = true := by kernel_rfl
  obtain ⟨w0, hw0⟩ : ∃ w0, w0 = w.alloc (.cells #[.slice A1 n1 c1, .slice A2 n2 c2] 24) := ⟨_, rfl⟩
  have hB0 : Below w.heap.size w w0 := by rw [hw0]; exact (Below.refl _ _).alloc (Nat.le_refl _) _
  have hX0 : BK w0 w.heap.size 24 #[.slice A1 n1 c1, .slice A2 n2 c2] := by rw [hw0]; exact BK.new _ _ _
  have H1 := Lib.hid (h1.grow hB0 hB0.size)
  have H2 := Lib.hid (h2.grow hB0 hB0.size)
  clear h1 h2
  go_enter Tryz.func47, Tryz.ntmps47
  go_wp2_with fail
  rw [← hw0]
  clear hw0
  have x0 := hX0.cell 0
  have x1 := hX0.cell 1
  simp only [List.getElem?_toArray, List.getElem?_cons_zero, List.getElem?_cons_succ] at x0 x1
  refine (uL w.heap.size 0 2 A1 n1 c1 xs A2 n2 c2 ys _ hX0.lt x0 x1 H1.out H2.out (by omega) (by omega)).mono ?_
  rintro e w1 ⟨A, c, rfl, hO1, hb1⟩
  have hO1' := hO1.drop0 hB0.size
  have hB1 := hB0.trans (hb1.mono hB0.size)
  have HO1 := Lib.hid hO1'
  clear hO1 hO1' hb1 x0 x1 H1 H2 hX0 hB0
  go_wp2_with fail
  refine (aCK w.heap.size A (n1 + n2) c (xs ++ ys) _ HO1.out (by omega)).mono ?_
  rintro e w2 ⟨⟨v, rfl⟩, hO2, hg2⟩
  rw [HSS.out] at hO2
  have hlen : n1 + n2 = S.length := hO2.2
  have hB2 : Below w.heap.size w w2 := by
    rcases A with _ | ad
    · have h0 := hO2.none_
      have hz : w1.grownBy w2 none := hg2
      exact hB1.trans ⟨hz.os, hz.tape, hz.output, hz.size, fun i hi => hz.block i (by have := hB1.size; omega) (by intro e; cases e)⟩
    · exact hB1.trans (gW hg2 hB1.size (HO1.out.lt rfl).1)
  clear HO1 hg2 hB1 HSS
  have HLN := Lib.hid hlen
  obtain ⟨N, hN⟩ : ∃ N, N = n1 + n2 := ⟨_, rfl⟩
  rw [← hN] at hO2 ⊢
  have hN4 : N ≤ 4000 := by omega
  clear hlen
  rcases S with _ | ⟨x0, r0⟩
  · have hN0 : N = 0 := by have := HLN.out; simp at this; omega
    have hr0 : RES = [] := HR.out.symm
    have hg0 : G = true := HGG.out.symm
    subst hN0
    subst hr0
    have HGT := Lib.hid hg0
    clear hN hg0
    have HO := Lib.hid hO2
    have HB := Lib.hid hB2
    clear hO2 hB2
    go_wp2_with fail
    go_loopw [10, 11] (fun sv iv wq => sv = .slice A 0 c ∧ iv = .int .i64 1 ∧ wq = w2) (fun _ _ _ => 0)
    case atStart => exact ⟨rfl, rfl, rfl⟩
    case round =>
      obtain ⟨rfl, rfl, rfl⟩ := hrel
      go_wp2_with fail
      go_ret2
      exact ⟨⟨fun _ => ⟨A, 0, c, rfl, HO.out⟩, fun hh => by rw [HGT.out] at hh; cases hh⟩, HB.out⟩
  · rcases A with _ | ad
    · have := (hO2.none_).2.2; cases this
    obtain ⟨b, hb, hbl0, hbb, hfz0, _⟩ := hO2.at_ aV _ rfl
    subst hb
    have HO := Lib.hid hO2
    have HB := Lib.hid hB2
    have hNS : N = r0.length + 1 := by have := HLN.out; simp at this; omega
    clear hO2 hB2 hfz0 hN
    have HRES0 := Lib.hid HR.out.symm
    have HG0 := Lib.hid HGG.out.symm
    clear hNS HR HGG
    go_wp2_with fail
    go_loopw [10, 11] (fun sv iv wq => ∃ (m i : Nat) (P : List Junc) (x : Junc) (R : List Junc), sv = .slice (some ⟨b, 0, none⟩) m c ∧ iv = .int .i64 i ∧ Hid (P.length + 1 = i) ∧ Hid (P ++ ded (fun x : Junc => x.pos) aX x R = RES) ∧ Hid (iS (fun x : Junc => x.pos) aX okJ x R = G) ∧ m ≤ N ∧ OW jC 3 54 w.heap.size wq (some ⟨b, 0, none⟩) m c (P ++ x :: R) ∧ Below w.heap.size w wq)
      (fun sv iv _ => (match sv with | .slice _ m _ => m | _ => 0) - (intOf iv).toNat)
    case atStart => exact ⟨N, 1, [], x0, r0, rfl, rfl, Lib.hid rfl, Lib.hid HRES0.out.symm, Lib.hid HG0.out.symm, Nat.le_refl _, HO.out, HB.out⟩
    case round =>
      obtain ⟨m, i, P, x, R, rfl, rfl, HI, HRES, HG, hmN, hO, hb⟩ := hrel
      have hml : m = P.length + 1 + R.length := by rw [hO.2]; simp; omega
      have HML := Lib.hid hml
      clear hml
      rcases R with _ | ⟨y, R⟩
      · have hmi : m = i := by have h1 := HML.out; have h2 := HI.out; simp at h1; omega
        subst hmi
        have hfin : P ++ [x] = RES := by have := HRES.out; simpa [ded] using this
        have hgt : G = true := by have := HG.out; simpa [iS] using this.symm
        rw [hfin] at hO
        have HGT := Lib.hid hgt
        have HOF := Lib.hid hO
        have HBF := Lib.hid hb
        clear hfin hO hb hgt
        go_wp2_with fail
        go_ret2
        exact ⟨⟨fun _ => ⟨_, m, c, rfl, HOF.out⟩, fun hh => by rw [HGT.out] at hh; cases hh⟩, HBF.out⟩
      · have him : i < m := by have h1 := HML.out; have h2 := HI.out; simp at h1; omega
        obtain ⟨i0, hi0⟩ : ∃ i0, i0 = P.length := ⟨_, rfl⟩
        have hi01 : i = i0 + 1 := by have := HI.out; omega
        have HI0 := Lib.hid hi0.symm
        have hwm : IntKind.i64.wrap ((i : Int) - 1) = (i0 : Int) := by rw [show (i : Int) - 1 = (i0 : Int) by omega]; exact IntWalk.i64_in _ (by omega)
        have hlt0 : i0 < i := by omega
        obtain ⟨i1, hi1⟩ : ∃ i1, i1 = i + 1 := ⟨_, rfl⟩
        have hwp : IntKind.i64.wrap ((i : Int) + 1) = (i1 : Int) := by rw [show (i : Int) + 1 = (i1 : Int) by omega]; exact IntWalk.i64_in _ (by omega)
        have HI1 := Lib.hid hi1
        have HI01 := Lib.hid hi01
        have e1 : P ++ x :: y :: R = P ++ x :: ([] ++ y :: R) := rfl
        have gi := aL P x (y :: R) HI0.out
        have gj := aS P x [] y R (j := i) (by have := HI.out; simp; omega)
        rw [← e1] at gj
        obtain ⟨b', hb', hbl, _, hfz, hrow⟩ := hO.at_ aV _ rfl
        cases hb'
        have x0' := hrow (i0) x gi 0 _ rfl
        have x1' := hrow (i0) x gi 1 _ rfl
        have x2' := hrow (i0) x gi 2 _ rfl
        have hax : ∀ q, 0 + (i0) * 3 + q = (i0) * 3 + q := fun q => by omega
        rw [hax] at x0' x1' x2'
        rw [Nat.add_zero] at x0'
        have x0 := fun d os => cell_regrown x0' d os
        have x1 := fun d os => cell_regrown x1' d os
        have x2 := fun d os => cell_regrown x2' d os
        clear hax
        have y0' := hrow (i) y gj 0 _ rfl
        have y1' := hrow (i) y gj 1 _ rfl
        have y2' := hrow (i) y gj 2 _ rfl
        have hay : ∀ q, 0 + (i) * 3 + q = (i) * 3 + q := fun q => by omega
        rw [hay] at y0' y1' y2'
        rw [Nat.add_zero] at y0'
        have y0 := fun d os => cell_regrown y0' d os
        have y1 := fun d os => cell_regrown y1' d os
        have y2 := fun d os => cell_regrown y2' d os
        clear hay
        have hj1 : (0 : Int) ≤ (i : Int) := by omega
        have hj2 : (i : Int) < (m : Int) := by omega
        have hj3 : (0 : Int) ≤ (i0 : Int) := by omega
        have hj4 : (i0 : Int) < (m : Int) := by omega
        have GI := Lib.hid gi
        have GJ := Lib.hid gj
        clear hrow hi0 hi01 hi1 e1 gi gj
        go_wp2_with fail
        refine aM 11 [10] hmo (by kernel_rfl) ?_
        simp only [List.take_succ_cons, List.take_zero, List.drop_succ_cons, List.drop_zero]
        repeat (refine aH (by decide) (by decide) (fun K hK => ?_); go_simp; refine hK _ ?_; clear hK K)
        refine bF (ι := Unit) 48 #[.agg #[.int .i64 x.pos, .int .i64 x.arms, .int .i64 x.way], .agg #[.int .i64 y.pos, .int .i64 y.arms, .int .i64 y.way]] (fun _ => .int .i64 (bS x.pos y.pos)) (fun _ _ => True) (by decide) (by decide) (by go_simp) (fun w => by go_simp) aB (fun _ => aB) (fun W hW _ => ?_) (fun ix1 hs1 => ?_)
        · refine (jK x y W).mono ?_
          rintro ev w' ⟨rfl, hbl⟩
          exact ⟨(), rfl, trivial, hbl⟩
        repeat (refine aH (by decide) (by decide) (fun K hK => ?_); go_simp; refine hK _ ?_; clear hK K)
        refine bI ?_
        intro w3 hbc _
        clear hs1
        have hO3 := hO.call hbc
        have hb3 := hb.trans (hbc.mono hb.size)
        clear hO hb hfz x0 x0' x1 x1' x2 x2' y0 y0' y1 y1' y2 y2'
        by_cases hxy : x.pos = y.pos
        · have d1 : (bS x.pos y.pos != 0) = false := by rw [oP]; simpa using hxy
          have HXY := Lib.hid hxy
          clear hxy
          obtain ⟨K, hK⟩ : ∃ K, K = okJ x y := ⟨_, rfl⟩
          have HK := Lib.hid hK
          clear hK
          have gi := GI.out
          have gj := GJ.out
          obtain ⟨b', hb', hbl, _, hfz, hrow⟩ := hO3.at_ aV _ rfl
          cases hb'
          have x0' := hrow (i0) x gi 0 _ rfl
          have x1' := hrow (i0) x gi 1 _ rfl
          have x2' := hrow (i0) x gi 2 _ rfl
          have hax : ∀ q, 0 + (i0) * 3 + q = (i0) * 3 + q := fun q => by omega
          rw [hax] at x0' x1' x2'
          rw [Nat.add_zero] at x0'
          have x0 := fun d os => cell_regrown x0' d os
          have x1 := fun d os => cell_regrown x1' d os
          have x2 := fun d os => cell_regrown x2' d os
          clear hax
          have y0' := hrow (i) y gj 0 _ rfl
          have y1' := hrow (i) y gj 1 _ rfl
          have y2' := hrow (i) y gj 2 _ rfl
          have hay : ∀ q, 0 + (i) * 3 + q = (i) * 3 + q := fun q => by omega
          rw [hay] at y0' y1' y2'
          rw [Nat.add_zero] at y0'
          have y0 := fun d os => cell_regrown y0' d os
          have y1 := fun d os => cell_regrown y1' d os
          have y2 := fun d os => cell_regrown y2' d os
          clear hay
          clear hrow gi gj
          go_wp2_with fail
          refine j8 16 14 15 [10] 54 #[.int .i64 0, .int .i64 0, .int .i64 0] #[.int .i64 (aX x y).pos, .int .i64 (aX x y).arms, .int .i64 (aX x y).way] 12 51 (.agg #[.int .i64 (aX x y).pos, .int .i64 (aX x y).arms, .int .i64 (aX x y).way]) _ _ hmo (by decide) rfl rfl rfl (fun a w => rfl) rfl rfl rfl (by kernel_rfl) (by kernel_rfl) (fun a w b h1 h2 h3 => aDi (aX x y).pos (aX x y).arms (aX x y).way 12 51 a w b h1 h2 h3 _ rfl) (by kernel_rfl) ?_
          simp only [List.take_succ_cons, List.take_zero, List.drop_succ_cons, List.drop_zero]
          repeat (refine nB (by decide) (by decide) (fun K hK => ?_); go_simp; refine hK _ ?_; clear hK K)
          refine aCA (ι := Unit) 49 #[.agg #[.int .i64 x.pos, .int .i64 x.arms, .int .i64 x.way], .agg #[.int .i64 y.pos, .int .i64 y.arms, .int .i64 y.way]] (fun _ => .tuple #[.agg #[.int .i64 (aX x y).pos, .int .i64 (aX x y).arms, .int .i64 (aX x y).way], .bool K]) (by decide) (by decide) rfl (fun w => by go_simp) (fun _ _ h _ => h) (fun _ _ h _ => h) (fun W hW _ => ?_) (fun i2 => ?_)
          · refine (aAN x y W).mono ?_
            rintro e w' ⟨rfl, hbl⟩
            exact ⟨(), by rw [HK.out], hbl⟩
          repeat (refine nB (by decide) (by decide) (fun K hK => ?_); go_simp; refine hK _ ?_; clear hK K)
          refine gD (by decide) (fun h => by cases h) ?_
          refine gD (by decide) (fun _ => ⟨rfl, by simp⟩) ?_
          refine mD ?_
          intro tb Wd hk4 _ htb hTB
          have hO4 := hO3.call hk4
          have hb4 := hb3.trans (hk4.mono hb3.size)
          clear hO3 hb3 hfz x0 x0' x1 x1' x2 x2' y0 y0' y1 y1' y2 y2'
          cases K
          · have hgf : G = false := by
              have := HG.out
              rw [iS, if_pos HXY.out, ← HK.out] at this
              exact this.symm
            have HGF := Lib.hid hgf
            clear hgf
            go_wp2_with fail
            go_ret2
            exact ⟨⟨fun hh => (by rw [HGF.out] at hh; cases hh), fun _ => rfl⟩, hb4⟩
          · obtain ⟨b', hb', hbl2, _, hfz, hrow⟩ := hO4.at_ aV _ rfl
            cases hb'
            have gi := GI.out
            have htb2 : w3.heap.size ≤ tb := htb
            have hbt : b < tb := by omega
            have x0 := hrow (i0) x gi 0 _ rfl
            have x1 := hrow (i0) x gi 1 _ rfl
            have x2 := hrow (i0) x gi 2 _ rfl
            have hax : ∀ q, 0 + (i0) * 3 + q = (i0) * 3 + q := fun q => by omega
            rw [hax] at x0 x1 x2
            rw [Nat.add_zero] at x0
            clear hax
            have t0 := hTB.cell 0
            have t1 := hTB.cell 1
            have t2 := hTB.cell 2
            simp only [List.getElem?_toArray, List.getElem?_cons_zero, List.getElem?_cons_succ] at t0 t1 t2
            have htf := hTB.frozen
            have htl := hTB.lt
            clear hrow gi
            go_wp2_with fail
            refine i9 (fun We hWe => ?_)
            have hO5 : OW jC 3 54 w.heap.size We (some ⟨b, 0, none⟩) m c (P ++ aX x y :: y :: R) := by rw [hWe]; exact aDj (v := aX x y) hO4 HI0.out
            have hb5 : Below w.heap.size w We := by rw [hWe]; exact (((hb4).setCell hbb _).setCell hbb _).setCell hbb _
            have hdel := aBF w.heap.size b m c i (P ++ [aX x y]) R y We (by rw [List.append_assoc]; exact hO5) (by have := HI.out; simp; omega) (by omega)
            rw [← HI1.out] at hdel
            clear hWe hfz htf htl hTB hO4 hO5
            refine hdel.mono ?_
            rintro e Wf ⟨rfl, hO6, hg6⟩
            have hb6 := hb5.trans (gW hg6 hb5.size hbb)
            go_wp2_with fail
            go_roundw
            case rel =>
              refine ⟨m - 1, i, P, aX x y, R, rfl, rfl, HI, ?_, ?_, by omega, by rw [List.append_assoc] at hO6; exact hO6, hb6⟩
              · show _ = _
                have := HRES.out
                rw [ded, if_pos HXY.out] at this
                exact this
              · show _ = _
                have := HG.out
                rw [iS, if_pos HXY.out, ← HK.out, Bool.true_and] at this
                exact this
            case measure => simp [intOf]; omega
        · have d1 : (bS x.pos y.pos != 0) = true := by rw [oP]; simpa using hxy
          have HXY := Lib.hid hxy
          clear hxy
          go_wp2_with fail
          go_roundw
          case rel =>
            refine ⟨m, i1, P ++ [x], y, R, rfl, rfl, ?_, ?_, ?_, hmN, ?_, hb3⟩
            · have h1 := HI.out; have h2 := HI1.out; show _ = _; simp; omega
            · show _ = _
              have := HRES.out
              rw [ded, if_neg HXY.out] at this
              rw [← this]; simp
            · show _ = _
              have := HG.out
              rw [iS, if_neg HXY.out] at this
              exact this
            · have e2 : P ++ [x] ++ y :: R = P ++ x :: y :: R := by simp
              rw [e2]; exact hO3
          case measure => have := HI1.out; simp [intOf]; omega
end Go.Proofs.YtjlkeoppppfeiaaGreat
