/- The law function PaceSafer, walked: it returns true. -/
import Derived.Test.YtijcbfhlhgjedaaGreatDoorPFReg
import Derived.Test.YtijcbfhlhgjedaaGreatDoorPFRev
import Derived.Test.YtijcbfhlhgjedaaGreatDoorPFSwR
import Derived.Test.YtijcbfhlhgjedaaGreatDoorPFSymA
import Derived.Test.YtijcbfhlhgjedaaGreatDoorPFSymM
import Derived.Test.YtijcbfhlhgjedaaGreatDoorPFStab
import Derived.Test.YtijcbfhlhgjedaaGreatDoorPFMrgd
import Derived.Test.YtijcbfhlhgjedaaGreatDoorPFBound
import Derived.Test.YtijcbfhlhgjedaaGreatDoorPFPGrouped
import Derived.Test.YtijcbfhlhgjedaaGreatDoorPFSresM
import Derived.Test.YtijcbfhlhgjedaaGreatDoorPFSafe
import Derived.Test.YtijcbfhlhgjedaaGreatDoorPCBBase
import Derived.Test.YtijcbfhlhgjedaaGreatDoorPCBRoad
import Derived.Test.YtijcbfhlhgjedaaGreatDoorPCBLeaf
import Derived.Test.YtijcbfhlhgjedaaGreatDoorPCBCheck
import Derived.Test.YtijcbfhlhgjedaaGreatDoorPCBValid
import Derived.Test.YtijcbfhlhgjedaaGreatDoorPCBFind
import Derived.Test.YtijcbfhlhgjedaaGreatDoorPCBReg
import Derived.Test.YtijcbfhlhgjedaaGreatDoorPCBGrouped
import Derived.Test.YtijcbfhlhgjedaaGreatDoorPCBPG
import Derived.Test.YtijcbfhlhgjedaaGreatDoorPCBStr
import Derived.Test.YtijcbfhlhgjedaaGreatDoorPCBCmp
import Derived.Test.YtijcbfhlhgjedaaGreatDoorPCBOpen
import Derived.Test.YtijcbfhlhgjedaaGreatDoorPCBReg7
import Derived.Test.YtijcbfhlhgjedaaGreatDoorPCPRow
import Derived.Test.YtijcbfhlhgjedaaGreatDoorPCMtr
import Derived.Test.YtijcbfhlhgjedaaGreatDoorPCReg8
import Derived.Test.YtijcbfhlhgjedaaGreatDoorPCSpCk
import Derived.Test.YtijcbfhlhgjedaaGreatDoorPCPlanM
import Derived.Test.YtijcbfhlhgjedaaGreatDoorPCLast
import Derived.Test.YtijcbfhlhgjedaaGreatDoorPCBeg
import Derived.Test.YtijcbfhlhgjedaaGreatDoorPCRoom
import Derived.Test.YtijcbfhlhgjedaaGreatDoorPCCallsB
import Derived.Test.YtijcbfhlhgjedaaGreatDoorPCPlan
import Derived.Test.YtijcbfhlhgjedaaGreatDoorPCBetw
import Derived.Test.YtijcbfhlhgjedaaGreatDoorPCKn03P
import Derived.Test.YtijcbfhlhgjedaaGreatDoorPCRef3
import Derived.Test.YtijcbfhlhgjedaaGreatDoorPFSpdS
import Derived.Test.YtijcbfhlhgjedaaGreatDoorPFCareM
import Derived.Test.YtijcbfhlhgjedaaGreatDoorPKnown3
namespace Go.Proofs.YtijcbfhlhgjedaaGreatDoor
open Go.RowKit Go.Shelf Go.Sort Go.Proofs

section
variable {P : Program} {ops : Array Oper} {C : World → Prop} {k : Nat} {ns ks : List Nat} {Lq : Act → Fact → Prop} {o : Oper} {rest : List Oper} {a : Act} {Φ : Fact}
/-- An operation of the chain that is no call of a function, with a guard that holds. -/
theorem wpC_vg {ι : Type} (v : ι → Value) (G : ι → Fact) (h1 : k ∉ ns) (h2 : k ∈ ks) (hg : Region.wanted o (yielded ops a.tmps) = true) (hst : stable Φ) (hG : ∀ i, stable (G i))
    (hc : ∀ w, C w → Φ w → ∃ i w', (execOp a.eval o).run P w = .ok (.value (v i)) w' ∧ G i w' ∧ Below w.heap.size w w') (h : ∀ i, stable (fun x => Φ x ∧ G i x) → wpC P ops C ns ks Lq (k + 1) rest (a.put o.dst (v i)) (fun x => Φ x ∧ G i x)) :
    wpC P ops C ns ks Lq k (o :: rest) a Φ := by
  unfold wpC
  rw [if_neg h1, if_pos hg, if_pos h2]
  intro w hw hp
  unfold callAt
  obtain ⟨i, w', hx, h3, h4⟩ := hc w hw hp
  rw [hx]
  have hs : stable (fun x => Φ x ∧ G i x) := fun x y hxy hb => ⟨hst x y hxy.1 hb, hG i x y hxy.2 hb⟩
  exact ⟨h4, _, hs, fun x hx => hx.1, ⟨hst w w' hp h4, h3⟩, h i hs⟩
end
theorem pw_adj {α : Type} {f : α → Int} : ∀ (l : List α), (∀ i (h : i + 1 < l.length), f (l[i]'(by omega)) ≤ f (l[i + 1]'h)) → l.Pairwise fun a b => f a ≤ f b := by
  intro l h
  rw [List.pairwise_iff_getElem]
  have key : ∀ d i, (hj : i + d + 1 < l.length) → f (l[i]'(by omega)) ≤ f (l[i + d + 1]'hj) := by
    intro d
    induction d with
    | zero => intro i hj; exact h i hj
    | succ d ih =>
      intro i hj
      have h1 := ih i (by omega)
      exact Int.le_trans h1 (h (i + d + 1) hj)
  intro i j hi hj hij
  have := key (j - i - 1) i (by omega)
  have e : i + (j - i - 1) + 1 = j := by omega
  simp only [e] at this
  exact this
theorem few_ps {R : Road} (h : fewB R = true) : R.ps.length ≤ 60 := by
  unfold fewB at h
  simp only [Bool.and_eq_true, decide_eq_true_eq] at h
  omega
/-- The row at m is no faster than straight pieces, and no slower than the row before it. -/
def crow (S : Spd) (m : Nat) : Prop := ∀ c, S.rows[m]? = some c → c.most ≤ S.most ∧ c.least ≤ S.least ∧ ∀ d, 0 < m → S.rows[m - 1]? = some d → d.most ≤ c.most ∧ d.least ≤ c.least
def csur (S : Spd) (m : Nat) : Prop := ∀ a b, 0 < m → S.surf[m]? = some a → S.surf[m - 1]? = some b → a ≤ b
theorem calm_of {S : Spd} (h : ∀ m, m < S.rows.length → crow S m) (h' : ∀ m, m < S.surf.length → csur S m) : Calm S ∧ CalmL S := by
  have hm : ∀ i (hi : i < S.rows.length), (S.rows[i]'hi).most ≤ S.most ∧ (S.rows[i]'hi).least ≤ S.least := fun i hi => by
    obtain ⟨a, b, -⟩ := h i hi _ (List.getElem?_eq_getElem hi)
    exact ⟨a, b⟩
  have hp : ∀ i (hi : i + 1 < S.rows.length), (S.rows[i]'(by omega)).most ≤ (S.rows[i + 1]'hi).most ∧ (S.rows[i]'(by omega)).least ≤ (S.rows[i + 1]'hi).least := fun i hi => by
    obtain ⟨-, -, c⟩ := h (i + 1) hi _ (List.getElem?_eq_getElem hi)
    exact c _ (by omega) (List.getElem?_eq_getElem (by omega))
  refine ⟨⟨fun r hr => ?_, pw_adj (f := fun a => a.most) _ fun i hi => (hp i hi).1, ?_⟩, ⟨fun r hr => ?_, pw_adj (f := fun a => a.least) _ fun i hi => (hp i hi).2⟩⟩
  · obtain ⟨i, hi, rfl⟩ := List.getElem_of_mem hr
    exact (hm i hi).1
  · have := pw_adj (f := fun a : Int => -a) S.surf fun i hi => by
      have := h' (i + 1) hi _ _ (by omega) (List.getElem?_eq_getElem hi) (List.getElem?_eq_getElem (by omega))
      simp only [Nat.add_sub_cancel] at this
      omega
    exact this.imp fun h => by omega
  · obtain ⟨i, hi, rfl⟩ := List.getElem_of_mem hr
    exact (hm i hi).2
theorem btw_ij {S : Spd} {R : Road} {f t : Int} (h0 : 0 ≤ f) (h1 : f ≤ t) (h2 : t ≤ sumL R.ps) : btw S R f t = (tQ S R.ps t.toNat - tQ S R.ps f.toNat, tSl S R.ps t.toNat - tSl S R.ps f.toNat, 0) := by
  unfold btw
  rw [if_pos (by simp [inR]; omega)]
set_option maxRecDepth 100000 in
set_option maxHeartbeats 8000000 in
theorem LSafer3_walk (f t : Int) (pa : Option Addr) (pn pc : Nat) (ca : Option Addr) (cn cc : Nat) (ja : Option Addr) (jn jc : Nat) (R : Road) (pa2 : Option Addr) (pn2 pc2 : Nat) (ca2 : Option Addr) (cn2 cc2 : Nat) (ja2 : Option Addr) (jn2 jc2 : Nat) (R2 : Road) (ra : Option Addr) (rn rc : Nat) (sa : Option Addr) (sn sc : Nat) (S : Spd) (w : World)
    (h : RD w w.heap.size pa pn ca cn ja jn R) (h2 : RD w w.heap.size pa2 pn2 ca2 cn2 ja2 jn2 R2) (hD : SD w w.heap.size ra rn sa sn S) (hmx : pn ≤ 9223372036854775807) (hmx2 : pn2 ≤ 9223372036854775807) :
    Calls Tryz.prog 3 #[.agg #[.slice pa pn pc, .slice ca cn cc, .slice ja jn jc], .agg #[.slice pa2 pn2 pc2, .slice ca2 cn2 cc2, .slice ja2 jn2 jc2], .agg #[.int .i64 S.least, .int .i64 S.most, .slice ra rn rc, .slice sa sn sc], .int .i64 f, .int .i64 t] w fun e w' => e = .returned (.bool true) ∧ Below w.heap.size w w' := by
  have hmo : Tryz.prog.follows .mixedOrders = true := by kernel_rfl
  have HR := Lib.hid h
  have HR2 := Lib.hid h2
  have HD := Lib.hid hD
  have HLR := Lib.hid hD.r.1
  have HLS := Lib.hid hD.s.1
  clear h h2 hD
  obtain ⟨w0, hw0⟩ : ∃ w0, w0 = ((w.alloc (.cells #[.slice pa pn pc, .slice ca cn cc, .slice ja jn jc] 26)).alloc (.cells #[.slice pa2 pn2 pc2, .slice ca2 cn2 cc2, .slice ja2 jn2 jc2] 26)).alloc (.cells #[.int .i64 S.least, .int .i64 S.most, .slice ra rn rc, .slice sa sn sc] 30) := ⟨_, rfl⟩
  have hB0 : Below w.heap.size w w0 := by rw [hw0]; exact (((Below.refl w.heap.size w).alloc (Nat.le_refl _) _).alloc (by simp) _).alloc (by simp; omega) _
  have hX0 : BK w0 (w.heap.size) 26 #[.slice pa pn pc, .slice ca cn cc, .slice ja jn jc] := by rw [hw0]; exact (((BK.new w 26 #[.slice pa pn pc, .slice ca cn cc, .slice ja jn jc])).alloc _).alloc _
  have hZ0 : BK w0 (w.heap.size + 1) 26 #[.slice pa2 pn2 pc2, .slice ca2 cn2 cc2, .slice ja2 jn2 jc2] := by rw [hw0]; have := BK.new (w.alloc (.cells #[.slice pa pn pc, .slice ca cn cc, .slice ja jn jc] 26)) 26 #[.slice pa2 pn2 pc2, .slice ca2 cn2 cc2, .slice ja2 jn2 jc2]; rw [World.size_alloc] at this; exact (this).alloc _
  have hY0 : BK w0 (w.heap.size + 2) 30 #[.int .i64 S.least, .int .i64 S.most, .slice ra rn rc, .slice sa sn sc] := by rw [hw0]; have := BK.new ((w.alloc (.cells #[.slice pa pn pc, .slice ca cn cc, .slice ja jn jc] 26)).alloc (.cells #[.slice pa2 pn2 pc2, .slice ca2 cn2 cc2, .slice ja2 jn2 jc2] 26)) 30 #[.int .i64 S.least, .int .i64 S.most, .slice ra rn rc, .slice sa sn sc]; rw [World.size_alloc, World.size_alloc] at this; exact this
  go_enter Tryz.func3, Tryz.ntmps3
  go_wp2_with fail
  rw [← hw0]
  clear hw0
  have x0 := fun d os => cell_regrown (hX0.cell 0) d os
  have x1 := fun d os => cell_regrown (hX0.cell 1) d os
  have x2 := fun d os => cell_regrown (hX0.cell 2) d os
  have z0 := fun d os => cell_regrown (hZ0.cell 0) d os
  have z1 := fun d os => cell_regrown (hZ0.cell 1) d os
  have z2 := fun d os => cell_regrown (hZ0.cell 2) d os
  have y0 := fun d os => cell_regrown (hY0.cell 0) d os
  have y1 := fun d os => cell_regrown (hY0.cell 1) d os
  have y2 := fun d os => cell_regrown (hY0.cell 2) d os
  have y3 := fun d os => cell_regrown (hY0.cell 3) d os
  have HG1 := Lib.hid (fun d os => HR.out.grow (hB0.trans ((below_regrown w0 d os).mono hB0.size)) (Nat.le_trans hB0.size (below_regrown w0 d os).size))
  have HG2 := Lib.hid (fun d os => HR2.out.grow (hB0.trans ((below_regrown w0 d os).mono hB0.size)) (Nat.le_trans hB0.size (below_regrown w0 d os).size))
  have HG3 := Lib.hid (fun d os => HD.out.grow (hB0.trans ((below_regrown w0 d os).mono hB0.size)) (Nat.le_trans hB0.size (below_regrown w0 d os).size))
  have hl1 := hX0.lt
  have hl2 := hZ0.lt
  have hl3 := hY0.lt
  have HF1 := Lib.hid (fun (W : World) (hW : RD W W.heap.size pa pn ca cn ja jn R) => few_any pa pn pc ca cn cc ja jn jc R W hW hmx)
  have HF2 := Lib.hid (fun (W : World) (hW : RD W W.heap.size pa2 pn2 ca2 cn2 ja2 jn2 R2) => few_any pa2 pn2 pc2 ca2 cn2 cc2 ja2 jn2 jc2 R2 W hW hmx2)
  have HQ := Lib.hid (fun (W : World) (hW : SD W W.heap.size ra rn sa sn S) => quick_any3 ra rn rc sa sn sc S W hW)
  have HFi := Lib.hid (fun (W : World) (hW : RD W W.heap.size pa pn ca cn ja jn R) (hW2 : SD W W.heap.size ra rn sa sn S) => fine_any pa pn pc ca cn cc ja jn jc R ra rn rc sa sn sc S W hW hW2)
  have HVa := Lib.hid (fun (W : World) (hW : RD W W.heap.size pa2 pn2 ca2 cn2 ja2 jn2 R2) => Valid_any pa2 pn2 pc2 ca2 cn2 cc2 ja2 jn2 jc2 R2 W hW)
  cases f0 : fewB R
  case false =>
    have F0 := Lib.hid f0
    clear f0
    as_aux_lemma =>
      refine wp_region_ch 45 [1, 3, 5, 8, 10, 13, 16, 19, 21, 24, 26, 28, 31, 35, 40, 43] hmo (by kernel_rfl) ?_
      simp only [List.take_succ_cons, List.take_zero, List.drop_succ_cons, List.drop_zero]
      repeat (with_reducible refine wpC_q (by decide) (by decide) (fun K hK => ?_); go_simp; (try rw [if_neg (by simp [undef])]); refine hK _ ?_; clear hK K)
      with_reducible refine wpC_cg (ι := Unit) 5 #[.agg #[.slice pa pn pc, .slice ca cn cc, .slice ja jn jc]] (fun _ => .bool false) (fun _ _ => True) (by decide) (by decide) (by go_simp) (fun w => by go_simp) stable_true (fun _ => stable_true) (fun W hW _ => ?_) (fun i0 hs0 => ?_)
      · obtain ⟨pp, rfl⟩ := hW
        refine (HF1.out _ (HG1.out _ _)).mono ?_
        rintro e w' ⟨rfl, hbl⟩
        exact ⟨(), by rw [F0.out], trivial, hbl⟩
      repeat (with_reducible refine wpC_q (by decide) (by decide) (fun K hK => ?_); go_simp; (try rw [if_neg (by simp [undef])]); refine hK _ ?_; clear hK K)
      with_reducible refine wpC_vg (ι := Unit) (fun _ => .bool true) (fun _ _ => True) (by decide) (by decide) (by go_simp) hs0 (fun _ => stable_true) (fun W _ _ => ⟨(), W, by go_simp, trivial, Below.refl _ _⟩) (fun i1 hs1 => ?_)
      repeat (with_reducible refine wpC_q (by decide) (by decide) (fun K hK => ?_); go_simp; (try rw [if_neg (by simp [undef])]); refine hK _ ?_; clear hK K)
      with_reducible refine wpC_off (by decide) (by go_simp) ?_
      repeat (with_reducible refine wpC_q (by decide) (by decide) (fun K hK => ?_); go_simp; (try rw [if_neg (by simp [undef])]); refine hK _ ?_; clear hK K)
      with_reducible refine wpC_vg (ι := Unit) (fun _ => .bool true) (fun _ _ => True) (by decide) (by decide) (by go_simp) hs1 (fun _ => stable_true) (fun W _ _ => ⟨(), W, by go_simp, trivial, Below.refl _ _⟩) (fun i2 hs2 => ?_)
      repeat (with_reducible refine wpC_q (by decide) (by decide) (fun K hK => ?_); go_simp; (try rw [if_neg (by simp [undef])]); refine hK _ ?_; clear hK K)
      with_reducible refine wpC_off (by decide) (by go_simp) ?_
      repeat (with_reducible refine wpC_q (by decide) (by decide) (fun K hK => ?_); go_simp; (try rw [if_neg (by simp [undef])]); refine hK _ ?_; clear hK K)
      with_reducible refine wpC_vg (ι := Unit) (fun _ => .bool true) (fun _ _ => True) (by decide) (by decide) (by go_simp) hs2 (fun _ => stable_true) (fun W _ _ => ⟨(), W, by go_simp, trivial, Below.refl _ _⟩) (fun i3 hs3 => ?_)
      repeat (with_reducible refine wpC_q (by decide) (by decide) (fun K hK => ?_); go_simp; (try rw [if_neg (by simp [undef])]); refine hK _ ?_; clear hK K)
      with_reducible refine wpC_off (by decide) (by go_simp) ?_
      repeat (with_reducible refine wpC_q (by decide) (by decide) (fun K hK => ?_); go_simp; (try rw [if_neg (by simp [undef])]); refine hK _ ?_; clear hK K)
      with_reducible refine wpC_vg (ι := Unit) (fun _ => .bool true) (fun _ _ => True) (by decide) (by decide) (by go_simp) hs3 (fun _ => stable_true) (fun W _ _ => ⟨(), W, by go_simp, trivial, Below.refl _ _⟩) (fun i4 hs4 => ?_)
      repeat (with_reducible refine wpC_q (by decide) (by decide) (fun K hK => ?_); go_simp; (try rw [if_neg (by simp [undef])]); refine hK _ ?_; clear hK K)
      with_reducible refine wpC_off (by decide) (by go_simp) ?_
      repeat (with_reducible refine wpC_q (by decide) (by decide) (fun K hK => ?_); go_simp; (try rw [if_neg (by simp [undef])]); refine hK _ ?_; clear hK K)
      with_reducible refine wpC_vg (ι := Unit) (fun _ => .bool true) (fun _ _ => True) (by decide) (by decide) (by go_simp) hs4 (fun _ => stable_true) (fun W _ _ => ⟨(), W, by go_simp, trivial, Below.refl _ _⟩) (fun i5 hs5 => ?_)
      repeat (with_reducible refine wpC_q (by decide) (by decide) (fun K hK => ?_); go_simp; (try rw [if_neg (by simp [undef])]); refine hK _ ?_; clear hK K)
      with_reducible refine wpC_off (by decide) (by go_simp) ?_
      repeat (with_reducible refine wpC_q (by decide) (by decide) (fun K hK => ?_); go_simp; (try rw [if_neg (by simp [undef])]); refine hK _ ?_; clear hK K)
      with_reducible refine wpC_off (by decide) (by go_simp) ?_
      repeat (with_reducible refine wpC_q (by decide) (by decide) (fun K hK => ?_); go_simp; (try rw [if_neg (by simp [undef])]); refine hK _ ?_; clear hK K)
      with_reducible refine wpC_vg (ι := Unit) (fun _ => .bool true) (fun _ _ => True) (by decide) (by decide) (by go_simp) hs5 (fun _ => stable_true) (fun W _ _ => ⟨(), W, by go_simp, trivial, Below.refl _ _⟩) (fun i6 hs6 => ?_)
      repeat (with_reducible refine wpC_q (by decide) (by decide) (fun K hK => ?_); go_simp; (try rw [if_neg (by simp [undef])]); refine hK _ ?_; clear hK K)
      with_reducible refine wpC_vg (ι := Unit) (fun _ => .bool true) (fun _ _ => True) (by decide) (by decide) (by go_simp) hs6 (fun _ => stable_true) (fun W _ _ => ⟨(), W, by go_simp, trivial, Below.refl _ _⟩) (fun i7 hs7 => ?_)
      repeat (with_reducible refine wpC_q (by decide) (by decide) (fun K hK => ?_); go_simp; (try rw [if_neg (by simp [undef])]); refine hK _ ?_; clear hK K)
      with_reducible refine wpC_vg (ι := Unit) (fun _ => .bool true) (fun _ _ => True) (by decide) (by decide) (by go_simp) hs7 (fun _ => stable_true) (fun W _ _ => ⟨(), W, by go_simp, trivial, Below.refl _ _⟩) (fun i8 hs8 => ?_)
      repeat (with_reducible refine wpC_q (by decide) (by decide) (fun K hK => ?_); go_simp; (try rw [if_neg (by simp [undef])]); refine hK _ ?_; clear hK K)
      with_reducible refine wpC_off (by decide) (by go_simp) ?_
      repeat (with_reducible refine wpC_q (by decide) (by decide) (fun K hK => ?_); go_simp; (try rw [if_neg (by simp [undef])]); refine hK _ ?_; clear hK K)
      refine wpC_nil ?_
      intro w2 hb2 _
      clear x0 x1 x2 z0 z1 z2 y0 y1 y2 y3 HG1 HG2 HG3 hs0 hs1 hs2 hs3 hs4 hs5 hs6 hs7 hs8
      have hBX := hB0.trans (hb2.mono hB0.size)
      go_wp2_with fail
      refine (known_any _).mono ?_
      rintro e w9 ⟨rfl, hk⟩
      go_wp2_with fail
      go_ret
      exact ⟨rfl, hBX.trans (hk.mono hBX.size)⟩
  have F0 := Lib.hid f0
  clear f0
  cases f1 : fewB R2
  case false =>
    have F1 := Lib.hid f1
    clear f1
    as_aux_lemma =>
      refine wp_region_ch 45 [1, 3, 5, 8, 10, 13, 16, 19, 21, 24, 26, 28, 31, 35, 40, 43] hmo (by kernel_rfl) ?_
      simp only [List.take_succ_cons, List.take_zero, List.drop_succ_cons, List.drop_zero]
      repeat (with_reducible refine wpC_q (by decide) (by decide) (fun K hK => ?_); go_simp; (try rw [if_neg (by simp [undef])]); refine hK _ ?_; clear hK K)
      with_reducible refine wpC_cg (ι := Unit) 5 #[.agg #[.slice pa pn pc, .slice ca cn cc, .slice ja jn jc]] (fun _ => .bool true) (fun _ _ => True) (by decide) (by decide) (by go_simp) (fun w => by go_simp) stable_true (fun _ => stable_true) (fun W hW _ => ?_) (fun i0 hs0 => ?_)
      · obtain ⟨pp, rfl⟩ := hW
        refine (HF1.out _ (HG1.out _ _)).mono ?_
        rintro e w' ⟨rfl, hbl⟩
        exact ⟨(), by rw [F0.out], trivial, hbl⟩
      repeat (with_reducible refine wpC_q (by decide) (by decide) (fun K hK => ?_); go_simp; (try rw [if_neg (by simp [undef])]); refine hK _ ?_; clear hK K)
      with_reducible refine wpC_vg (ι := Unit) (fun _ => .bool false) (fun _ _ => True) (by decide) (by decide) (by go_simp) hs0 (fun _ => stable_true) (fun W _ _ => ⟨(), W, by go_simp, trivial, Below.refl _ _⟩) (fun i1 hs1 => ?_)
      repeat (with_reducible refine wpC_q (by decide) (by decide) (fun K hK => ?_); go_simp; (try rw [if_neg (by simp [undef])]); refine hK _ ?_; clear hK K)
      with_reducible refine wpC_cg (ι := Unit) 5 #[.agg #[.slice pa2 pn2 pc2, .slice ca2 cn2 cc2, .slice ja2 jn2 jc2]] (fun _ => .bool false) (fun _ _ => True) (by decide) (by decide) (by go_simp) (fun w => by go_simp) hs1 (fun _ => stable_true) (fun W hW _ => ?_) (fun i2 hs2 => ?_)
      · obtain ⟨pp, rfl⟩ := hW
        refine (HF2.out _ (HG2.out _ _)).mono ?_
        rintro e w' ⟨rfl, hbl⟩
        exact ⟨(), by rw [F1.out], trivial, hbl⟩
      repeat (with_reducible refine wpC_q (by decide) (by decide) (fun K hK => ?_); go_simp; (try rw [if_neg (by simp [undef])]); refine hK _ ?_; clear hK K)
      with_reducible refine wpC_vg (ι := Unit) (fun _ => .bool true) (fun _ _ => True) (by decide) (by decide) (by go_simp) hs2 (fun _ => stable_true) (fun W _ _ => ⟨(), W, by go_simp, trivial, Below.refl _ _⟩) (fun i3 hs3 => ?_)
      repeat (with_reducible refine wpC_q (by decide) (by decide) (fun K hK => ?_); go_simp; (try rw [if_neg (by simp [undef])]); refine hK _ ?_; clear hK K)
      with_reducible refine wpC_off (by decide) (by go_simp) ?_
      repeat (with_reducible refine wpC_q (by decide) (by decide) (fun K hK => ?_); go_simp; (try rw [if_neg (by simp [undef])]); refine hK _ ?_; clear hK K)
      with_reducible refine wpC_vg (ι := Unit) (fun _ => .bool true) (fun _ _ => True) (by decide) (by decide) (by go_simp) hs3 (fun _ => stable_true) (fun W _ _ => ⟨(), W, by go_simp, trivial, Below.refl _ _⟩) (fun i4 hs4 => ?_)
      repeat (with_reducible refine wpC_q (by decide) (by decide) (fun K hK => ?_); go_simp; (try rw [if_neg (by simp [undef])]); refine hK _ ?_; clear hK K)
      with_reducible refine wpC_off (by decide) (by go_simp) ?_
      repeat (with_reducible refine wpC_q (by decide) (by decide) (fun K hK => ?_); go_simp; (try rw [if_neg (by simp [undef])]); refine hK _ ?_; clear hK K)
      with_reducible refine wpC_vg (ι := Unit) (fun _ => .bool true) (fun _ _ => True) (by decide) (by decide) (by go_simp) hs4 (fun _ => stable_true) (fun W _ _ => ⟨(), W, by go_simp, trivial, Below.refl _ _⟩) (fun i5 hs5 => ?_)
      repeat (with_reducible refine wpC_q (by decide) (by decide) (fun K hK => ?_); go_simp; (try rw [if_neg (by simp [undef])]); refine hK _ ?_; clear hK K)
      with_reducible refine wpC_off (by decide) (by go_simp) ?_
      repeat (with_reducible refine wpC_q (by decide) (by decide) (fun K hK => ?_); go_simp; (try rw [if_neg (by simp [undef])]); refine hK _ ?_; clear hK K)
      with_reducible refine wpC_vg (ι := Unit) (fun _ => .bool true) (fun _ _ => True) (by decide) (by decide) (by go_simp) hs5 (fun _ => stable_true) (fun W _ _ => ⟨(), W, by go_simp, trivial, Below.refl _ _⟩) (fun i6 hs6 => ?_)
      repeat (with_reducible refine wpC_q (by decide) (by decide) (fun K hK => ?_); go_simp; (try rw [if_neg (by simp [undef])]); refine hK _ ?_; clear hK K)
      with_reducible refine wpC_off (by decide) (by go_simp) ?_
      repeat (with_reducible refine wpC_q (by decide) (by decide) (fun K hK => ?_); go_simp; (try rw [if_neg (by simp [undef])]); refine hK _ ?_; clear hK K)
      with_reducible refine wpC_off (by decide) (by go_simp) ?_
      repeat (with_reducible refine wpC_q (by decide) (by decide) (fun K hK => ?_); go_simp; (try rw [if_neg (by simp [undef])]); refine hK _ ?_; clear hK K)
      with_reducible refine wpC_vg (ι := Unit) (fun _ => .bool true) (fun _ _ => True) (by decide) (by decide) (by go_simp) hs6 (fun _ => stable_true) (fun W _ _ => ⟨(), W, by go_simp, trivial, Below.refl _ _⟩) (fun i7 hs7 => ?_)
      repeat (with_reducible refine wpC_q (by decide) (by decide) (fun K hK => ?_); go_simp; (try rw [if_neg (by simp [undef])]); refine hK _ ?_; clear hK K)
      with_reducible refine wpC_vg (ι := Unit) (fun _ => .bool true) (fun _ _ => True) (by decide) (by decide) (by go_simp) hs7 (fun _ => stable_true) (fun W _ _ => ⟨(), W, by go_simp, trivial, Below.refl _ _⟩) (fun i8 hs8 => ?_)
      repeat (with_reducible refine wpC_q (by decide) (by decide) (fun K hK => ?_); go_simp; (try rw [if_neg (by simp [undef])]); refine hK _ ?_; clear hK K)
      with_reducible refine wpC_vg (ι := Unit) (fun _ => .bool true) (fun _ _ => True) (by decide) (by decide) (by go_simp) hs8 (fun _ => stable_true) (fun W _ _ => ⟨(), W, by go_simp, trivial, Below.refl _ _⟩) (fun i9 hs9 => ?_)
      repeat (with_reducible refine wpC_q (by decide) (by decide) (fun K hK => ?_); go_simp; (try rw [if_neg (by simp [undef])]); refine hK _ ?_; clear hK K)
      with_reducible refine wpC_off (by decide) (by go_simp) ?_
      repeat (with_reducible refine wpC_q (by decide) (by decide) (fun K hK => ?_); go_simp; (try rw [if_neg (by simp [undef])]); refine hK _ ?_; clear hK K)
      refine wpC_nil ?_
      intro w2 hb2 _
      clear x0 x1 x2 z0 z1 z2 y0 y1 y2 y3 HG1 HG2 HG3 hs0 hs1 hs2 hs3 hs4 hs5 hs6 hs7 hs8 hs9
      have hBX := hB0.trans (hb2.mono hB0.size)
      go_wp2_with fail
      refine (known_any _).mono ?_
      rintro e w9 ⟨rfl, hk⟩
      go_wp2_with fail
      go_ret
      exact ⟨rfl, hBX.trans (hk.mono hBX.size)⟩
  have F1 := Lib.hid f1
  clear f1
  cases f2 : quickB S
  case false =>
    have F2 := Lib.hid f2
    clear f2
    as_aux_lemma =>
      refine wp_region_ch 45 [1, 3, 5, 8, 10, 13, 16, 19, 21, 24, 26, 28, 31, 35, 40, 43] hmo (by kernel_rfl) ?_
      simp only [List.take_succ_cons, List.take_zero, List.drop_succ_cons, List.drop_zero]
      repeat (with_reducible refine wpC_q (by decide) (by decide) (fun K hK => ?_); go_simp; (try rw [if_neg (by simp [undef])]); refine hK _ ?_; clear hK K)
      with_reducible refine wpC_cg (ι := Unit) 5 #[.agg #[.slice pa pn pc, .slice ca cn cc, .slice ja jn jc]] (fun _ => .bool true) (fun _ _ => True) (by decide) (by decide) (by go_simp) (fun w => by go_simp) stable_true (fun _ => stable_true) (fun W hW _ => ?_) (fun i0 hs0 => ?_)
      · obtain ⟨pp, rfl⟩ := hW
        refine (HF1.out _ (HG1.out _ _)).mono ?_
        rintro e w' ⟨rfl, hbl⟩
        exact ⟨(), by rw [F0.out], trivial, hbl⟩
      repeat (with_reducible refine wpC_q (by decide) (by decide) (fun K hK => ?_); go_simp; (try rw [if_neg (by simp [undef])]); refine hK _ ?_; clear hK K)
      with_reducible refine wpC_vg (ι := Unit) (fun _ => .bool false) (fun _ _ => True) (by decide) (by decide) (by go_simp) hs0 (fun _ => stable_true) (fun W _ _ => ⟨(), W, by go_simp, trivial, Below.refl _ _⟩) (fun i1 hs1 => ?_)
      repeat (with_reducible refine wpC_q (by decide) (by decide) (fun K hK => ?_); go_simp; (try rw [if_neg (by simp [undef])]); refine hK _ ?_; clear hK K)
      with_reducible refine wpC_cg (ι := Unit) 5 #[.agg #[.slice pa2 pn2 pc2, .slice ca2 cn2 cc2, .slice ja2 jn2 jc2]] (fun _ => .bool true) (fun _ _ => True) (by decide) (by decide) (by go_simp) (fun w => by go_simp) hs1 (fun _ => stable_true) (fun W hW _ => ?_) (fun i2 hs2 => ?_)
      · obtain ⟨pp, rfl⟩ := hW
        refine (HF2.out _ (HG2.out _ _)).mono ?_
        rintro e w' ⟨rfl, hbl⟩
        exact ⟨(), by rw [F1.out], trivial, hbl⟩
      repeat (with_reducible refine wpC_q (by decide) (by decide) (fun K hK => ?_); go_simp; (try rw [if_neg (by simp [undef])]); refine hK _ ?_; clear hK K)
      with_reducible refine wpC_vg (ι := Unit) (fun _ => .bool false) (fun _ _ => True) (by decide) (by decide) (by go_simp) hs2 (fun _ => stable_true) (fun W _ _ => ⟨(), W, by go_simp, trivial, Below.refl _ _⟩) (fun i3 hs3 => ?_)
      repeat (with_reducible refine wpC_q (by decide) (by decide) (fun K hK => ?_); go_simp; (try rw [if_neg (by simp [undef])]); refine hK _ ?_; clear hK K)
      with_reducible refine wpC_cg (ι := Unit) 6 #[.agg #[.int .i64 S.least, .int .i64 S.most, .slice ra rn rc, .slice sa sn sc]] (fun _ => .bool false) (fun _ _ => True) (by decide) (by decide) (by go_simp) (fun w => by go_simp) hs3 (fun _ => stable_true) (fun W hW _ => ?_) (fun i4 hs4 => ?_)
      · obtain ⟨pp, rfl⟩ := hW
        refine (HQ.out _ (HG3.out _ _)).mono ?_
        rintro e w' ⟨rfl, hbl⟩
        exact ⟨(), by rw [F2.out], trivial, hbl⟩
      repeat (with_reducible refine wpC_q (by decide) (by decide) (fun K hK => ?_); go_simp; (try rw [if_neg (by simp [undef])]); refine hK _ ?_; clear hK K)
      with_reducible refine wpC_vg (ι := Unit) (fun _ => .bool true) (fun _ _ => True) (by decide) (by decide) (by go_simp) hs4 (fun _ => stable_true) (fun W _ _ => ⟨(), W, by go_simp, trivial, Below.refl _ _⟩) (fun i5 hs5 => ?_)
      repeat (with_reducible refine wpC_q (by decide) (by decide) (fun K hK => ?_); go_simp; (try rw [if_neg (by simp [undef])]); refine hK _ ?_; clear hK K)
      with_reducible refine wpC_off (by decide) (by go_simp) ?_
      repeat (with_reducible refine wpC_q (by decide) (by decide) (fun K hK => ?_); go_simp; (try rw [if_neg (by simp [undef])]); refine hK _ ?_; clear hK K)
      with_reducible refine wpC_vg (ι := Unit) (fun _ => .bool true) (fun _ _ => True) (by decide) (by decide) (by go_simp) hs5 (fun _ => stable_true) (fun W _ _ => ⟨(), W, by go_simp, trivial, Below.refl _ _⟩) (fun i6 hs6 => ?_)
      repeat (with_reducible refine wpC_q (by decide) (by decide) (fun K hK => ?_); go_simp; (try rw [if_neg (by simp [undef])]); refine hK _ ?_; clear hK K)
      with_reducible refine wpC_off (by decide) (by go_simp) ?_
      repeat (with_reducible refine wpC_q (by decide) (by decide) (fun K hK => ?_); go_simp; (try rw [if_neg (by simp [undef])]); refine hK _ ?_; clear hK K)
      with_reducible refine wpC_vg (ι := Unit) (fun _ => .bool true) (fun _ _ => True) (by decide) (by decide) (by go_simp) hs6 (fun _ => stable_true) (fun W _ _ => ⟨(), W, by go_simp, trivial, Below.refl _ _⟩) (fun i7 hs7 => ?_)
      repeat (with_reducible refine wpC_q (by decide) (by decide) (fun K hK => ?_); go_simp; (try rw [if_neg (by simp [undef])]); refine hK _ ?_; clear hK K)
      with_reducible refine wpC_off (by decide) (by go_simp) ?_
      repeat (with_reducible refine wpC_q (by decide) (by decide) (fun K hK => ?_); go_simp; (try rw [if_neg (by simp [undef])]); refine hK _ ?_; clear hK K)
      with_reducible refine wpC_off (by decide) (by go_simp) ?_
      repeat (with_reducible refine wpC_q (by decide) (by decide) (fun K hK => ?_); go_simp; (try rw [if_neg (by simp [undef])]); refine hK _ ?_; clear hK K)
      with_reducible refine wpC_vg (ι := Unit) (fun _ => .bool true) (fun _ _ => True) (by decide) (by decide) (by go_simp) hs7 (fun _ => stable_true) (fun W _ _ => ⟨(), W, by go_simp, trivial, Below.refl _ _⟩) (fun i8 hs8 => ?_)
      repeat (with_reducible refine wpC_q (by decide) (by decide) (fun K hK => ?_); go_simp; (try rw [if_neg (by simp [undef])]); refine hK _ ?_; clear hK K)
      with_reducible refine wpC_vg (ι := Unit) (fun _ => .bool true) (fun _ _ => True) (by decide) (by decide) (by go_simp) hs8 (fun _ => stable_true) (fun W _ _ => ⟨(), W, by go_simp, trivial, Below.refl _ _⟩) (fun i9 hs9 => ?_)
      repeat (with_reducible refine wpC_q (by decide) (by decide) (fun K hK => ?_); go_simp; (try rw [if_neg (by simp [undef])]); refine hK _ ?_; clear hK K)
      with_reducible refine wpC_vg (ι := Unit) (fun _ => .bool true) (fun _ _ => True) (by decide) (by decide) (by go_simp) hs9 (fun _ => stable_true) (fun W _ _ => ⟨(), W, by go_simp, trivial, Below.refl _ _⟩) (fun i10 hs10 => ?_)
      repeat (with_reducible refine wpC_q (by decide) (by decide) (fun K hK => ?_); go_simp; (try rw [if_neg (by simp [undef])]); refine hK _ ?_; clear hK K)
      with_reducible refine wpC_off (by decide) (by go_simp) ?_
      repeat (with_reducible refine wpC_q (by decide) (by decide) (fun K hK => ?_); go_simp; (try rw [if_neg (by simp [undef])]); refine hK _ ?_; clear hK K)
      refine wpC_nil ?_
      intro w2 hb2 _
      clear x0 x1 x2 z0 z1 z2 y0 y1 y2 y3 HG1 HG2 HG3 hs0 hs1 hs2 hs3 hs4 hs5 hs6 hs7 hs8 hs9 hs10
      have hBX := hB0.trans (hb2.mono hB0.size)
      go_wp2_with fail
      refine (known_any _).mono ?_
      rintro e w9 ⟨rfl, hk⟩
      go_wp2_with fail
      go_ret
      exact ⟨rfl, hBX.trans (hk.mono hBX.size)⟩
  have F2 := Lib.hid f2
  clear f2
  cases f3 : val R && spB S
  case false =>
    have F3 := Lib.hid f3
    clear f3
    as_aux_lemma =>
      refine wp_region_ch 45 [1, 3, 5, 8, 10, 13, 16, 19, 21, 24, 26, 28, 31, 35, 40, 43] hmo (by kernel_rfl) ?_
      simp only [List.take_succ_cons, List.take_zero, List.drop_succ_cons, List.drop_zero]
      repeat (with_reducible refine wpC_q (by decide) (by decide) (fun K hK => ?_); go_simp; (try rw [if_neg (by simp [undef])]); refine hK _ ?_; clear hK K)
      with_reducible refine wpC_cg (ι := Unit) 5 #[.agg #[.slice pa pn pc, .slice ca cn cc, .slice ja jn jc]] (fun _ => .bool true) (fun _ _ => True) (by decide) (by decide) (by go_simp) (fun w => by go_simp) stable_true (fun _ => stable_true) (fun W hW _ => ?_) (fun i0 hs0 => ?_)
      · obtain ⟨pp, rfl⟩ := hW
        refine (HF1.out _ (HG1.out _ _)).mono ?_
        rintro e w' ⟨rfl, hbl⟩
        exact ⟨(), by rw [F0.out], trivial, hbl⟩
      repeat (with_reducible refine wpC_q (by decide) (by decide) (fun K hK => ?_); go_simp; (try rw [if_neg (by simp [undef])]); refine hK _ ?_; clear hK K)
      with_reducible refine wpC_vg (ι := Unit) (fun _ => .bool false) (fun _ _ => True) (by decide) (by decide) (by go_simp) hs0 (fun _ => stable_true) (fun W _ _ => ⟨(), W, by go_simp, trivial, Below.refl _ _⟩) (fun i1 hs1 => ?_)
      repeat (with_reducible refine wpC_q (by decide) (by decide) (fun K hK => ?_); go_simp; (try rw [if_neg (by simp [undef])]); refine hK _ ?_; clear hK K)
      with_reducible refine wpC_cg (ι := Unit) 5 #[.agg #[.slice pa2 pn2 pc2, .slice ca2 cn2 cc2, .slice ja2 jn2 jc2]] (fun _ => .bool true) (fun _ _ => True) (by decide) (by decide) (by go_simp) (fun w => by go_simp) hs1 (fun _ => stable_true) (fun W hW _ => ?_) (fun i2 hs2 => ?_)
      · obtain ⟨pp, rfl⟩ := hW
        refine (HF2.out _ (HG2.out _ _)).mono ?_
        rintro e w' ⟨rfl, hbl⟩
        exact ⟨(), by rw [F1.out], trivial, hbl⟩
      repeat (with_reducible refine wpC_q (by decide) (by decide) (fun K hK => ?_); go_simp; (try rw [if_neg (by simp [undef])]); refine hK _ ?_; clear hK K)
      with_reducible refine wpC_vg (ι := Unit) (fun _ => .bool false) (fun _ _ => True) (by decide) (by decide) (by go_simp) hs2 (fun _ => stable_true) (fun W _ _ => ⟨(), W, by go_simp, trivial, Below.refl _ _⟩) (fun i3 hs3 => ?_)
      repeat (with_reducible refine wpC_q (by decide) (by decide) (fun K hK => ?_); go_simp; (try rw [if_neg (by simp [undef])]); refine hK _ ?_; clear hK K)
      with_reducible refine wpC_cg (ι := Unit) 6 #[.agg #[.int .i64 S.least, .int .i64 S.most, .slice ra rn rc, .slice sa sn sc]] (fun _ => .bool true) (fun _ _ => True) (by decide) (by decide) (by go_simp) (fun w => by go_simp) hs3 (fun _ => stable_true) (fun W hW _ => ?_) (fun i4 hs4 => ?_)
      · obtain ⟨pp, rfl⟩ := hW
        refine (HQ.out _ (HG3.out _ _)).mono ?_
        rintro e w' ⟨rfl, hbl⟩
        exact ⟨(), by rw [F2.out], trivial, hbl⟩
      repeat (with_reducible refine wpC_q (by decide) (by decide) (fun K hK => ?_); go_simp; (try rw [if_neg (by simp [undef])]); refine hK _ ?_; clear hK K)
      with_reducible refine wpC_vg (ι := Unit) (fun _ => .bool false) (fun _ _ => True) (by decide) (by decide) (by go_simp) hs4 (fun _ => stable_true) (fun W _ _ => ⟨(), W, by go_simp, trivial, Below.refl _ _⟩) (fun i5 hs5 => ?_)
      repeat (with_reducible refine wpC_q (by decide) (by decide) (fun K hK => ?_); go_simp; (try rw [if_neg (by simp [undef])]); refine hK _ ?_; clear hK K)
      with_reducible refine wpC_cg (ι := Unit) 7 #[.agg #[.slice pa pn pc, .slice ca cn cc, .slice ja jn jc], .agg #[.int .i64 S.least, .int .i64 S.most, .slice ra rn rc, .slice sa sn sc]] (fun _ => .bool false) (fun _ _ => True) (by decide) (by decide) (by go_simp) (fun w => by go_simp) hs5 (fun _ => stable_true) (fun W hW _ => ?_) (fun i6 hs6 => ?_)
      · obtain ⟨pp, rfl⟩ := hW
        refine (HFi.out _ (HG1.out _ _) (HG3.out _ _)).mono ?_
        rintro e w' ⟨rfl, hbl⟩
        exact ⟨(), by rw [F3.out], trivial, hbl⟩
      repeat (with_reducible refine wpC_q (by decide) (by decide) (fun K hK => ?_); go_simp; (try rw [if_neg (by simp [undef])]); refine hK _ ?_; clear hK K)
      with_reducible refine wpC_vg (ι := Unit) (fun _ => .bool true) (fun _ _ => True) (by decide) (by decide) (by go_simp) hs6 (fun _ => stable_true) (fun W _ _ => ⟨(), W, by go_simp, trivial, Below.refl _ _⟩) (fun i7 hs7 => ?_)
      repeat (with_reducible refine wpC_q (by decide) (by decide) (fun K hK => ?_); go_simp; (try rw [if_neg (by simp [undef])]); refine hK _ ?_; clear hK K)
      with_reducible refine wpC_off (by decide) (by go_simp) ?_
      repeat (with_reducible refine wpC_q (by decide) (by decide) (fun K hK => ?_); go_simp; (try rw [if_neg (by simp [undef])]); refine hK _ ?_; clear hK K)
      with_reducible refine wpC_vg (ι := Unit) (fun _ => .bool true) (fun _ _ => True) (by decide) (by decide) (by go_simp) hs7 (fun _ => stable_true) (fun W _ _ => ⟨(), W, by go_simp, trivial, Below.refl _ _⟩) (fun i8 hs8 => ?_)
      repeat (with_reducible refine wpC_q (by decide) (by decide) (fun K hK => ?_); go_simp; (try rw [if_neg (by simp [undef])]); refine hK _ ?_; clear hK K)
      with_reducible refine wpC_off (by decide) (by go_simp) ?_
      repeat (with_reducible refine wpC_q (by decide) (by decide) (fun K hK => ?_); go_simp; (try rw [if_neg (by simp [undef])]); refine hK _ ?_; clear hK K)
      with_reducible refine wpC_off (by decide) (by go_simp) ?_
      repeat (with_reducible refine wpC_q (by decide) (by decide) (fun K hK => ?_); go_simp; (try rw [if_neg (by simp [undef])]); refine hK _ ?_; clear hK K)
      with_reducible refine wpC_vg (ι := Unit) (fun _ => .bool true) (fun _ _ => True) (by decide) (by decide) (by go_simp) hs8 (fun _ => stable_true) (fun W _ _ => ⟨(), W, by go_simp, trivial, Below.refl _ _⟩) (fun i9 hs9 => ?_)
      repeat (with_reducible refine wpC_q (by decide) (by decide) (fun K hK => ?_); go_simp; (try rw [if_neg (by simp [undef])]); refine hK _ ?_; clear hK K)
      with_reducible refine wpC_vg (ι := Unit) (fun _ => .bool true) (fun _ _ => True) (by decide) (by decide) (by go_simp) hs9 (fun _ => stable_true) (fun W _ _ => ⟨(), W, by go_simp, trivial, Below.refl _ _⟩) (fun i10 hs10 => ?_)
      repeat (with_reducible refine wpC_q (by decide) (by decide) (fun K hK => ?_); go_simp; (try rw [if_neg (by simp [undef])]); refine hK _ ?_; clear hK K)
      with_reducible refine wpC_vg (ι := Unit) (fun _ => .bool true) (fun _ _ => True) (by decide) (by decide) (by go_simp) hs10 (fun _ => stable_true) (fun W _ _ => ⟨(), W, by go_simp, trivial, Below.refl _ _⟩) (fun i11 hs11 => ?_)
      repeat (with_reducible refine wpC_q (by decide) (by decide) (fun K hK => ?_); go_simp; (try rw [if_neg (by simp [undef])]); refine hK _ ?_; clear hK K)
      with_reducible refine wpC_off (by decide) (by go_simp) ?_
      repeat (with_reducible refine wpC_q (by decide) (by decide) (fun K hK => ?_); go_simp; (try rw [if_neg (by simp [undef])]); refine hK _ ?_; clear hK K)
      refine wpC_nil ?_
      intro w2 hb2 _
      clear x0 x1 x2 z0 z1 z2 y0 y1 y2 y3 HG1 HG2 HG3 hs0 hs1 hs2 hs3 hs4 hs5 hs6 hs7 hs8 hs9 hs10 hs11
      have hBX := hB0.trans (hb2.mono hB0.size)
      go_wp2_with fail
      refine (known_any _).mono ?_
      rintro e w9 ⟨rfl, hk⟩
      go_wp2_with fail
      go_ret
      exact ⟨rfl, hBX.trans (hk.mono hBX.size)⟩
  have F3 := Lib.hid f3
  have HV : Hid (OK R) := by have := f3; rw [Bool.and_eq_true] at this; exact (val_iff R).1 this.1
  have HS : Hid (SOK S) := by have := f3; rw [Bool.and_eq_true] at this; exact (spB_iff S).1 this.2
  clear f3
  cases f4 : val R2
  case false =>
    have F4 := Lib.hid f4
    clear f4
    as_aux_lemma =>
      refine wp_region_ch 45 [1, 3, 5, 8, 10, 13, 16, 19, 21, 24, 26, 28, 31, 35, 40, 43] hmo (by kernel_rfl) ?_
      simp only [List.take_succ_cons, List.take_zero, List.drop_succ_cons, List.drop_zero]
      repeat (with_reducible refine wpC_q (by decide) (by decide) (fun K hK => ?_); go_simp; (try rw [if_neg (by simp [undef])]); refine hK _ ?_; clear hK K)
      with_reducible refine wpC_cg (ι := Unit) 5 #[.agg #[.slice pa pn pc, .slice ca cn cc, .slice ja jn jc]] (fun _ => .bool true) (fun _ _ => True) (by decide) (by decide) (by go_simp) (fun w => by go_simp) stable_true (fun _ => stable_true) (fun W hW _ => ?_) (fun i0 hs0 => ?_)
      · obtain ⟨pp, rfl⟩ := hW
        refine (HF1.out _ (HG1.out _ _)).mono ?_
        rintro e w' ⟨rfl, hbl⟩
        exact ⟨(), by rw [F0.out], trivial, hbl⟩
      repeat (with_reducible refine wpC_q (by decide) (by decide) (fun K hK => ?_); go_simp; (try rw [if_neg (by simp [undef])]); refine hK _ ?_; clear hK K)
      with_reducible refine wpC_vg (ι := Unit) (fun _ => .bool false) (fun _ _ => True) (by decide) (by decide) (by go_simp) hs0 (fun _ => stable_true) (fun W _ _ => ⟨(), W, by go_simp, trivial, Below.refl _ _⟩) (fun i1 hs1 => ?_)
      repeat (with_reducible refine wpC_q (by decide) (by decide) (fun K hK => ?_); go_simp; (try rw [if_neg (by simp [undef])]); refine hK _ ?_; clear hK K)
      with_reducible refine wpC_cg (ι := Unit) 5 #[.agg #[.slice pa2 pn2 pc2, .slice ca2 cn2 cc2, .slice ja2 jn2 jc2]] (fun _ => .bool true) (fun _ _ => True) (by decide) (by decide) (by go_simp) (fun w => by go_simp) hs1 (fun _ => stable_true) (fun W hW _ => ?_) (fun i2 hs2 => ?_)
      · obtain ⟨pp, rfl⟩ := hW
        refine (HF2.out _ (HG2.out _ _)).mono ?_
        rintro e w' ⟨rfl, hbl⟩
        exact ⟨(), by rw [F1.out], trivial, hbl⟩
      repeat (with_reducible refine wpC_q (by decide) (by decide) (fun K hK => ?_); go_simp; (try rw [if_neg (by simp [undef])]); refine hK _ ?_; clear hK K)
      with_reducible refine wpC_vg (ι := Unit) (fun _ => .bool false) (fun _ _ => True) (by decide) (by decide) (by go_simp) hs2 (fun _ => stable_true) (fun W _ _ => ⟨(), W, by go_simp, trivial, Below.refl _ _⟩) (fun i3 hs3 => ?_)
      repeat (with_reducible refine wpC_q (by decide) (by decide) (fun K hK => ?_); go_simp; (try rw [if_neg (by simp [undef])]); refine hK _ ?_; clear hK K)
      with_reducible refine wpC_cg (ι := Unit) 6 #[.agg #[.int .i64 S.least, .int .i64 S.most, .slice ra rn rc, .slice sa sn sc]] (fun _ => .bool true) (fun _ _ => True) (by decide) (by decide) (by go_simp) (fun w => by go_simp) hs3 (fun _ => stable_true) (fun W hW _ => ?_) (fun i4 hs4 => ?_)
      · obtain ⟨pp, rfl⟩ := hW
        refine (HQ.out _ (HG3.out _ _)).mono ?_
        rintro e w' ⟨rfl, hbl⟩
        exact ⟨(), by rw [F2.out], trivial, hbl⟩
      repeat (with_reducible refine wpC_q (by decide) (by decide) (fun K hK => ?_); go_simp; (try rw [if_neg (by simp [undef])]); refine hK _ ?_; clear hK K)
      with_reducible refine wpC_vg (ι := Unit) (fun _ => .bool false) (fun _ _ => True) (by decide) (by decide) (by go_simp) hs4 (fun _ => stable_true) (fun W _ _ => ⟨(), W, by go_simp, trivial, Below.refl _ _⟩) (fun i5 hs5 => ?_)
      repeat (with_reducible refine wpC_q (by decide) (by decide) (fun K hK => ?_); go_simp; (try rw [if_neg (by simp [undef])]); refine hK _ ?_; clear hK K)
      with_reducible refine wpC_cg (ι := Unit) 7 #[.agg #[.slice pa pn pc, .slice ca cn cc, .slice ja jn jc], .agg #[.int .i64 S.least, .int .i64 S.most, .slice ra rn rc, .slice sa sn sc]] (fun _ => .bool true) (fun _ _ => True) (by decide) (by decide) (by go_simp) (fun w => by go_simp) hs5 (fun _ => stable_true) (fun W hW _ => ?_) (fun i6 hs6 => ?_)
      · obtain ⟨pp, rfl⟩ := hW
        refine (HFi.out _ (HG1.out _ _) (HG3.out _ _)).mono ?_
        rintro e w' ⟨rfl, hbl⟩
        exact ⟨(), by rw [F3.out], trivial, hbl⟩
      repeat (with_reducible refine wpC_q (by decide) (by decide) (fun K hK => ?_); go_simp; (try rw [if_neg (by simp [undef])]); refine hK _ ?_; clear hK K)
      with_reducible refine wpC_vg (ι := Unit) (fun _ => .bool false) (fun _ _ => True) (by decide) (by decide) (by go_simp) hs6 (fun _ => stable_true) (fun W _ _ => ⟨(), W, by go_simp, trivial, Below.refl _ _⟩) (fun i7 hs7 => ?_)
      repeat (with_reducible refine wpC_q (by decide) (by decide) (fun K hK => ?_); go_simp; (try rw [if_neg (by simp [undef])]); refine hK _ ?_; clear hK K)
      with_reducible refine wpC_cg (ι := Unit) 8 #[.agg #[.slice pa2 pn2 pc2, .slice ca2 cn2 cc2, .slice ja2 jn2 jc2]] (fun _ => .bool false) (fun _ _ => True) (by decide) (by decide) (by go_simp) (fun w => by go_simp) hs7 (fun _ => stable_true) (fun W hW _ => ?_) (fun i8 hs8 => ?_)
      · obtain ⟨pp, rfl⟩ := hW
        refine (HVa.out _ (HG2.out _ _)).mono ?_
        rintro e w' ⟨rfl, hbl⟩
        exact ⟨(), by rw [F4.out], trivial, hbl⟩
      repeat (with_reducible refine wpC_q (by decide) (by decide) (fun K hK => ?_); go_simp; (try rw [if_neg (by simp [undef])]); refine hK _ ?_; clear hK K)
      with_reducible refine wpC_vg (ι := Unit) (fun _ => .bool true) (fun _ _ => True) (by decide) (by decide) (by go_simp) hs8 (fun _ => stable_true) (fun W _ _ => ⟨(), W, by go_simp, trivial, Below.refl _ _⟩) (fun i9 hs9 => ?_)
      repeat (with_reducible refine wpC_q (by decide) (by decide) (fun K hK => ?_); go_simp; (try rw [if_neg (by simp [undef])]); refine hK _ ?_; clear hK K)
      with_reducible refine wpC_off (by decide) (by go_simp) ?_
      repeat (with_reducible refine wpC_q (by decide) (by decide) (fun K hK => ?_); go_simp; (try rw [if_neg (by simp [undef])]); refine hK _ ?_; clear hK K)
      with_reducible refine wpC_off (by decide) (by go_simp) ?_
      repeat (with_reducible refine wpC_q (by decide) (by decide) (fun K hK => ?_); go_simp; (try rw [if_neg (by simp [undef])]); refine hK _ ?_; clear hK K)
      with_reducible refine wpC_vg (ι := Unit) (fun _ => .bool true) (fun _ _ => True) (by decide) (by decide) (by go_simp) hs9 (fun _ => stable_true) (fun W _ _ => ⟨(), W, by go_simp, trivial, Below.refl _ _⟩) (fun i10 hs10 => ?_)
      repeat (with_reducible refine wpC_q (by decide) (by decide) (fun K hK => ?_); go_simp; (try rw [if_neg (by simp [undef])]); refine hK _ ?_; clear hK K)
      with_reducible refine wpC_vg (ι := Unit) (fun _ => .bool true) (fun _ _ => True) (by decide) (by decide) (by go_simp) hs10 (fun _ => stable_true) (fun W _ _ => ⟨(), W, by go_simp, trivial, Below.refl _ _⟩) (fun i11 hs11 => ?_)
      repeat (with_reducible refine wpC_q (by decide) (by decide) (fun K hK => ?_); go_simp; (try rw [if_neg (by simp [undef])]); refine hK _ ?_; clear hK K)
      with_reducible refine wpC_vg (ι := Unit) (fun _ => .bool true) (fun _ _ => True) (by decide) (by decide) (by go_simp) hs11 (fun _ => stable_true) (fun W _ _ => ⟨(), W, by go_simp, trivial, Below.refl _ _⟩) (fun i12 hs12 => ?_)
      repeat (with_reducible refine wpC_q (by decide) (by decide) (fun K hK => ?_); go_simp; (try rw [if_neg (by simp [undef])]); refine hK _ ?_; clear hK K)
      with_reducible refine wpC_off (by decide) (by go_simp) ?_
      repeat (with_reducible refine wpC_q (by decide) (by decide) (fun K hK => ?_); go_simp; (try rw [if_neg (by simp [undef])]); refine hK _ ?_; clear hK K)
      refine wpC_nil ?_
      intro w2 hb2 _
      clear x0 x1 x2 z0 z1 z2 y0 y1 y2 y3 HG1 HG2 HG3 hs0 hs1 hs2 hs3 hs4 hs5 hs6 hs7 hs8 hs9 hs10 hs11 hs12
      have hBX := hB0.trans (hb2.mono hB0.size)
      go_wp2_with fail
      refine (known_any _).mono ?_
      rintro e w9 ⟨rfl, hk⟩
      go_wp2_with fail
      go_ret
      exact ⟨rfl, hBX.trans (hk.mono hBX.size)⟩
  have F4 := Lib.hid f4
  have HV2 := Lib.hid ((val_iff R2).1 f4)
  clear f4
  have HL1 := Lib.hid (fun (W : World) (hW : RD W W.heap.size pa pn ca cn ja jn R) => R3Length_any pa pn pc ca cn cc ja jn jc R W hW HV.out)
  have HL2 := Lib.hid (fun (W : World) (hW : RD W W.heap.size pa2 pn2 ca2 cn2 ja2 jn2 R2) => R3Length_any pa2 pn2 pc2 ca2 cn2 cc2 ja2 jn2 jc2 R2 W hW HV2.out)
  by_cases he : sumL R.ps = sumL R2.ps
  case neg =>
    have es : (sumL R.ps != sumL R2.ps) = true := by simpa using he
    clear he
    as_aux_lemma =>
      refine wp_region_ch 45 [1, 3, 5, 8, 10, 13, 16, 19, 21, 24, 26, 28, 31, 35, 40, 43] hmo (by kernel_rfl) ?_
      simp only [List.take_succ_cons, List.take_zero, List.drop_succ_cons, List.drop_zero]
      repeat (with_reducible refine wpC_q (by decide) (by decide) (fun K hK => ?_); go_simp; (try rw [if_neg (by simp [undef])]); refine hK _ ?_; clear hK K)
      with_reducible refine wpC_cg (ι := Unit) 5 #[.agg #[.slice pa pn pc, .slice ca cn cc, .slice ja jn jc]] (fun _ => .bool true) (fun _ _ => True) (by decide) (by decide) (by go_simp) (fun w => by go_simp) stable_true (fun _ => stable_true) (fun W hW _ => ?_) (fun i0 hs0 => ?_)
      · obtain ⟨pp, rfl⟩ := hW
        refine (HF1.out _ (HG1.out _ _)).mono ?_
        rintro e w' ⟨rfl, hbl⟩
        exact ⟨(), by rw [F0.out], trivial, hbl⟩
      repeat (with_reducible refine wpC_q (by decide) (by decide) (fun K hK => ?_); go_simp; (try rw [if_neg (by simp [undef])]); refine hK _ ?_; clear hK K)
      with_reducible refine wpC_vg (ι := Unit) (fun _ => .bool false) (fun _ _ => True) (by decide) (by decide) (by go_simp) hs0 (fun _ => stable_true) (fun W _ _ => ⟨(), W, by go_simp, trivial, Below.refl _ _⟩) (fun i1 hs1 => ?_)
      repeat (with_reducible refine wpC_q (by decide) (by decide) (fun K hK => ?_); go_simp; (try rw [if_neg (by simp [undef])]); refine hK _ ?_; clear hK K)
      with_reducible refine wpC_cg (ι := Unit) 5 #[.agg #[.slice pa2 pn2 pc2, .slice ca2 cn2 cc2, .slice ja2 jn2 jc2]] (fun _ => .bool true) (fun _ _ => True) (by decide) (by decide) (by go_simp) (fun w => by go_simp) hs1 (fun _ => stable_true) (fun W hW _ => ?_) (fun i2 hs2 => ?_)
      · obtain ⟨pp, rfl⟩ := hW
        refine (HF2.out _ (HG2.out _ _)).mono ?_
        rintro e w' ⟨rfl, hbl⟩
        exact ⟨(), by rw [F1.out], trivial, hbl⟩
      repeat (with_reducible refine wpC_q (by decide) (by decide) (fun K hK => ?_); go_simp; (try rw [if_neg (by simp [undef])]); refine hK _ ?_; clear hK K)
      with_reducible refine wpC_vg (ι := Unit) (fun _ => .bool false) (fun _ _ => True) (by decide) (by decide) (by go_simp) hs2 (fun _ => stable_true) (fun W _ _ => ⟨(), W, by go_simp, trivial, Below.refl _ _⟩) (fun i3 hs3 => ?_)
      repeat (with_reducible refine wpC_q (by decide) (by decide) (fun K hK => ?_); go_simp; (try rw [if_neg (by simp [undef])]); refine hK _ ?_; clear hK K)
      with_reducible refine wpC_cg (ι := Unit) 6 #[.agg #[.int .i64 S.least, .int .i64 S.most, .slice ra rn rc, .slice sa sn sc]] (fun _ => .bool true) (fun _ _ => True) (by decide) (by decide) (by go_simp) (fun w => by go_simp) hs3 (fun _ => stable_true) (fun W hW _ => ?_) (fun i4 hs4 => ?_)
      · obtain ⟨pp, rfl⟩ := hW
        refine (HQ.out _ (HG3.out _ _)).mono ?_
        rintro e w' ⟨rfl, hbl⟩
        exact ⟨(), by rw [F2.out], trivial, hbl⟩
      repeat (with_reducible refine wpC_q (by decide) (by decide) (fun K hK => ?_); go_simp; (try rw [if_neg (by simp [undef])]); refine hK _ ?_; clear hK K)
      with_reducible refine wpC_vg (ι := Unit) (fun _ => .bool false) (fun _ _ => True) (by decide) (by decide) (by go_simp) hs4 (fun _ => stable_true) (fun W _ _ => ⟨(), W, by go_simp, trivial, Below.refl _ _⟩) (fun i5 hs5 => ?_)
      repeat (with_reducible refine wpC_q (by decide) (by decide) (fun K hK => ?_); go_simp; (try rw [if_neg (by simp [undef])]); refine hK _ ?_; clear hK K)
      with_reducible refine wpC_cg (ι := Unit) 7 #[.agg #[.slice pa pn pc, .slice ca cn cc, .slice ja jn jc], .agg #[.int .i64 S.least, .int .i64 S.most, .slice ra rn rc, .slice sa sn sc]] (fun _ => .bool true) (fun _ _ => True) (by decide) (by decide) (by go_simp) (fun w => by go_simp) hs5 (fun _ => stable_true) (fun W hW _ => ?_) (fun i6 hs6 => ?_)
      · obtain ⟨pp, rfl⟩ := hW
        refine (HFi.out _ (HG1.out _ _) (HG3.out _ _)).mono ?_
        rintro e w' ⟨rfl, hbl⟩
        exact ⟨(), by rw [F3.out], trivial, hbl⟩
      repeat (with_reducible refine wpC_q (by decide) (by decide) (fun K hK => ?_); go_simp; (try rw [if_neg (by simp [undef])]); refine hK _ ?_; clear hK K)
      with_reducible refine wpC_vg (ι := Unit) (fun _ => .bool false) (fun _ _ => True) (by decide) (by decide) (by go_simp) hs6 (fun _ => stable_true) (fun W _ _ => ⟨(), W, by go_simp, trivial, Below.refl _ _⟩) (fun i7 hs7 => ?_)
      repeat (with_reducible refine wpC_q (by decide) (by decide) (fun K hK => ?_); go_simp; (try rw [if_neg (by simp [undef])]); refine hK _ ?_; clear hK K)
      with_reducible refine wpC_cg (ι := Unit) 8 #[.agg #[.slice pa2 pn2 pc2, .slice ca2 cn2 cc2, .slice ja2 jn2 jc2]] (fun _ => .bool true) (fun _ _ => True) (by decide) (by decide) (by go_simp) (fun w => by go_simp) hs7 (fun _ => stable_true) (fun W hW _ => ?_) (fun i8 hs8 => ?_)
      · obtain ⟨pp, rfl⟩ := hW
        refine (HVa.out _ (HG2.out _ _)).mono ?_
        rintro e w' ⟨rfl, hbl⟩
        exact ⟨(), by rw [F4.out], trivial, hbl⟩
      repeat (with_reducible refine wpC_q (by decide) (by decide) (fun K hK => ?_); go_simp; (try rw [if_neg (by simp [undef])]); refine hK _ ?_; clear hK K)
      with_reducible refine wpC_vg (ι := Unit) (fun _ => .bool false) (fun _ _ => True) (by decide) (by decide) (by go_simp) hs8 (fun _ => stable_true) (fun W _ _ => ⟨(), W, by go_simp, trivial, Below.refl _ _⟩) (fun i9 hs9 => ?_)
      repeat (with_reducible refine wpC_q (by decide) (by decide) (fun K hK => ?_); go_simp; (try rw [if_neg (by simp [undef])]); refine hK _ ?_; clear hK K)
      with_reducible refine wpC_cg (ι := Unit) 9 #[.agg #[.slice pa pn pc, .slice ca cn cc, .slice ja jn jc]] (fun _ => .int .i64 (sumL R.ps)) (fun _ _ => True) (by decide) (by decide) (by go_simp) (fun w => by go_simp) hs9 (fun _ => stable_true) (fun W hW _ => ?_) (fun i10 hs10 => ?_)
      · obtain ⟨pp, rfl⟩ := hW
        refine (HL1.out _ (HG1.out _ _)).mono ?_
        rintro e w' ⟨rfl, hbl⟩
        exact ⟨(), rfl, trivial, hbl⟩
      repeat (with_reducible refine wpC_q (by decide) (by decide) (fun K hK => ?_); go_simp; (try rw [if_neg (by simp [undef])]); refine hK _ ?_; clear hK K)
      with_reducible refine wpC_cg (ι := Unit) 9 #[.agg #[.slice pa2 pn2 pc2, .slice ca2 cn2 cc2, .slice ja2 jn2 jc2]] (fun _ => .int .i64 (sumL R2.ps)) (fun _ _ => True) (by decide) (by decide) (by go_simp) (fun w => by go_simp) hs10 (fun _ => stable_true) (fun W hW _ => ?_) (fun i11 hs11 => ?_)
      · obtain ⟨pp, rfl⟩ := hW
        refine (HL2.out _ (HG2.out _ _)).mono ?_
        rintro e w' ⟨rfl, hbl⟩
        exact ⟨(), rfl, trivial, hbl⟩
      repeat (with_reducible refine wpC_q (by decide) (by decide) (fun K hK => ?_); go_simp; (try rw [if_neg (by simp [undef])]); refine hK _ ?_; clear hK K)
      with_reducible refine wpC_vg (ι := Unit) (fun _ => .bool true) (fun _ _ => True) (by decide) (by decide) (by go_simp) hs11 (fun _ => stable_true) (fun W _ _ => ⟨(), W, by go_simp, trivial, Below.refl _ _⟩) (fun i12 hs12 => ?_)
      repeat (with_reducible refine wpC_q (by decide) (by decide) (fun K hK => ?_); go_simp; (try rw [if_neg (by simp [undef])]); refine hK _ ?_; clear hK K)
      with_reducible refine wpC_vg (ι := Unit) (fun _ => .bool true) (fun _ _ => True) (by decide) (by decide) (by go_simp) hs12 (fun _ => stable_true) (fun W _ _ => ⟨(), W, by go_simp, trivial, Below.refl _ _⟩) (fun i13 hs13 => ?_)
      repeat (with_reducible refine wpC_q (by decide) (by decide) (fun K hK => ?_); go_simp; (try rw [if_neg (by simp [undef])]); refine hK _ ?_; clear hK K)
      with_reducible refine wpC_vg (ι := Unit) (fun _ => .bool true) (fun _ _ => True) (by decide) (by decide) (by go_simp) hs13 (fun _ => stable_true) (fun W _ _ => ⟨(), W, by go_simp, trivial, Below.refl _ _⟩) (fun i14 hs14 => ?_)
      repeat (with_reducible refine wpC_q (by decide) (by decide) (fun K hK => ?_); go_simp; (try rw [if_neg (by simp [undef])]); refine hK _ ?_; clear hK K)
      with_reducible refine wpC_off (by decide) (by go_simp) ?_
      repeat (with_reducible refine wpC_q (by decide) (by decide) (fun K hK => ?_); go_simp; (try rw [if_neg (by simp [undef])]); refine hK _ ?_; clear hK K)
      refine wpC_nil ?_
      intro w2 hb2 _
      clear x0 x1 x2 z0 z1 z2 y0 y1 y2 y3 HG1 HG2 HG3 hs0 hs1 hs2 hs3 hs4 hs5 hs6 hs7 hs8 hs9 hs10 hs11 hs12 hs13 hs14
      have hBX := hB0.trans (hb2.mono hB0.size)
      go_wp2_with fail
      refine (known_any _).mono ?_
      rintro e w9 ⟨rfl, hk⟩
      go_wp2_with fail
      go_ret
      exact ⟨rfl, hBX.trans (hk.mono hBX.size)⟩
  have HE := Lib.hid he
  have es : (sumL R.ps != sumL R2.ps) = false := by simpa using he
  clear he
  by_cases hf0 : f < 0
  case pos =>
    have e6 : decide (f < 0) = true := decide_eq_true hf0
    as_aux_lemma =>
      refine wp_region_ch 45 [1, 3, 5, 8, 10, 13, 16, 19, 21, 24, 26, 28, 31, 35, 40, 43] hmo (by kernel_rfl) ?_
      simp only [List.take_succ_cons, List.take_zero, List.drop_succ_cons, List.drop_zero]
      repeat (with_reducible refine wpC_q (by decide) (by decide) (fun K hK => ?_); go_simp; (try rw [if_neg (by simp [undef])]); refine hK _ ?_; clear hK K)
      with_reducible refine wpC_cg (ι := Unit) 5 #[.agg #[.slice pa pn pc, .slice ca cn cc, .slice ja jn jc]] (fun _ => .bool true) (fun _ _ => True) (by decide) (by decide) (by go_simp) (fun w => by go_simp) stable_true (fun _ => stable_true) (fun W hW _ => ?_) (fun i0 hs0 => ?_)
      · obtain ⟨pp, rfl⟩ := hW
        refine (HF1.out _ (HG1.out _ _)).mono ?_
        rintro e w' ⟨rfl, hbl⟩
        exact ⟨(), by rw [F0.out], trivial, hbl⟩
      repeat (with_reducible refine wpC_q (by decide) (by decide) (fun K hK => ?_); go_simp; (try rw [if_neg (by simp [undef])]); refine hK _ ?_; clear hK K)
      with_reducible refine wpC_vg (ι := Unit) (fun _ => .bool false) (fun _ _ => True) (by decide) (by decide) (by go_simp) hs0 (fun _ => stable_true) (fun W _ _ => ⟨(), W, by go_simp, trivial, Below.refl _ _⟩) (fun i1 hs1 => ?_)
      repeat (with_reducible refine wpC_q (by decide) (by decide) (fun K hK => ?_); go_simp; (try rw [if_neg (by simp [undef])]); refine hK _ ?_; clear hK K)
      with_reducible refine wpC_cg (ι := Unit) 5 #[.agg #[.slice pa2 pn2 pc2, .slice ca2 cn2 cc2, .slice ja2 jn2 jc2]] (fun _ => .bool true) (fun _ _ => True) (by decide) (by decide) (by go_simp) (fun w => by go_simp) hs1 (fun _ => stable_true) (fun W hW _ => ?_) (fun i2 hs2 => ?_)
      · obtain ⟨pp, rfl⟩ := hW
        refine (HF2.out _ (HG2.out _ _)).mono ?_
        rintro e w' ⟨rfl, hbl⟩
        exact ⟨(), by rw [F1.out], trivial, hbl⟩
      repeat (with_reducible refine wpC_q (by decide) (by decide) (fun K hK => ?_); go_simp; (try rw [if_neg (by simp [undef])]); refine hK _ ?_; clear hK K)
      with_reducible refine wpC_vg (ι := Unit) (fun _ => .bool false) (fun _ _ => True) (by decide) (by decide) (by go_simp) hs2 (fun _ => stable_true) (fun W _ _ => ⟨(), W, by go_simp, trivial, Below.refl _ _⟩) (fun i3 hs3 => ?_)
      repeat (with_reducible refine wpC_q (by decide) (by decide) (fun K hK => ?_); go_simp; (try rw [if_neg (by simp [undef])]); refine hK _ ?_; clear hK K)
      with_reducible refine wpC_cg (ι := Unit) 6 #[.agg #[.int .i64 S.least, .int .i64 S.most, .slice ra rn rc, .slice sa sn sc]] (fun _ => .bool true) (fun _ _ => True) (by decide) (by decide) (by go_simp) (fun w => by go_simp) hs3 (fun _ => stable_true) (fun W hW _ => ?_) (fun i4 hs4 => ?_)
      · obtain ⟨pp, rfl⟩ := hW
        refine (HQ.out _ (HG3.out _ _)).mono ?_
        rintro e w' ⟨rfl, hbl⟩
        exact ⟨(), by rw [F2.out], trivial, hbl⟩
      repeat (with_reducible refine wpC_q (by decide) (by decide) (fun K hK => ?_); go_simp; (try rw [if_neg (by simp [undef])]); refine hK _ ?_; clear hK K)
      with_reducible refine wpC_vg (ι := Unit) (fun _ => .bool false) (fun _ _ => True) (by decide) (by decide) (by go_simp) hs4 (fun _ => stable_true) (fun W _ _ => ⟨(), W, by go_simp, trivial, Below.refl _ _⟩) (fun i5 hs5 => ?_)
      repeat (with_reducible refine wpC_q (by decide) (by decide) (fun K hK => ?_); go_simp; (try rw [if_neg (by simp [undef])]); refine hK _ ?_; clear hK K)
      with_reducible refine wpC_cg (ι := Unit) 7 #[.agg #[.slice pa pn pc, .slice ca cn cc, .slice ja jn jc], .agg #[.int .i64 S.least, .int .i64 S.most, .slice ra rn rc, .slice sa sn sc]] (fun _ => .bool true) (fun _ _ => True) (by decide) (by decide) (by go_simp) (fun w => by go_simp) hs5 (fun _ => stable_true) (fun W hW _ => ?_) (fun i6 hs6 => ?_)
      · obtain ⟨pp, rfl⟩ := hW
        refine (HFi.out _ (HG1.out _ _) (HG3.out _ _)).mono ?_
        rintro e w' ⟨rfl, hbl⟩
        exact ⟨(), by rw [F3.out], trivial, hbl⟩
      repeat (with_reducible refine wpC_q (by decide) (by decide) (fun K hK => ?_); go_simp; (try rw [if_neg (by simp [undef])]); refine hK _ ?_; clear hK K)
      with_reducible refine wpC_vg (ι := Unit) (fun _ => .bool false) (fun _ _ => True) (by decide) (by decide) (by go_simp) hs6 (fun _ => stable_true) (fun W _ _ => ⟨(), W, by go_simp, trivial, Below.refl _ _⟩) (fun i7 hs7 => ?_)
      repeat (with_reducible refine wpC_q (by decide) (by decide) (fun K hK => ?_); go_simp; (try rw [if_neg (by simp [undef])]); refine hK _ ?_; clear hK K)
      with_reducible refine wpC_cg (ι := Unit) 8 #[.agg #[.slice pa2 pn2 pc2, .slice ca2 cn2 cc2, .slice ja2 jn2 jc2]] (fun _ => .bool true) (fun _ _ => True) (by decide) (by decide) (by go_simp) (fun w => by go_simp) hs7 (fun _ => stable_true) (fun W hW _ => ?_) (fun i8 hs8 => ?_)
      · obtain ⟨pp, rfl⟩ := hW
        refine (HVa.out _ (HG2.out _ _)).mono ?_
        rintro e w' ⟨rfl, hbl⟩
        exact ⟨(), by rw [F4.out], trivial, hbl⟩
      repeat (with_reducible refine wpC_q (by decide) (by decide) (fun K hK => ?_); go_simp; (try rw [if_neg (by simp [undef])]); refine hK _ ?_; clear hK K)
      with_reducible refine wpC_vg (ι := Unit) (fun _ => .bool false) (fun _ _ => True) (by decide) (by decide) (by go_simp) hs8 (fun _ => stable_true) (fun W _ _ => ⟨(), W, by go_simp, trivial, Below.refl _ _⟩) (fun i9 hs9 => ?_)
      repeat (with_reducible refine wpC_q (by decide) (by decide) (fun K hK => ?_); go_simp; (try rw [if_neg (by simp [undef])]); refine hK _ ?_; clear hK K)
      with_reducible refine wpC_cg (ι := Unit) 9 #[.agg #[.slice pa pn pc, .slice ca cn cc, .slice ja jn jc]] (fun _ => .int .i64 (sumL R.ps)) (fun _ _ => True) (by decide) (by decide) (by go_simp) (fun w => by go_simp) hs9 (fun _ => stable_true) (fun W hW _ => ?_) (fun i10 hs10 => ?_)
      · obtain ⟨pp, rfl⟩ := hW
        refine (HL1.out _ (HG1.out _ _)).mono ?_
        rintro e w' ⟨rfl, hbl⟩
        exact ⟨(), rfl, trivial, hbl⟩
      repeat (with_reducible refine wpC_q (by decide) (by decide) (fun K hK => ?_); go_simp; (try rw [if_neg (by simp [undef])]); refine hK _ ?_; clear hK K)
      with_reducible refine wpC_cg (ι := Unit) 9 #[.agg #[.slice pa2 pn2 pc2, .slice ca2 cn2 cc2, .slice ja2 jn2 jc2]] (fun _ => .int .i64 (sumL R2.ps)) (fun _ _ => True) (by decide) (by decide) (by go_simp) (fun w => by go_simp) hs10 (fun _ => stable_true) (fun W hW _ => ?_) (fun i11 hs11 => ?_)
      · obtain ⟨pp, rfl⟩ := hW
        refine (HL2.out _ (HG2.out _ _)).mono ?_
        rintro e w' ⟨rfl, hbl⟩
        exact ⟨(), rfl, trivial, hbl⟩
      repeat (with_reducible refine wpC_q (by decide) (by decide) (fun K hK => ?_); go_simp; (try rw [if_neg (by simp [undef])]); refine hK _ ?_; clear hK K)
      with_reducible refine wpC_vg (ι := Unit) (fun _ => .bool false) (fun _ _ => True) (by decide) (by decide) (by go_simp) hs11 (fun _ => stable_true) (fun W _ _ => ⟨(), W, by go_simp, trivial, Below.refl _ _⟩) (fun i12 hs12 => ?_)
      repeat (with_reducible refine wpC_q (by decide) (by decide) (fun K hK => ?_); go_simp; (try rw [if_neg (by simp [undef])]); refine hK _ ?_; clear hK K)
      with_reducible refine wpC_vg (ι := Unit) (fun _ => .bool true) (fun _ _ => True) (by decide) (by decide) (by go_simp) hs12 (fun _ => stable_true) (fun W _ _ => ⟨(), W, by go_simp, trivial, Below.refl _ _⟩) (fun i13 hs13 => ?_)
      repeat (with_reducible refine wpC_q (by decide) (by decide) (fun K hK => ?_); go_simp; (try rw [if_neg (by simp [undef])]); refine hK _ ?_; clear hK K)
      with_reducible refine wpC_vg (ι := Unit) (fun _ => .bool true) (fun _ _ => True) (by decide) (by decide) (by go_simp) hs13 (fun _ => stable_true) (fun W _ _ => ⟨(), W, by go_simp, trivial, Below.refl _ _⟩) (fun i14 hs14 => ?_)
      repeat (with_reducible refine wpC_q (by decide) (by decide) (fun K hK => ?_); go_simp; (try rw [if_neg (by simp [undef])]); refine hK _ ?_; clear hK K)
      with_reducible refine wpC_off (by decide) (by go_simp) ?_
      repeat (with_reducible refine wpC_q (by decide) (by decide) (fun K hK => ?_); go_simp; (try rw [if_neg (by simp [undef])]); refine hK _ ?_; clear hK K)
      refine wpC_nil ?_
      intro w2 hb2 _
      clear x0 x1 x2 z0 z1 z2 y0 y1 y2 y3 HG1 HG2 HG3 hs0 hs1 hs2 hs3 hs4 hs5 hs6 hs7 hs8 hs9 hs10 hs11 hs12 hs13 hs14
      have hBX := hB0.trans (hb2.mono hB0.size)
      go_wp2_with fail
      refine (known_any _).mono ?_
      rintro e w9 ⟨rfl, hk⟩
      go_wp2_with fail
      go_ret
      exact ⟨rfl, hBX.trans (hk.mono hBX.size)⟩
  have e6 : decide (f < 0) = false := decide_eq_false hf0
  by_cases hft : t < f
  case pos =>
    have e7 : decide (t < f) = true := decide_eq_true hft
    as_aux_lemma =>
      refine wp_region_ch 45 [1, 3, 5, 8, 10, 13, 16, 19, 21, 24, 26, 28, 31, 35, 40, 43] hmo (by kernel_rfl) ?_
      simp only [List.take_succ_cons, List.take_zero, List.drop_succ_cons, List.drop_zero]
      repeat (with_reducible refine wpC_q (by decide) (by decide) (fun K hK => ?_); go_simp; (try rw [if_neg (by simp [undef])]); refine hK _ ?_; clear hK K)
      with_reducible refine wpC_cg (ι := Unit) 5 #[.agg #[.slice pa pn pc, .slice ca cn cc, .slice ja jn jc]] (fun _ => .bool true) (fun _ _ => True) (by decide) (by decide) (by go_simp) (fun w => by go_simp) stable_true (fun _ => stable_true) (fun W hW _ => ?_) (fun i0 hs0 => ?_)
      · obtain ⟨pp, rfl⟩ := hW
        refine (HF1.out _ (HG1.out _ _)).mono ?_
        rintro e w' ⟨rfl, hbl⟩
        exact ⟨(), by rw [F0.out], trivial, hbl⟩
      repeat (with_reducible refine wpC_q (by decide) (by decide) (fun K hK => ?_); go_simp; (try rw [if_neg (by simp [undef])]); refine hK _ ?_; clear hK K)
      with_reducible refine wpC_vg (ι := Unit) (fun _ => .bool false) (fun _ _ => True) (by decide) (by decide) (by go_simp) hs0 (fun _ => stable_true) (fun W _ _ => ⟨(), W, by go_simp, trivial, Below.refl _ _⟩) (fun i1 hs1 => ?_)
      repeat (with_reducible refine wpC_q (by decide) (by decide) (fun K hK => ?_); go_simp; (try rw [if_neg (by simp [undef])]); refine hK _ ?_; clear hK K)
      with_reducible refine wpC_cg (ι := Unit) 5 #[.agg #[.slice pa2 pn2 pc2, .slice ca2 cn2 cc2, .slice ja2 jn2 jc2]] (fun _ => .bool true) (fun _ _ => True) (by decide) (by decide) (by go_simp) (fun w => by go_simp) hs1 (fun _ => stable_true) (fun W hW _ => ?_) (fun i2 hs2 => ?_)
      · obtain ⟨pp, rfl⟩ := hW
        refine (HF2.out _ (HG2.out _ _)).mono ?_
        rintro e w' ⟨rfl, hbl⟩
        exact ⟨(), by rw [F1.out], trivial, hbl⟩
      repeat (with_reducible refine wpC_q (by decide) (by decide) (fun K hK => ?_); go_simp; (try rw [if_neg (by simp [undef])]); refine hK _ ?_; clear hK K)
      with_reducible refine wpC_vg (ι := Unit) (fun _ => .bool false) (fun _ _ => True) (by decide) (by decide) (by go_simp) hs2 (fun _ => stable_true) (fun W _ _ => ⟨(), W, by go_simp, trivial, Below.refl _ _⟩) (fun i3 hs3 => ?_)
      repeat (with_reducible refine wpC_q (by decide) (by decide) (fun K hK => ?_); go_simp; (try rw [if_neg (by simp [undef])]); refine hK _ ?_; clear hK K)
      with_reducible refine wpC_cg (ι := Unit) 6 #[.agg #[.int .i64 S.least, .int .i64 S.most, .slice ra rn rc, .slice sa sn sc]] (fun _ => .bool true) (fun _ _ => True) (by decide) (by decide) (by go_simp) (fun w => by go_simp) hs3 (fun _ => stable_true) (fun W hW _ => ?_) (fun i4 hs4 => ?_)
      · obtain ⟨pp, rfl⟩ := hW
        refine (HQ.out _ (HG3.out _ _)).mono ?_
        rintro e w' ⟨rfl, hbl⟩
        exact ⟨(), by rw [F2.out], trivial, hbl⟩
      repeat (with_reducible refine wpC_q (by decide) (by decide) (fun K hK => ?_); go_simp; (try rw [if_neg (by simp [undef])]); refine hK _ ?_; clear hK K)
      with_reducible refine wpC_vg (ι := Unit) (fun _ => .bool false) (fun _ _ => True) (by decide) (by decide) (by go_simp) hs4 (fun _ => stable_true) (fun W _ _ => ⟨(), W, by go_simp, trivial, Below.refl _ _⟩) (fun i5 hs5 => ?_)
      repeat (with_reducible refine wpC_q (by decide) (by decide) (fun K hK => ?_); go_simp; (try rw [if_neg (by simp [undef])]); refine hK _ ?_; clear hK K)
      with_reducible refine wpC_cg (ι := Unit) 7 #[.agg #[.slice pa pn pc, .slice ca cn cc, .slice ja jn jc], .agg #[.int .i64 S.least, .int .i64 S.most, .slice ra rn rc, .slice sa sn sc]] (fun _ => .bool true) (fun _ _ => True) (by decide) (by decide) (by go_simp) (fun w => by go_simp) hs5 (fun _ => stable_true) (fun W hW _ => ?_) (fun i6 hs6 => ?_)
      · obtain ⟨pp, rfl⟩ := hW
        refine (HFi.out _ (HG1.out _ _) (HG3.out _ _)).mono ?_
        rintro e w' ⟨rfl, hbl⟩
        exact ⟨(), by rw [F3.out], trivial, hbl⟩
      repeat (with_reducible refine wpC_q (by decide) (by decide) (fun K hK => ?_); go_simp; (try rw [if_neg (by simp [undef])]); refine hK _ ?_; clear hK K)
      with_reducible refine wpC_vg (ι := Unit) (fun _ => .bool false) (fun _ _ => True) (by decide) (by decide) (by go_simp) hs6 (fun _ => stable_true) (fun W _ _ => ⟨(), W, by go_simp, trivial, Below.refl _ _⟩) (fun i7 hs7 => ?_)
      repeat (with_reducible refine wpC_q (by decide) (by decide) (fun K hK => ?_); go_simp; (try rw [if_neg (by simp [undef])]); refine hK _ ?_; clear hK K)
      with_reducible refine wpC_cg (ι := Unit) 8 #[.agg #[.slice pa2 pn2 pc2, .slice ca2 cn2 cc2, .slice ja2 jn2 jc2]] (fun _ => .bool true) (fun _ _ => True) (by decide) (by decide) (by go_simp) (fun w => by go_simp) hs7 (fun _ => stable_true) (fun W hW _ => ?_) (fun i8 hs8 => ?_)
      · obtain ⟨pp, rfl⟩ := hW
        refine (HVa.out _ (HG2.out _ _)).mono ?_
        rintro e w' ⟨rfl, hbl⟩
        exact ⟨(), by rw [F4.out], trivial, hbl⟩
      repeat (with_reducible refine wpC_q (by decide) (by decide) (fun K hK => ?_); go_simp; (try rw [if_neg (by simp [undef])]); refine hK _ ?_; clear hK K)
      with_reducible refine wpC_vg (ι := Unit) (fun _ => .bool false) (fun _ _ => True) (by decide) (by decide) (by go_simp) hs8 (fun _ => stable_true) (fun W _ _ => ⟨(), W, by go_simp, trivial, Below.refl _ _⟩) (fun i9 hs9 => ?_)
      repeat (with_reducible refine wpC_q (by decide) (by decide) (fun K hK => ?_); go_simp; (try rw [if_neg (by simp [undef])]); refine hK _ ?_; clear hK K)
      with_reducible refine wpC_cg (ι := Unit) 9 #[.agg #[.slice pa pn pc, .slice ca cn cc, .slice ja jn jc]] (fun _ => .int .i64 (sumL R.ps)) (fun _ _ => True) (by decide) (by decide) (by go_simp) (fun w => by go_simp) hs9 (fun _ => stable_true) (fun W hW _ => ?_) (fun i10 hs10 => ?_)
      · obtain ⟨pp, rfl⟩ := hW
        refine (HL1.out _ (HG1.out _ _)).mono ?_
        rintro e w' ⟨rfl, hbl⟩
        exact ⟨(), rfl, trivial, hbl⟩
      repeat (with_reducible refine wpC_q (by decide) (by decide) (fun K hK => ?_); go_simp; (try rw [if_neg (by simp [undef])]); refine hK _ ?_; clear hK K)
      with_reducible refine wpC_cg (ι := Unit) 9 #[.agg #[.slice pa2 pn2 pc2, .slice ca2 cn2 cc2, .slice ja2 jn2 jc2]] (fun _ => .int .i64 (sumL R2.ps)) (fun _ _ => True) (by decide) (by decide) (by go_simp) (fun w => by go_simp) hs10 (fun _ => stable_true) (fun W hW _ => ?_) (fun i11 hs11 => ?_)
      · obtain ⟨pp, rfl⟩ := hW
        refine (HL2.out _ (HG2.out _ _)).mono ?_
        rintro e w' ⟨rfl, hbl⟩
        exact ⟨(), rfl, trivial, hbl⟩
      repeat (with_reducible refine wpC_q (by decide) (by decide) (fun K hK => ?_); go_simp; (try rw [if_neg (by simp [undef])]); refine hK _ ?_; clear hK K)
      with_reducible refine wpC_vg (ι := Unit) (fun _ => .bool false) (fun _ _ => True) (by decide) (by decide) (by go_simp) hs11 (fun _ => stable_true) (fun W _ _ => ⟨(), W, by go_simp, trivial, Below.refl _ _⟩) (fun i12 hs12 => ?_)
      repeat (with_reducible refine wpC_q (by decide) (by decide) (fun K hK => ?_); go_simp; (try rw [if_neg (by simp [undef])]); refine hK _ ?_; clear hK K)
      with_reducible refine wpC_vg (ι := Unit) (fun _ => .bool false) (fun _ _ => True) (by decide) (by decide) (by go_simp) hs12 (fun _ => stable_true) (fun W _ _ => ⟨(), W, by go_simp, trivial, Below.refl _ _⟩) (fun i13 hs13 => ?_)
      repeat (with_reducible refine wpC_q (by decide) (by decide) (fun K hK => ?_); go_simp; (try rw [if_neg (by simp [undef])]); refine hK _ ?_; clear hK K)
      with_reducible refine wpC_vg (ι := Unit) (fun _ => .bool true) (fun _ _ => True) (by decide) (by decide) (by go_simp) hs13 (fun _ => stable_true) (fun W _ _ => ⟨(), W, by go_simp, trivial, Below.refl _ _⟩) (fun i14 hs14 => ?_)
      repeat (with_reducible refine wpC_q (by decide) (by decide) (fun K hK => ?_); go_simp; (try rw [if_neg (by simp [undef])]); refine hK _ ?_; clear hK K)
      with_reducible refine wpC_off (by decide) (by go_simp) ?_
      repeat (with_reducible refine wpC_q (by decide) (by decide) (fun K hK => ?_); go_simp; (try rw [if_neg (by simp [undef])]); refine hK _ ?_; clear hK K)
      refine wpC_nil ?_
      intro w2 hb2 _
      clear x0 x1 x2 z0 z1 z2 y0 y1 y2 y3 HG1 HG2 HG3 hs0 hs1 hs2 hs3 hs4 hs5 hs6 hs7 hs8 hs9 hs10 hs11 hs12 hs13 hs14
      have hBX := hB0.trans (hb2.mono hB0.size)
      go_wp2_with fail
      refine (known_any _).mono ?_
      rintro e w9 ⟨rfl, hk⟩
      go_wp2_with fail
      go_ret
      exact ⟨rfl, hBX.trans (hk.mono hBX.size)⟩
  have e7 : decide (t < f) = false := decide_eq_false hft
  by_cases htn : sumL R.ps < t
  case pos =>
    have e8 : decide (sumL R.ps < t) = true := decide_eq_true htn
    as_aux_lemma =>
      refine wp_region_ch 45 [1, 3, 5, 8, 10, 13, 16, 19, 21, 24, 26, 28, 31, 35, 40, 43] hmo (by kernel_rfl) ?_
      simp only [List.take_succ_cons, List.take_zero, List.drop_succ_cons, List.drop_zero]
      repeat (with_reducible refine wpC_q (by decide) (by decide) (fun K hK => ?_); go_simp; (try rw [if_neg (by simp [undef])]); refine hK _ ?_; clear hK K)
      with_reducible refine wpC_cg (ι := Unit) 5 #[.agg #[.slice pa pn pc, .slice ca cn cc, .slice ja jn jc]] (fun _ => .bool true) (fun _ _ => True) (by decide) (by decide) (by go_simp) (fun w => by go_simp) stable_true (fun _ => stable_true) (fun W hW _ => ?_) (fun i0 hs0 => ?_)
      · obtain ⟨pp, rfl⟩ := hW
        refine (HF1.out _ (HG1.out _ _)).mono ?_
        rintro e w' ⟨rfl, hbl⟩
        exact ⟨(), by rw [F0.out], trivial, hbl⟩
      repeat (with_reducible refine wpC_q (by decide) (by decide) (fun K hK => ?_); go_simp; (try rw [if_neg (by simp [undef])]); refine hK _ ?_; clear hK K)
      with_reducible refine wpC_vg (ι := Unit) (fun _ => .bool false) (fun _ _ => True) (by decide) (by decide) (by go_simp) hs0 (fun _ => stable_true) (fun W _ _ => ⟨(), W, by go_simp, trivial, Below.refl _ _⟩) (fun i1 hs1 => ?_)
      repeat (with_reducible refine wpC_q (by decide) (by decide) (fun K hK => ?_); go_simp; (try rw [if_neg (by simp [undef])]); refine hK _ ?_; clear hK K)
      with_reducible refine wpC_cg (ι := Unit) 5 #[.agg #[.slice pa2 pn2 pc2, .slice ca2 cn2 cc2, .slice ja2 jn2 jc2]] (fun _ => .bool true) (fun _ _ => True) (by decide) (by decide) (by go_simp) (fun w => by go_simp) hs1 (fun _ => stable_true) (fun W hW _ => ?_) (fun i2 hs2 => ?_)
      · obtain ⟨pp, rfl⟩ := hW
        refine (HF2.out _ (HG2.out _ _)).mono ?_
        rintro e w' ⟨rfl, hbl⟩
        exact ⟨(), by rw [F1.out], trivial, hbl⟩
      repeat (with_reducible refine wpC_q (by decide) (by decide) (fun K hK => ?_); go_simp; (try rw [if_neg (by simp [undef])]); refine hK _ ?_; clear hK K)
      with_reducible refine wpC_vg (ι := Unit) (fun _ => .bool false) (fun _ _ => True) (by decide) (by decide) (by go_simp) hs2 (fun _ => stable_true) (fun W _ _ => ⟨(), W, by go_simp, trivial, Below.refl _ _⟩) (fun i3 hs3 => ?_)
      repeat (with_reducible refine wpC_q (by decide) (by decide) (fun K hK => ?_); go_simp; (try rw [if_neg (by simp [undef])]); refine hK _ ?_; clear hK K)
      with_reducible refine wpC_cg (ι := Unit) 6 #[.agg #[.int .i64 S.least, .int .i64 S.most, .slice ra rn rc, .slice sa sn sc]] (fun _ => .bool true) (fun _ _ => True) (by decide) (by decide) (by go_simp) (fun w => by go_simp) hs3 (fun _ => stable_true) (fun W hW _ => ?_) (fun i4 hs4 => ?_)
      · obtain ⟨pp, rfl⟩ := hW
        refine (HQ.out _ (HG3.out _ _)).mono ?_
        rintro e w' ⟨rfl, hbl⟩
        exact ⟨(), by rw [F2.out], trivial, hbl⟩
      repeat (with_reducible refine wpC_q (by decide) (by decide) (fun K hK => ?_); go_simp; (try rw [if_neg (by simp [undef])]); refine hK _ ?_; clear hK K)
      with_reducible refine wpC_vg (ι := Unit) (fun _ => .bool false) (fun _ _ => True) (by decide) (by decide) (by go_simp) hs4 (fun _ => stable_true) (fun W _ _ => ⟨(), W, by go_simp, trivial, Below.refl _ _⟩) (fun i5 hs5 => ?_)
      repeat (with_reducible refine wpC_q (by decide) (by decide) (fun K hK => ?_); go_simp; (try rw [if_neg (by simp [undef])]); refine hK _ ?_; clear hK K)
      with_reducible refine wpC_cg (ι := Unit) 7 #[.agg #[.slice pa pn pc, .slice ca cn cc, .slice ja jn jc], .agg #[.int .i64 S.least, .int .i64 S.most, .slice ra rn rc, .slice sa sn sc]] (fun _ => .bool true) (fun _ _ => True) (by decide) (by decide) (by go_simp) (fun w => by go_simp) hs5 (fun _ => stable_true) (fun W hW _ => ?_) (fun i6 hs6 => ?_)
      · obtain ⟨pp, rfl⟩ := hW
        refine (HFi.out _ (HG1.out _ _) (HG3.out _ _)).mono ?_
        rintro e w' ⟨rfl, hbl⟩
        exact ⟨(), by rw [F3.out], trivial, hbl⟩
      repeat (with_reducible refine wpC_q (by decide) (by decide) (fun K hK => ?_); go_simp; (try rw [if_neg (by simp [undef])]); refine hK _ ?_; clear hK K)
      with_reducible refine wpC_vg (ι := Unit) (fun _ => .bool false) (fun _ _ => True) (by decide) (by decide) (by go_simp) hs6 (fun _ => stable_true) (fun W _ _ => ⟨(), W, by go_simp, trivial, Below.refl _ _⟩) (fun i7 hs7 => ?_)
      repeat (with_reducible refine wpC_q (by decide) (by decide) (fun K hK => ?_); go_simp; (try rw [if_neg (by simp [undef])]); refine hK _ ?_; clear hK K)
      with_reducible refine wpC_cg (ι := Unit) 8 #[.agg #[.slice pa2 pn2 pc2, .slice ca2 cn2 cc2, .slice ja2 jn2 jc2]] (fun _ => .bool true) (fun _ _ => True) (by decide) (by decide) (by go_simp) (fun w => by go_simp) hs7 (fun _ => stable_true) (fun W hW _ => ?_) (fun i8 hs8 => ?_)
      · obtain ⟨pp, rfl⟩ := hW
        refine (HVa.out _ (HG2.out _ _)).mono ?_
        rintro e w' ⟨rfl, hbl⟩
        exact ⟨(), by rw [F4.out], trivial, hbl⟩
      repeat (with_reducible refine wpC_q (by decide) (by decide) (fun K hK => ?_); go_simp; (try rw [if_neg (by simp [undef])]); refine hK _ ?_; clear hK K)
      with_reducible refine wpC_vg (ι := Unit) (fun _ => .bool false) (fun _ _ => True) (by decide) (by decide) (by go_simp) hs8 (fun _ => stable_true) (fun W _ _ => ⟨(), W, by go_simp, trivial, Below.refl _ _⟩) (fun i9 hs9 => ?_)
      repeat (with_reducible refine wpC_q (by decide) (by decide) (fun K hK => ?_); go_simp; (try rw [if_neg (by simp [undef])]); refine hK _ ?_; clear hK K)
      with_reducible refine wpC_cg (ι := Unit) 9 #[.agg #[.slice pa pn pc, .slice ca cn cc, .slice ja jn jc]] (fun _ => .int .i64 (sumL R.ps)) (fun _ _ => True) (by decide) (by decide) (by go_simp) (fun w => by go_simp) hs9 (fun _ => stable_true) (fun W hW _ => ?_) (fun i10 hs10 => ?_)
      · obtain ⟨pp, rfl⟩ := hW
        refine (HL1.out _ (HG1.out _ _)).mono ?_
        rintro e w' ⟨rfl, hbl⟩
        exact ⟨(), rfl, trivial, hbl⟩
      repeat (with_reducible refine wpC_q (by decide) (by decide) (fun K hK => ?_); go_simp; (try rw [if_neg (by simp [undef])]); refine hK _ ?_; clear hK K)
      with_reducible refine wpC_cg (ι := Unit) 9 #[.agg #[.slice pa2 pn2 pc2, .slice ca2 cn2 cc2, .slice ja2 jn2 jc2]] (fun _ => .int .i64 (sumL R2.ps)) (fun _ _ => True) (by decide) (by decide) (by go_simp) (fun w => by go_simp) hs10 (fun _ => stable_true) (fun W hW _ => ?_) (fun i11 hs11 => ?_)
      · obtain ⟨pp, rfl⟩ := hW
        refine (HL2.out _ (HG2.out _ _)).mono ?_
        rintro e w' ⟨rfl, hbl⟩
        exact ⟨(), rfl, trivial, hbl⟩
      repeat (with_reducible refine wpC_q (by decide) (by decide) (fun K hK => ?_); go_simp; (try rw [if_neg (by simp [undef])]); refine hK _ ?_; clear hK K)
      with_reducible refine wpC_vg (ι := Unit) (fun _ => .bool false) (fun _ _ => True) (by decide) (by decide) (by go_simp) hs11 (fun _ => stable_true) (fun W _ _ => ⟨(), W, by go_simp, trivial, Below.refl _ _⟩) (fun i12 hs12 => ?_)
      repeat (with_reducible refine wpC_q (by decide) (by decide) (fun K hK => ?_); go_simp; (try rw [if_neg (by simp [undef])]); refine hK _ ?_; clear hK K)
      with_reducible refine wpC_vg (ι := Unit) (fun _ => .bool false) (fun _ _ => True) (by decide) (by decide) (by go_simp) hs12 (fun _ => stable_true) (fun W _ _ => ⟨(), W, by go_simp, trivial, Below.refl _ _⟩) (fun i13 hs13 => ?_)
      repeat (with_reducible refine wpC_q (by decide) (by decide) (fun K hK => ?_); go_simp; (try rw [if_neg (by simp [undef])]); refine hK _ ?_; clear hK K)
      with_reducible refine wpC_vg (ι := Unit) (fun _ => .bool false) (fun _ _ => True) (by decide) (by decide) (by go_simp) hs13 (fun _ => stable_true) (fun W _ _ => ⟨(), W, by go_simp, trivial, Below.refl _ _⟩) (fun i14 hs14 => ?_)
      repeat (with_reducible refine wpC_q (by decide) (by decide) (fun K hK => ?_); go_simp; (try rw [if_neg (by simp [undef])]); refine hK _ ?_; clear hK K)
      with_reducible refine wpC_cg (ι := Unit) 9 #[.agg #[.slice pa pn pc, .slice ca cn cc, .slice ja jn jc]] (fun _ => .int .i64 (sumL R.ps)) (fun _ _ => True) (by decide) (by decide) (by go_simp) (fun w => by go_simp) hs14 (fun _ => stable_true) (fun W hW _ => ?_) (fun i15 hs15 => ?_)
      · obtain ⟨pp, rfl⟩ := hW
        refine (HL1.out _ (HG1.out _ _)).mono ?_
        rintro e w' ⟨rfl, hbl⟩
        exact ⟨(), rfl, trivial, hbl⟩
      repeat (with_reducible refine wpC_q (by decide) (by decide) (fun K hK => ?_); go_simp; (try rw [if_neg (by simp [undef])]); refine hK _ ?_; clear hK K)
      refine wpC_nil ?_
      intro w2 hb2 _
      clear x0 x1 x2 z0 z1 z2 y0 y1 y2 y3 HG1 HG2 HG3 hs0 hs1 hs2 hs3 hs4 hs5 hs6 hs7 hs8 hs9 hs10 hs11 hs12 hs13 hs14 hs15
      have hBX := hB0.trans (hb2.mono hB0.size)
      go_wp2_with fail
      refine (known_any _).mono ?_
      rintro e w9 ⟨rfl, hk⟩
      go_wp2_with fail
      go_ret
      exact ⟨rfl, hBX.trans (hk.mono hBX.size)⟩
  have e8 : decide (sumL R.ps < t) = false := decide_eq_false htn
  refine wp_region_ch 45 [1, 3, 5, 8, 10, 13, 16, 19, 21, 24, 26, 28, 31, 35, 40, 43] hmo (by kernel_rfl) ?_
  simp only [List.take_succ_cons, List.take_zero, List.drop_succ_cons, List.drop_zero]
  repeat (with_reducible refine wpC_q (by decide) (by decide) (fun K hK => ?_); go_simp; (try rw [if_neg (by simp [undef])]); refine hK _ ?_; clear hK K)
  with_reducible refine wpC_cg (ι := Unit) 5 #[.agg #[.slice pa pn pc, .slice ca cn cc, .slice ja jn jc]] (fun _ => .bool true) (fun _ _ => True) (by decide) (by decide) (by go_simp) (fun w => by go_simp) stable_true (fun _ => stable_true) (fun W hW _ => ?_) (fun i0 hs0 => ?_)
  · obtain ⟨pp, rfl⟩ := hW
    refine (HF1.out _ (HG1.out _ _)).mono ?_
    rintro e w' ⟨rfl, hbl⟩
    exact ⟨(), by rw [F0.out], trivial, hbl⟩
  repeat (with_reducible refine wpC_q (by decide) (by decide) (fun K hK => ?_); go_simp; (try rw [if_neg (by simp [undef])]); refine hK _ ?_; clear hK K)
  with_reducible refine wpC_vg (ι := Unit) (fun _ => .bool false) (fun _ _ => True) (by decide) (by decide) (by go_simp) hs0 (fun _ => stable_true) (fun W _ _ => ⟨(), W, by go_simp, trivial, Below.refl _ _⟩) (fun i1 hs1 => ?_)
  repeat (with_reducible refine wpC_q (by decide) (by decide) (fun K hK => ?_); go_simp; (try rw [if_neg (by simp [undef])]); refine hK _ ?_; clear hK K)
  with_reducible refine wpC_cg (ι := Unit) 5 #[.agg #[.slice pa2 pn2 pc2, .slice ca2 cn2 cc2, .slice ja2 jn2 jc2]] (fun _ => .bool true) (fun _ _ => True) (by decide) (by decide) (by go_simp) (fun w => by go_simp) hs1 (fun _ => stable_true) (fun W hW _ => ?_) (fun i2 hs2 => ?_)
  · obtain ⟨pp, rfl⟩ := hW
    refine (HF2.out _ (HG2.out _ _)).mono ?_
    rintro e w' ⟨rfl, hbl⟩
    exact ⟨(), by rw [F1.out], trivial, hbl⟩
  repeat (with_reducible refine wpC_q (by decide) (by decide) (fun K hK => ?_); go_simp; (try rw [if_neg (by simp [undef])]); refine hK _ ?_; clear hK K)
  with_reducible refine wpC_vg (ι := Unit) (fun _ => .bool false) (fun _ _ => True) (by decide) (by decide) (by go_simp) hs2 (fun _ => stable_true) (fun W _ _ => ⟨(), W, by go_simp, trivial, Below.refl _ _⟩) (fun i3 hs3 => ?_)
  repeat (with_reducible refine wpC_q (by decide) (by decide) (fun K hK => ?_); go_simp; (try rw [if_neg (by simp [undef])]); refine hK _ ?_; clear hK K)
  with_reducible refine wpC_cg (ι := Unit) 6 #[.agg #[.int .i64 S.least, .int .i64 S.most, .slice ra rn rc, .slice sa sn sc]] (fun _ => .bool true) (fun _ _ => True) (by decide) (by decide) (by go_simp) (fun w => by go_simp) hs3 (fun _ => stable_true) (fun W hW _ => ?_) (fun i4 hs4 => ?_)
  · obtain ⟨pp, rfl⟩ := hW
    refine (HQ.out _ (HG3.out _ _)).mono ?_
    rintro e w' ⟨rfl, hbl⟩
    exact ⟨(), by rw [F2.out], trivial, hbl⟩
  repeat (with_reducible refine wpC_q (by decide) (by decide) (fun K hK => ?_); go_simp; (try rw [if_neg (by simp [undef])]); refine hK _ ?_; clear hK K)
  with_reducible refine wpC_vg (ι := Unit) (fun _ => .bool false) (fun _ _ => True) (by decide) (by decide) (by go_simp) hs4 (fun _ => stable_true) (fun W _ _ => ⟨(), W, by go_simp, trivial, Below.refl _ _⟩) (fun i5 hs5 => ?_)
  repeat (with_reducible refine wpC_q (by decide) (by decide) (fun K hK => ?_); go_simp; (try rw [if_neg (by simp [undef])]); refine hK _ ?_; clear hK K)
  with_reducible refine wpC_cg (ι := Unit) 7 #[.agg #[.slice pa pn pc, .slice ca cn cc, .slice ja jn jc], .agg #[.int .i64 S.least, .int .i64 S.most, .slice ra rn rc, .slice sa sn sc]] (fun _ => .bool true) (fun _ _ => True) (by decide) (by decide) (by go_simp) (fun w => by go_simp) hs5 (fun _ => stable_true) (fun W hW _ => ?_) (fun i6 hs6 => ?_)
  · obtain ⟨pp, rfl⟩ := hW
    refine (HFi.out _ (HG1.out _ _) (HG3.out _ _)).mono ?_
    rintro e w' ⟨rfl, hbl⟩
    exact ⟨(), by rw [F3.out], trivial, hbl⟩
  repeat (with_reducible refine wpC_q (by decide) (by decide) (fun K hK => ?_); go_simp; (try rw [if_neg (by simp [undef])]); refine hK _ ?_; clear hK K)
  with_reducible refine wpC_vg (ι := Unit) (fun _ => .bool false) (fun _ _ => True) (by decide) (by decide) (by go_simp) hs6 (fun _ => stable_true) (fun W _ _ => ⟨(), W, by go_simp, trivial, Below.refl _ _⟩) (fun i7 hs7 => ?_)
  repeat (with_reducible refine wpC_q (by decide) (by decide) (fun K hK => ?_); go_simp; (try rw [if_neg (by simp [undef])]); refine hK _ ?_; clear hK K)
  with_reducible refine wpC_cg (ι := Unit) 8 #[.agg #[.slice pa2 pn2 pc2, .slice ca2 cn2 cc2, .slice ja2 jn2 jc2]] (fun _ => .bool true) (fun _ _ => True) (by decide) (by decide) (by go_simp) (fun w => by go_simp) hs7 (fun _ => stable_true) (fun W hW _ => ?_) (fun i8 hs8 => ?_)
  · obtain ⟨pp, rfl⟩ := hW
    refine (HVa.out _ (HG2.out _ _)).mono ?_
    rintro e w' ⟨rfl, hbl⟩
    exact ⟨(), by rw [F4.out], trivial, hbl⟩
  repeat (with_reducible refine wpC_q (by decide) (by decide) (fun K hK => ?_); go_simp; (try rw [if_neg (by simp [undef])]); refine hK _ ?_; clear hK K)
  with_reducible refine wpC_vg (ι := Unit) (fun _ => .bool false) (fun _ _ => True) (by decide) (by decide) (by go_simp) hs8 (fun _ => stable_true) (fun W _ _ => ⟨(), W, by go_simp, trivial, Below.refl _ _⟩) (fun i9 hs9 => ?_)
  repeat (with_reducible refine wpC_q (by decide) (by decide) (fun K hK => ?_); go_simp; (try rw [if_neg (by simp [undef])]); refine hK _ ?_; clear hK K)
  with_reducible refine wpC_cg (ι := Unit) 9 #[.agg #[.slice pa pn pc, .slice ca cn cc, .slice ja jn jc]] (fun _ => .int .i64 (sumL R.ps)) (fun _ _ => True) (by decide) (by decide) (by go_simp) (fun w => by go_simp) hs9 (fun _ => stable_true) (fun W hW _ => ?_) (fun i10 hs10 => ?_)
  · obtain ⟨pp, rfl⟩ := hW
    refine (HL1.out _ (HG1.out _ _)).mono ?_
    rintro e w' ⟨rfl, hbl⟩
    exact ⟨(), rfl, trivial, hbl⟩
  repeat (with_reducible refine wpC_q (by decide) (by decide) (fun K hK => ?_); go_simp; (try rw [if_neg (by simp [undef])]); refine hK _ ?_; clear hK K)
  with_reducible refine wpC_cg (ι := Unit) 9 #[.agg #[.slice pa2 pn2 pc2, .slice ca2 cn2 cc2, .slice ja2 jn2 jc2]] (fun _ => .int .i64 (sumL R2.ps)) (fun _ _ => True) (by decide) (by decide) (by go_simp) (fun w => by go_simp) hs10 (fun _ => stable_true) (fun W hW _ => ?_) (fun i11 hs11 => ?_)
  · obtain ⟨pp, rfl⟩ := hW
    refine (HL2.out _ (HG2.out _ _)).mono ?_
    rintro e w' ⟨rfl, hbl⟩
    exact ⟨(), rfl, trivial, hbl⟩
  repeat (with_reducible refine wpC_q (by decide) (by decide) (fun K hK => ?_); go_simp; (try rw [if_neg (by simp [undef])]); refine hK _ ?_; clear hK K)
  with_reducible refine wpC_vg (ι := Unit) (fun _ => .bool false) (fun _ _ => True) (by decide) (by decide) (by go_simp) hs11 (fun _ => stable_true) (fun W _ _ => ⟨(), W, by go_simp, trivial, Below.refl _ _⟩) (fun i12 hs12 => ?_)
  repeat (with_reducible refine wpC_q (by decide) (by decide) (fun K hK => ?_); go_simp; (try rw [if_neg (by simp [undef])]); refine hK _ ?_; clear hK K)
  with_reducible refine wpC_vg (ι := Unit) (fun _ => .bool false) (fun _ _ => True) (by decide) (by decide) (by go_simp) hs12 (fun _ => stable_true) (fun W _ _ => ⟨(), W, by go_simp, trivial, Below.refl _ _⟩) (fun i13 hs13 => ?_)
  repeat (with_reducible refine wpC_q (by decide) (by decide) (fun K hK => ?_); go_simp; (try rw [if_neg (by simp [undef])]); refine hK _ ?_; clear hK K)
  with_reducible refine wpC_vg (ι := Unit) (fun _ => .bool false) (fun _ _ => True) (by decide) (by decide) (by go_simp) hs13 (fun _ => stable_true) (fun W _ _ => ⟨(), W, by go_simp, trivial, Below.refl _ _⟩) (fun i14 hs14 => ?_)
  repeat (with_reducible refine wpC_q (by decide) (by decide) (fun K hK => ?_); go_simp; (try rw [if_neg (by simp [undef])]); refine hK _ ?_; clear hK K)
  with_reducible refine wpC_cg (ι := Unit) 9 #[.agg #[.slice pa pn pc, .slice ca cn cc, .slice ja jn jc]] (fun _ => .int .i64 (sumL R.ps)) (fun _ _ => True) (by decide) (by decide) (by go_simp) (fun w => by go_simp) hs14 (fun _ => stable_true) (fun W hW _ => ?_) (fun i15 hs15 => ?_)
  · obtain ⟨pp, rfl⟩ := hW
    refine (HL1.out _ (HG1.out _ _)).mono ?_
    rintro e w' ⟨rfl, hbl⟩
    exact ⟨(), rfl, trivial, hbl⟩
  repeat (with_reducible refine wpC_q (by decide) (by decide) (fun K hK => ?_); go_simp; (try rw [if_neg (by simp [undef])]); refine hK _ ?_; clear hK K)
  refine wpC_nil ?_
  intro w2 hb2 _
  clear x0 x1 x2 z0 z1 z2 y0 y1 y2 y3 HG1 HG2 HG3 hs0 hs1 hs2 hs3 hs4 hs5 hs6 hs7 hs8 hs9 hs10 hs11 hs12 hs13 hs14 hs15
  have hB2 := hB0.trans (hb2.mono hB0.size)
  have hX2 := hX0.below hb2 hl1
  have hZ2 := hZ0.below hb2 hl2
  have hY2 := hY0.below hb2 hl3
  have HFT : Hid (0 ≤ f ∧ f ≤ t ∧ t ≤ sumL R.ps) := by show _ ∧ _ ∧ _; omega
  have hr30 : rn ≤ 30 := by have := HS.out.r2; have := HLR.out; omega
  have hs9 : sn = 9 := by have := HS.out.s9; have := HLS.out; omega
  have HS9 := Lib.hid hs9
  clear hB0 hX0 hZ0 hY0 hb2 hl1 hl2 hl3 es e6 e7 e8 hf0 hft htn HF1 HF2 HQ HFi HVa HL1 HL2 hs9
  have hz2 := hB2.size
  go_wp2_with fail
  go_loopw [11] (fun i wr => ∃ k : Nat, k ≤ rn ∧ i = .int .i64 k ∧ Below w2.heap.size w2 wr ∧ Hid (∀ m, m < k → crow S m))
    (fun i _ => rn - (intOf i).toNat)
  case atStart => exact ⟨0, Nat.zero_le _, rfl, Below.refl _ _, fun m h => absurd h (Nat.not_lt_zero _)⟩
  case round =>
    obtain ⟨m, hm, rfl, hbr, hall⟩ := hrel
    have hBr := hB2.trans (hbr.mono hz2)
    have hYr := hY2.below hbr hY2.lt
    have y0 := hYr.cell 0
    have y1 := hYr.cell 1
    have y2 := hYr.cell 2
    have y3 := hYr.cell 3
    simp only [List.getElem?_toArray, List.getElem?_cons_zero, List.getElem?_cons_succ] at y0 y1 y2 y3
    have hlY := hYr.lt
    by_cases hlt : m < rn
    case pos =>
      have hkl : m < S.rows.length := by rw [← HLR.out]; exact hlt
      have hw := HD.out.r.grow hBr hBr.size
      obtain ⟨b, off, hA, hbB, -, c1, c2⟩ := SR.at_ hw (k := m) hkl
      have hstep : Hid (∀ (hh : (S.rows[m]'hkl).most ≤ S.most ∧ (S.rows[m]'hkl).least ≤ S.least ∧ ∀ d, 0 < m → S.rows[m - 1]? = some d → d.most ≤ (S.rows[m]'hkl).most ∧ d.least ≤ (S.rows[m]'hkl).least), ∀ i, i < m + 1 → crow S i) := by
        intro hh i hi
        rcases Nat.lt_or_ge i m with h | h
        · exact hall.out i h
        · obtain rfl : i = m := by omega
          intro c hc
          rw [List.getElem?_eq_getElem hkl] at hc
          cases hc
          exact hh
      generalize S.rows[m]'hkl = c at c1 c2 hstep
      subst hA
      have hi1 : (0 : Int) ≤ (m : Int) := by omega
      have hi2 : (m : Int) < (rn : Int) := by omega
      clear hall
      by_cases kA : c.most ≤ S.most
      case neg =>
        have gA : decide (S.most < c.most) = true := decide_eq_true (by omega)
        go_wp2_with fail
        go_quiet (fail)
        go_wp2_with fail
        refine (known_any _).mono ?_
        rintro e w9 ⟨rfl, hk⟩
        go_wp2_with fail
        go_ret
        exact ⟨rfl, (below_drewN hBr _).trans (hk.mono (below_drewN hBr _).size)⟩
      have gA : decide (S.most < c.most) = false := decide_eq_false (by omega)
      by_cases kB : c.least ≤ S.least
      case neg =>
        have gB : decide (S.least < c.least) = true := decide_eq_true (by omega)
        go_wp2_with fail
        go_quiet (fail)
        go_wp2_with fail
        refine (known_any _).mono ?_
        rintro e w9 ⟨rfl, hk⟩
        go_wp2_with fail
        go_ret
        exact ⟨rfl, (below_drewN hBr _).trans (hk.mono (below_drewN hBr _).size)⟩
      have gB : decide (S.least < c.least) = false := decide_eq_false (by omega)
      by_cases k0 : 0 < m
      case neg =>
        have HST := Lib.hid (hstep.out ⟨kA, kB, fun d h => absurd h k0⟩)
        have gk : decide ((0 : Int) < (m : Int)) = false := decide_eq_false (by omega)
        have gkN : decide (0 < m) = false := decide_eq_false k0
        clear hw hkl hstep kA kB k0
        go_wp2_with fail
        go_quiet (fail)
        go_wp2_with fail
        go_roundw
        case rel => exact ⟨m + 1, by omega, by go_num, below_drewN hbr _, HST⟩
        case measure => simp [intOf]; omega
      obtain ⟨j, hj⟩ : ∃ j, m = j + 1 := ⟨m - 1, by omega⟩
      have hkl2 : m - 1 < S.rows.length := by omega
      obtain ⟨b2, off2, hA2, -, -, d1, d2⟩ := SR.at_ hw (k := m - 1) hkl2
      cases hA2
      have hd := List.getElem?_eq_getElem hkl2
      generalize S.rows[m - 1]'hkl2 = d at d1 d2 hd
      have hd' : ∀ d', 0 < m → S.rows[m - 1]? = some d' → d' = d := fun d' _ h => Option.some.inj (h.symm.trans hd)
      rw [show (m - 1) * 3 = j * 3 by rw [hj, Nat.add_sub_cancel]] at d1 d2
      have hwk : IntKind.i64.wrap ((m : Int) - 1) = (j : Int) := (IntWalk.i64_in _ (by omega)).trans (by omega)
      have hj1 : (0 : Int) ≤ (j : Int) := by omega
      have hj2 : (j : Int) < (rn : Int) := by omega
      have gk : decide ((0 : Int) < (m : Int)) = true := decide_eq_true (by omega)
      have gkN : decide (0 < m) = true := decide_eq_true k0
      by_cases kC : d.most ≤ c.most
      case neg =>
        have gC : decide (c.most < d.most) = true := decide_eq_true (by omega)
        clear hw hkl hstep kA kB k0 hj hkl2 hd hd'
        go_wp2_with fail
        go_quiet (fail)
        go_wp2_with fail
        refine (known_any _).mono ?_
        rintro e w9 ⟨rfl, hk⟩
        go_wp2_with fail
        go_ret
        exact ⟨rfl, (below_drewN hBr _).trans (hk.mono (below_drewN hBr _).size)⟩
      have gC : decide (c.most < d.most) = false := decide_eq_false (by omega)
      by_cases kD : d.least ≤ c.least
      case neg =>
        have gD : decide (c.least < d.least) = true := decide_eq_true (by omega)
        clear hw hkl hstep kA kB k0 hj hkl2 hd hd'
        go_wp2_with fail
        go_quiet (fail)
        go_wp2_with fail
        refine (known_any _).mono ?_
        rintro e w9 ⟨rfl, hk⟩
        go_wp2_with fail
        go_ret
        exact ⟨rfl, (below_drewN hBr _).trans (hk.mono (below_drewN hBr _).size)⟩
      have gD : decide (c.least < d.least) = false := decide_eq_false (by omega)
      have HST := Lib.hid (hstep.out ⟨kA, kB, fun d' h0 h => by rw [hd' d' h0 h]; exact ⟨kC, kD⟩⟩)
      clear hw hkl hstep kA kB k0 hj hkl2 hd hd' kC kD
      go_wp2_with fail
      go_quiet (fail)
      go_wp2_with fail
      go_roundw
      case rel => exact ⟨m + 1, by omega, by go_num, below_drewN hbr _, HST⟩
      case measure => simp [intOf]; omega
    have HROW : Hid (∀ m, m < S.rows.length → crow S m) := by
      intro k hk
      exact hall.out k (by have := HLR.out; omega)
    obtain ⟨wA, hwA⟩ : ∃ wA, wA = wr := ⟨_, rfl⟩
    rw [← hwA] at hbr hBr hYr hlY ⊢
    have gm : decide ((m : Int) < (rn : Int)) = false := decide_eq_false (by omega)
    have gmN : decide (m < rn) = false := decide_eq_false hlt
    have y0 := hYr.cell 0
    have y1 := hYr.cell 1
    have y2 := hYr.cell 2
    have y3 := hYr.cell 3
    simp only [List.getElem?_toArray, List.getElem?_cons_zero, List.getElem?_cons_succ] at y0 y1 y2 y3
    have hXA := hX2.below hbr hX2.lt
    have hZA := hZ2.below hbr hZ2.lt
    have hYA := hYr
    have hBA := hBr
    clear hall hwA hlt
    go_wp2_with fail
    clear y0 y1 y2 y3 gm gmN hYr hBr hlY hX2 hY2 hZ2 hbr
    have hzA := hBA.size
    go_loopw [12] (fun i wr => ∃ k : Nat, 1 ≤ k ∧ k ≤ 9 ∧ i = .int .i64 k ∧ Below wA.heap.size wA wr ∧ Hid (∀ m, m < k → csur S m))
      (fun i _ => 9 - (intOf i).toNat)
    case atStart => exact ⟨1, Nat.le_refl _, by omega, rfl, Below.refl _ _, fun m h a b h0 => by omega⟩
    case round =>
      obtain ⟨k, hk1, hk9, rfl, hbr, hall⟩ := hrel
      have hBr := hBA.trans (hbr.mono hzA)
      have hYr := hYA.below hbr hYA.lt
      have y0 := hYr.cell 0
      have y1 := hYr.cell 1
      have y2 := hYr.cell 2
      have y3 := hYr.cell 3
      simp only [List.getElem?_toArray, List.getElem?_cons_zero, List.getElem?_cons_succ] at y0 y1 y2 y3
      have hlY := hYr.lt
      by_cases hlt : k < 9
      case pos =>
        have hkl : k < S.surf.length := by rw [← HLS.out, HS9.out]; exact hlt
        have hkl2 : k - 1 < S.surf.length := by omega
        obtain ⟨j, hj⟩ : ∃ j, k = j + 1 := ⟨k - 1, by omega⟩
        have hw := HD.out.s.grow hBr hBr.size
        obtain ⟨b, off, hA, -, c0⟩ := IS.at_ hw (k := k) hkl
        obtain ⟨b2, off2, hA2, -, d0⟩ := IS.at_ hw (k := k - 1) hkl2
        have hc := List.getElem?_eq_getElem hkl
        have hd := List.getElem?_eq_getElem hkl2
        generalize S.surf[k]'hkl = c at c0 hc
        generalize S.surf[k - 1]'hkl2 = d at d0 hd
        rw [show k - 1 = j by omega] at d0
        subst hA
        cases hA2
        have hi1 : (0 : Int) ≤ (k : Int) := by omega
        have hi2 : (k : Int) < (sn : Int) := by have := HS9.out; omega
        have hj1 : (0 : Int) ≤ (j : Int) := by omega
        have hj2 : (j : Int) < (sn : Int) := by have := HS9.out; omega
        have hwk : IntKind.i64.wrap ((k : Int) - 1) = (j : Int) := (IntWalk.i64_in _ (by omega)).trans (by omega)
        have hwk2 : IntKind.i64.wrap ((k : Int) + 1) = (k : Int) + 1 := IntWalk.i64_in _ (by omega)
        have gl : decide ((k : Int) < 9) = true := decide_eq_true (by omega)
        have glN : decide (k < 9) = true := decide_eq_true hlt
        by_cases kA : c ≤ d
        case neg =>
          have gA : decide (d < c) = true := decide_eq_true (by omega)
          clear hw hkl hkl2 hj hc hd hall
          go_wp2_with fail
          go_quiet (fail)
          go_wp2_with fail
          refine (known_any _).mono ?_
          rintro e w9 ⟨rfl, hk⟩
          go_wp2_with fail
          go_ret
          exact ⟨rfl, (below_drewN hBr _).trans (hk.mono (below_drewN hBr _).size)⟩
        have gA : decide (d < c) = false := decide_eq_false (by omega)
        have HST : Hid (∀ m, m < k + 1 → csur S m) := by
          intro i hi
          rcases Nat.lt_or_ge i k with h | h
          · exact hall.out i h
          · obtain rfl : i = k := by omega
            intro a b _ ha hb
            rw [hc] at ha
            rw [hd] at hb
            cases ha
            cases hb
            exact kA
        clear hw hkl hkl2 hj hc hd hall kA
        go_wp2_with fail
        go_quiet (fail)
        go_wp2_with fail
        go_roundw
        case rel => exact ⟨k + 1, by omega, by omega, by go_num, below_drewN hbr _, HST⟩
        case measure => simp [intOf]; omega
      obtain ⟨hCM, hCL⟩ := calm_of HROW.out (fun m hm => hall.out m (by have := HLS.out; have := HS9.out; omega))
      have HCM := Lib.hid hCM
      have HCL := Lib.hid hCL
      have gl : decide ((k : Int) < 9) = false := decide_eq_false (by omega)
      have glN : decide (k < 9) = false := decide_eq_false hlt
      obtain ⟨w3, hw3⟩ : ∃ w3, w3 = wr := ⟨_, rfl⟩
      rw [← hw3] at hbr hBr hYr hlY ⊢
      have hB3 := hBr
      have hX3 := hXA.below hbr hXA.lt
      have hZ3 := hZA.below hbr hZA.lt
      have hY3 := hYr
      clear hall hw3 hlt hCM hCL hBr hYr hlY y0 y1 y2 y3 hbr hXA hYA hZA
      as_aux_lemma =>
        have x0 := hX3.cell 0
        have x1 := hX3.cell 1
        have x2 := hX3.cell 2
        have z0 := hZ3.cell 0
        have z1 := hZ3.cell 1
        have z2 := hZ3.cell 2
        have y0 := hY3.cell 0
        have y1 := hY3.cell 1
        have y2 := hY3.cell 2
        have y3 := hY3.cell 3
        simp only [List.getElem?_toArray, List.getElem?_cons_zero, List.getElem?_cons_succ] at x0 x1 x2 z0 z1 z2 y0 y1 y2 y3
        go_wp2_with fail
        clear x0 x1 x2 z0 z1 z2 y0 y1 y2 y3
        have hsm : R.ps.length + R2.ps.length ≤ 2000 := by have := few_ps F0.out; have := few_ps F1.out; omega
        refine (Safer_res pa pn pc ca cn cc ja jn jc R pa2 pn2 pc2 ca2 cn2 cc2 ja2 jn2 jc2 R2 w3 (HR.out.grow hB3 hB3.size) (HR2.out.grow hB3 hB3.size) HV.out HV2.out HE.out hsm).mono ?_
        rintro e w4 ⟨⟨A1, n1, c1, A2, n2, c2, A3, n3, c3, rfl, hR4⟩, hk⟩
        have hB4 := hB3.trans (hk.mono hB3.size)
        have hX4 := hX3.below hk hX3.lt
        have hZ4 := hZ3.below hk hZ3.lt
        have hY4 := hY3.below hk hY3.lt
        clear hX3 hZ3 hY3 hB3 hk
        obtain ⟨er, her⟩ : ∃ er, er = (sres R R2).2 := ⟨_, rfl⟩
        have HER : Hid (er = (sres R R2).2) := her
        rw [← her]
        clear her
        have hR5r : RD (w4.alloc (.cells #[.slice A1 n1 c1, .slice A2 n2 c2, .slice A3 n3 c3] 26)) (w4.alloc (.cells #[.slice A1 n1 c1, .slice A2 n2 c2, .slice A3 n3 c3] 26)).heap.size A1 n1 A2 n2 A3 n3 (sres R R2).1 := hR4.grow ((Below.refl w4.heap.size w4).alloc (Nat.le_refl _) _) (by rw [World.size_alloc]; omega)
        have hX5r := hX4.alloc (.cells #[.slice A1 n1 c1, .slice A2 n2 c2, .slice A3 n3 c3] 26)
        have hZ5r := hZ4.alloc (.cells #[.slice A1 n1 c1, .slice A2 n2 c2, .slice A3 n3 c3] 26)
        have hY5r := hY4.alloc (.cells #[.slice A1 n1 c1, .slice A2 n2 c2, .slice A3 n3 c3] 26)
        have hC5r := BK.new w4 26 #[.slice A1 n1 c1, .slice A2 n2 c2, .slice A3 n3 c3]
        by_cases hz : er = 0
        case neg =>
          have gz : (er != 0) = true := by simpa using hz
          have gz2 : (er == 0) = false := by simpa using hz
          go_wp2_with fail
          have hBX := hB4.alloc hB4.size (.cells #[.slice A1 n1 c1, .slice A2 n2 c2, .slice A3 n3 c3] 26)
          refine (known_any _).mono ?_
          rintro e w9 ⟨rfl, hk⟩
          go_wp2_with fail
          go_ret
          exact ⟨rfl, hBX.trans (hk.mono hBX.size)⟩
        obtain ⟨hv3, hs3⟩ := sres_ok HV.out HV2.out HE.out (HER.out.symm.trans hz)
        have HV3 := Lib.hid hv3
        have HS3 := Lib.hid hs3
        have HQ1 := Lib.hid (sres_tQ HS.out HCM.out HV.out HV2.out HE.out (HER.out.symm.trans hz) HFT.out.2.1 HFT.out.2.2)
        have HL1 := Lib.hid (sres_tSl HS.out HCM.out HCL.out HV.out HV2.out HE.out (HER.out.symm.trans hz) HFT.out.2.1 HFT.out.2.2)
        have hsy := sres_symm HV.out HV2.out HE.out
        have HQ2 : Hid (tQ S R2.ps t.toNat - tQ S R2.ps f.toNat ≤ tQ S (sres R R2).1.ps t.toNat - tQ S (sres R R2).1.ps f.toNat) := by
          show _ ≤ _
          rw [hsy]
          exact sres_tQ HS.out HCM.out HV2.out HV.out HE.out.symm (by rw [← hsy]; exact HER.out.symm.trans hz) HFT.out.2.1 (by rw [← HE.out]; exact HFT.out.2.2)
        have HL2 : Hid (tSl S R2.ps t.toNat - tSl S R2.ps f.toNat ≤ tSl S (sres R R2).1.ps t.toNat - tSl S (sres R R2).1.ps f.toNat) := by
          show _ ≤ _
          rw [hsy]
          exact sres_tSl HS.out HCM.out HCL.out HV2.out HV.out HE.out.symm (by rw [← hsy]; exact HER.out.symm.trans hz) HFT.out.2.1 (by rw [← HE.out]; exact HFT.out.2.2)
        obtain ⟨R3, hR3e⟩ : ∃ R3, R3 = (sres R R2).1 := ⟨_, rfl⟩
        rw [← hR3e] at HV3 HS3 HQ1 HQ2 HL1 HL2 hR5r
        subst hz
        clear hsy hv3 hs3 hR3e hR4
        obtain ⟨q1, hq1⟩ : ∃ q1, q1 = tQ S R.ps t.toNat - tQ S R.ps f.toNat := ⟨_, rfl⟩
        obtain ⟨q2, hq2⟩ : ∃ q2, q2 = tQ S R2.ps t.toNat - tQ S R2.ps f.toNat := ⟨_, rfl⟩
        obtain ⟨q3, hq3⟩ : ∃ q3, q3 = tQ S R3.ps t.toNat - tQ S R3.ps f.toNat := ⟨_, rfl⟩
        obtain ⟨s1, hs1⟩ : ∃ s1, s1 = tSl S R.ps t.toNat - tSl S R.ps f.toNat := ⟨_, rfl⟩
        obtain ⟨s2, hs2⟩ : ∃ s2, s2 = tSl S R2.ps t.toNat - tSl S R2.ps f.toNat := ⟨_, rfl⟩
        obtain ⟨s3, hs3⟩ : ∃ s3, s3 = tSl S R3.ps t.toNat - tSl S R3.ps f.toNat := ⟨_, rfl⟩
        have HB1 : Hid (btw S R f t = (q1, s1, 0)) := by show _ = _; rw [btw_ij HFT.out.1 HFT.out.2.1 HFT.out.2.2, hq1, hs1]
        have HB2 : Hid (btw S R2 f t = (q2, s2, 0)) := by show _ = _; rw [btw_ij HFT.out.1 HFT.out.2.1 (by rw [← HE.out]; exact HFT.out.2.2), hq2, hs2]
        have HB3 : Hid (btw S R3 f t = (q3, s3, 0)) := by show _ = _; rw [btw_ij HFT.out.1 HFT.out.2.1 (by rw [HS3.out]; exact HFT.out.2.2), hq3, hs3]
        rw [← hq1, ← hq3] at HQ1
        rw [← hq2, ← hq3] at HQ2
        rw [← hs1, ← hs3] at HL1
        rw [← hs2, ← hs3] at HL2
        clear hq1 hq2 hq3 hs1 hs2 hs3
        have hlX := hX4.lt
        have hlZ := hZ4.lt
        have hlY := hY4.lt
        have x0 := hX5r.cell 0
        have x1 := hX5r.cell 1
        have x2 := hX5r.cell 2
        have z0 := hZ5r.cell 0
        have z1 := hZ5r.cell 1
        have z2 := hZ5r.cell 2
        have y0 := hY5r.cell 0
        have y1 := hY5r.cell 1
        have y2 := hY5r.cell 2
        have y3 := hY5r.cell 3
        simp only [List.getElem?_toArray, List.getElem?_cons_zero, List.getElem?_cons_succ] at x0 x1 x2 z0 z1 z2 y0 y1 y2 y3
        go_wp2_with fail
        clear x0 x1 x2 z0 z1 z2 y0 y1 y2 y3
        obtain ⟨w5, hw5⟩ : ∃ w5, w5 = w4.alloc (.cells #[.slice A1 n1 c1, .slice A2 n2 c2, .slice A3 n3 c3] 26) := ⟨_, rfl⟩
        have hk : Below w4.heap.size w4 w5 := by rw [hw5]; exact (Below.refl _ _).alloc (Nat.le_refl _) _
        have HR5 : Hid (RD w5 w5.heap.size A1 n1 A2 n2 A3 n3 R3) := by rw [hw5]; exact hR5r
        have hC5 : BK w5 w4.heap.size 26 #[.slice A1 n1 c1, .slice A2 n2 c2, .slice A3 n3 c3] := by rw [hw5]; exact hC5r
        clear hR5r hC5r
        rw [← hw5]
        clear hw5 hX5r hZ5r hY5r hlX hlZ hlY
        have hB5 := hB4.trans (hk.mono hB4.size)
        have hX5 := hX4.below hk hX4.lt
        have hZ5 := hZ4.below hk hZ4.lt
        have hY5 := hY4.below hk hY4.lt
        clear hX4 hZ4 hY4 hB4 hk
        refine (Between_any f t pa pn pc ca cn cc ja jn jc R ra rn rc sa sn sc S w5 (HR.out.grow hB5 hB5.size) (HD.out.grow hB5 hB5.size) HV.out HS.out).mono ?_
        rintro e w6 ⟨rfl, hk⟩
        rw [HB1.out]
        dsimp only
        have HR6 : Hid (RD w6 w6.heap.size A1 n1 A2 n2 A3 n3 R3) := HR5.out.grow hk hk.size
        have hB6 := hB5.trans (hk.mono hB5.size)
        have hX6 := hX5.below hk hX5.lt
        have hZ6 := hZ5.below hk hZ5.lt
        have hY6 := hY5.below hk hY5.lt
        have hC6 := hC5.below hk hC5.lt
        clear hX5 hZ5 hY5 hC5 hB5 hk
        have z0 := hZ6.cell 0
        have z1 := hZ6.cell 1
        have z2 := hZ6.cell 2
        have y0 := hY6.cell 0
        have y1 := hY6.cell 1
        have y2 := hY6.cell 2
        have y3 := hY6.cell 3
        simp only [List.getElem?_toArray, List.getElem?_cons_zero, List.getElem?_cons_succ] at z0 z1 z2 y0 y1 y2 y3
        go_wp2_with fail
        clear z0 z1 z2 y0 y1 y2 y3
        refine (Between_any f t pa2 pn2 pc2 ca2 cn2 cc2 ja2 jn2 jc2 R2 ra rn rc sa sn sc S w6 (HR2.out.grow hB6 hB6.size) (HD.out.grow hB6 hB6.size) HV2.out HS.out).mono ?_
        rintro e w7 ⟨rfl, hk⟩
        rw [HB2.out]
        dsimp only
        have HR7 : Hid (RD w7 w7.heap.size A1 n1 A2 n2 A3 n3 R3) := HR6.out.grow hk hk.size
        have hB7 := hB6.trans (hk.mono hB6.size)
        have hX7 := hX6.below hk hX6.lt
        have hZ7 := hZ6.below hk hZ6.lt
        have hY7 := hY6.below hk hY6.lt
        have hC7 := hC6.below hk hC6.lt
        clear hX6 hZ6 hY6 hC6 hB6 hk
        have y0 := hY7.cell 0
        have y1 := hY7.cell 1
        have y2 := hY7.cell 2
        have y3 := hY7.cell 3
        have c0 := hC7.cell 0
        have c1 := hC7.cell 1
        have c2 := hC7.cell 2
        simp only [List.getElem?_toArray, List.getElem?_cons_zero, List.getElem?_cons_succ] at y0 y1 y2 y3 c0 c1 c2
        go_wp2_with fail
        clear y0 y1 y2 y3 c0 c1 c2
        refine (Between_any f t A1 n1 c1 A2 n2 c2 A3 n3 c3 R3 ra rn rc sa sn sc S w7 HR7.out (HD.out.grow hB7 hB7.size) HV3.out HS.out).mono ?_
        rintro e w8 ⟨rfl, hk⟩
        rw [HB3.out]
        dsimp only
        have hB8 := hB7.trans (hk.mono hB7.size)
        have hX8 := hX7.below hk hX7.lt
        have hZ8 := hZ7.below hk hZ7.lt
        have hY8 := hY7.below hk hY7.lt
        have hC8 := hC7.below hk hC7.lt
        clear hX7 hZ7 hY7 hC7 hB7 hk
        have g1 : decide (q1 ≤ q3) = true := decide_eq_true HQ1.out
        have g2 : decide (q2 ≤ q3) = true := decide_eq_true HQ2.out
        have g3 : decide (s1 ≤ s3) = true := decide_eq_true HL1.out
        have g4 : decide (s2 ≤ s3) = true := decide_eq_true HL2.out
        go_wp2_with fail
        have hBX := hB8
        refine (known_any _).mono ?_
        rintro e w9 ⟨rfl, hk⟩
        go_wp2_with fail
        go_ret
        exact ⟨rfl, hBX.trans (hk.mono hBX.size)⟩
end Go.Proofs.YtijcbfhlhgjedaaGreatDoor
