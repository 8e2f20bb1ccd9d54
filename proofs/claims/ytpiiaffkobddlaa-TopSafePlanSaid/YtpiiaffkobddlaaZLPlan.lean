/- The law function TopSafePlan, walked: it returns true. -/
import Derived.Test.YtpiiaffkobddlaaZPlanS
import Derived.Test.YtpiiaffkobddlaaZBetw
import Derived.Test.YtpiiaffkobddlaaZRCallsB
import Derived.Test.YtpiiaffkobddlaaZBrief
namespace Go.Proofs.Ytpiiaffkobddlaa
open Go.RowKit Go.Shelf Go.Sort Go.Proofs

/-- The row at i is not faster than the straight, and not slower than the one before it. -/
def rowAt (S : Spd) (i : Nat) : Prop := ∀ r, S.rows[i]? = some r → r.most ≤ S.most ∧ ∀ d, 0 < i → S.rows[i-1]? = some d → d.most ≤ r.most
def surAt (S : Spd) (i : Nat) : Prop := ∀ x y, S.surf[i]? = some x → S.surf[i-1]? = some y → x ≤ y
/-- A call with all the time before it that there is. -/
def freeC (c : CallR) : CallR := { c with ahead := maxM }
theorem free_of {n : Int} {cs : List CallR} (h : COK n cs) : Free n (cs.map freeC) := by
  refine ⟨fun c hc => ?_, ?_⟩
  · obtain ⟨d, hd, rfl⟩ := List.mem_map.1 hc
    obtain ⟨i, hi, rfl⟩ := List.getElem_of_mem hd
    have := kAt_bd h hi
    exact ⟨this.1, this.2.1.1, rfl⟩
  · rw [List.pairwise_map]
    exact cok_pw h
theorem free_cok {n : Int} {cs : List CallR} (h : COK n cs) : COK n (cs.map freeC) := by
  refine ⟨by rw [List.length_map]; exact h.l1, fun i hi c hc => ?_⟩
  rw [List.getElem?_map] at hc
  rw [List.length_map] at hi
  have hg := List.getElem?_eq_getElem hi
  rw [hg] at hc
  cases hc
  obtain ⟨a1, a2, a3, a4, a5, a6⟩ := h.k i hi _ hg
  refine ⟨a1, a2, a3, (show inR maxM 0 maxM = true by decide), a5, fun d h0 hd => ?_⟩
  rw [List.getElem?_map] at hd
  cases hq : cs[i-1]? with
  | none => rw [hq] at hd; cases hd
  | some q => rw [hq] at hd; cases hd; exact a6 q h0 hq
theorem pw_of {α : Type} (f : α → Int) (l : List α) (h : ∀ i (hi : i + 1 < l.length), f l[i] ≤ f l[i + 1]) : l.Pairwise fun a b => f a ≤ f b := by
  rw [List.pairwise_iff_getElem]
  have key : ∀ d i, (hj : i + d + 1 < l.length) → f (l[i]'(by omega)) ≤ f (l[i + d + 1]'hj) := by
    intro d
    induction d with
    | zero => intro i hj; exact h i hj
    | succ d ih =>
      intro i hj
      have h1 := ih i (by omega)
      have h2 := h (i + d + 1) hj
      exact Int.le_trans h1 h2
  intro i j hi hj hij
  have := key (j - i - 1) i (by omega)
  have e : i + (j - i - 1) + 1 = j := by omega
  simp only [e] at this
  exact this
theorem calm_of {S : Spd} (h1 : ∀ i, i < S.rows.length → rowAt S i) (h2 : ∀ i, 1 ≤ i → i < 9 → surAt S i) (h9 : S.surf.length = 9) : Calm S := by
  refine ⟨fun r hr => ?_, pw_of SpRow.most S.rows (fun i hi => ?_), ?_⟩
  · obtain ⟨i, hi, rfl⟩ := List.getElem_of_mem hr
    exact (h1 i hi _ (List.getElem?_eq_getElem hi)).1
  · exact (h1 (i + 1) hi _ (List.getElem?_eq_getElem hi)).2 _ (by omega) (by rw [Nat.add_sub_cancel]; exact List.getElem?_eq_getElem (by omega))
  · have := pw_of (fun x : Int => -x) S.surf (fun i hi => by
      have := h2 (i + 1) (by omega) (by omega) _ _ (List.getElem?_eq_getElem hi) (by rw [Nat.add_sub_cancel]; exact List.getElem?_eq_getElem (by omega))
      omega)
    exact this.imp (fun h => by omega)
theorem infoCall : (Try.prog.info? 40).map (fun i => (i.zero, i.size, i.bytes)) = some (some (.agg #[.int .i64 0, .int .i64 0, .int .i64 0, .int .i64 0, .int .i64 0]), 5, 40) := by kernel_rfl
set_option maxRecDepth 100000 in
set_option maxHeartbeats 8000000 in
theorem SafePlan_walk (pa : Option Addr) (pn pc : Nat) (ca : Option Addr) (cn cc : Nat) (ja : Option Addr) (jn jc : Nat) (R : Road) (pa2 : Option Addr) (pn2 pc2 : Nat) (ca2 : Option Addr) (cn2 cc2 : Nat) (ja2 : Option Addr) (jn2 jc2 : Nat) (R2 : Road) (ra : Option Addr) (rn rc : Nat) (sa : Option Addr) (sn sc : Nat) (S : Spd) (ka : Option Addr) (kn kc : Nat) (cs : List CallR) (w : World)
    (h : RD w w.heap.size pa pn ca cn ja jn R) (h2 : RD w w.heap.size pa2 pn2 ca2 cn2 ja2 jn2 R2) (hD : SD w w.heap.size ra rn sa sn S) (hK : SL caC 5 w w.heap.size ka kn cs) :
    Calls Try.prog 3 #[.agg #[.slice pa pn pc, .slice ca cn cc, .slice ja jn jc], .agg #[.slice pa2 pn2 pc2, .slice ca2 cn2 cc2, .slice ja2 jn2 jc2], .agg #[.int .i64 S.least, .int .i64 S.most, .slice ra rn rc, .slice sa sn sc], .slice ka kn kc] w fun e w' => e = .returned (.bool true) ∧ Below w.heap.size w w' := by
  have HR := Lib.hid h
  have HR2 := Lib.hid h2
  have HD := Lib.hid hD
  have HK := Lib.hid hK
  have HLK := Lib.hid hK.1
  have hmo : Try.prog.follows .mixedOrders = true := by kernel_rfl
  clear h h2 hD hK
  obtain ⟨w0, hw0⟩ : ∃ w0, w0 = ((w.alloc (.cells #[.slice pa pn pc, .slice ca cn cc, .slice ja jn jc] 26)).alloc (.cells #[.slice pa2 pn2 pc2, .slice ca2 cn2 cc2, .slice ja2 jn2 jc2] 26)).alloc (.cells #[.int .i64 S.least, .int .i64 S.most, .slice ra rn rc, .slice sa sn sc] 30) := ⟨_, rfl⟩
  have hB0 : Below w.heap.size w w0 := by rw [hw0]; exact (((Below.refl w.heap.size w).alloc (Nat.le_refl _) _).alloc (by simp) _).alloc (by simp; omega) _
  have hX0 : BK w0 w.heap.size 26 #[.slice pa pn pc, .slice ca cn cc, .slice ja jn jc] := by rw [hw0]; exact ((BK.new w _ _).alloc _).alloc _
  have hY0 : BK w0 (w.heap.size + 1) 26 #[.slice pa2 pn2 pc2, .slice ca2 cn2 cc2, .slice ja2 jn2 jc2] := by
    rw [hw0]; have := BK.new (w.alloc (.cells #[.slice pa pn pc, .slice ca cn cc, .slice ja jn jc] 26)) 26 #[.slice pa2 pn2 pc2, .slice ca2 cn2 cc2, .slice ja2 jn2 jc2]; rw [World.size_alloc] at this; exact this.alloc _
  have hS0 : BK w0 (w.heap.size + 2) 30 #[.int .i64 S.least, .int .i64 S.most, .slice ra rn rc, .slice sa sn sc] := by
    rw [hw0]; have := BK.new ((w.alloc (.cells #[.slice pa pn pc, .slice ca cn cc, .slice ja jn jc] 26)).alloc (.cells #[.slice pa2 pn2 pc2, .slice ca2 cn2 cc2, .slice ja2 jn2 jc2] 26)) 30 #[.int .i64 S.least, .int .i64 S.most, .slice ra rn rc, .slice sa sn sc]; rw [World.size_alloc, World.size_alloc] at this; exact this
  go_enter Try.func3, Try.ntmps3
  go_wp2_with fail
  rw [← hw0]
  clear hw0
  have x0 := fun d os => cell_regrown (hX0.cell 0) d os
  have x1 := fun d os => cell_regrown (hX0.cell 1) d os
  have x2 := fun d os => cell_regrown (hX0.cell 2) d os
  have y0 := fun d os => cell_regrown (hY0.cell 0) d os
  have y1 := fun d os => cell_regrown (hY0.cell 1) d os
  have y2 := fun d os => cell_regrown (hY0.cell 2) d os
  have s0 := fun d os => cell_regrown (hS0.cell 0) d os
  have s1 := fun d os => cell_regrown (hS0.cell 1) d os
  have s2 := fun d os => cell_regrown (hS0.cell 2) d os
  have s3 := fun d os => cell_regrown (hS0.cell 3) d os
  have HG1 := Lib.hid (fun d os => HR.out.grow (hB0.trans ((below_regrown w0 d os).mono hB0.size)) (Nat.le_trans hB0.size (below_regrown w0 d os).size))
  have HG2 := Lib.hid (fun d os => HR2.out.grow (hB0.trans ((below_regrown w0 d os).mono hB0.size)) (Nat.le_trans hB0.size (below_regrown w0 d os).size))
  have HG3 := Lib.hid (fun d os => HD.out.grow (hB0.trans ((below_regrown w0 d os).mono hB0.size)) (Nat.le_trans hB0.size (below_regrown w0 d os).size))
  have HG4 := Lib.hid (fun d os => HK.out.grow (hB0.trans ((below_regrown w0 d os).mono hB0.size)) (Nat.le_trans hB0.size (below_regrown w0 d os).size))
  have HB1 := Lib.hid (fun (W : World) (hW : RD W W.heap.size pa pn ca cn ja jn R) => brief_any pa pn pc ca cn cc ja jn jc R W hW)
  have HB2 := Lib.hid (fun (W : World) (hW : RD W W.heap.size pa2 pn2 ca2 cn2 ja2 jn2 R2) => brief_any pa2 pn2 pc2 ca2 cn2 cc2 ja2 jn2 jc2 R2 W hW)
  have HSp := Lib.hid (fun (W : World) (hW : SD W W.heap.size ra rn sa sn S) => RSpeeds_any ra rn rc sa sn sc S W hW)
  have hl1 := hX0.lt
  have hl2 := hY0.lt
  have hl3 := hS0.lt
  cases f0 : val R && decide (sumL R.ps ≤ 120)
  case false =>
    have F0 := Lib.hid f0
    clear f0
    refine wp_region_ch 30 [1, 3, 5, 8, 10, 13, 15, 17, 20, 25, 28] hmo (by kernel_rfl) ?_
    simp only [List.take_succ_cons, List.take_zero, List.drop_succ_cons, List.drop_zero]
    repeat (with_reducible refine wpC_q (by decide) (by decide) (fun K hK => ?_); go_simp; (try rw [if_neg (by simp [undef])]); refine hK _ ?_; clear hK K)
    with_reducible refine wpC_cg (ι := Unit) 4 #[.agg #[.slice pa pn pc, .slice ca cn cc, .slice ja jn jc]] (fun _ => .bool false) (fun _ _ => True) (by decide) (by decide) (by go_simp) (fun w => by go_simp) stable_true (fun _ => stable_true) (fun W hW _ => ?_) (fun i0 hs0 => ?_)
    · obtain ⟨pp, rfl⟩ := hW
      refine (HB1.out _ (HG1.out _ _)).mono ?_
      rintro e w' ⟨rfl, hbl⟩
      exact ⟨(), by rw [F0.out], trivial, hbl⟩
    repeat (with_reducible refine wpC_q (by decide) (by decide) (fun K hK => ?_); go_simp; (try rw [if_neg (by simp [undef])]); refine hK _ ?_; clear hK K)
    with_reducible refine wpC_vg (ι := Unit) (fun _ => .bool true) (fun _ _ => True) (by decide) (by decide) (by go_simp) hs0 (fun _ => stable_true) (fun W _ _ => ⟨(), W, by go_simp, trivial, Below.refl _ _⟩) (fun i1 hs1 => ?_)
    repeat (with_reducible refine wpC_q (by decide) (by decide) (fun K hK => ?_); go_simp; (try rw [if_neg (by simp [undef])]); refine hK _ ?_; clear hK K)
    with_reducible refine wpC_off (by decide) (by go_simp) ?_
    repeat (with_reducible refine wpC_q (by decide) (by decide) (fun K hK => ?_); go_simp; (try rw [if_neg (by simp [undef])]); refine hK _ ?_; clear hK K)
    with_reducible refine wpC_vg (ι := Unit) (fun _ => .bool true) (fun _ _ => True) (by decide) (by decide) (by go_simp) hs1 (fun _ => stable_true) (fun W _ _ => ⟨(), W, by go_simp, trivial, Below.refl _ _⟩) (fun i2 hs2 => ?_)
    repeat (with_reducible refine wpC_q (by decide) (by decide) (fun K hK => ?_); go_simp; (try rw [if_neg (by simp [undef])]); refine hK _ ?_; clear hK K)
    with_reducible refine wpC_off (by decide) (by go_simp) ?_
    repeat (with_reducible refine wpC_q (by decide) (by decide) (fun K hK => ?_); go_simp; (try rw [if_neg (by simp [undef])]); refine hK _ ?_; clear hK K)
    with_reducible refine wpC_vg (ι := Unit) (fun _ => .bool true) (fun _ _ => True) (by decide) (by decide) (by go_simp) hs2 (fun _ => stable_true) (fun W _ _ => ⟨(), W, by go_simp, trivial, Below.refl _ _⟩) (fun i3 hs3 => ?_)
    repeat (with_reducible refine wpC_q (by decide) (by decide) (fun K hK => ?_); go_simp; (try rw [if_neg (by simp [undef])]); refine hK _ ?_; clear hK K)
    with_reducible refine wpC_off (by decide) (by go_simp) ?_
    repeat (with_reducible refine wpC_q (by decide) (by decide) (fun K hK => ?_); go_simp; (try rw [if_neg (by simp [undef])]); refine hK _ ?_; clear hK K)
    with_reducible refine wpC_off (by decide) (by go_simp) ?_
    repeat (with_reducible refine wpC_q (by decide) (by decide) (fun K hK => ?_); go_simp; (try rw [if_neg (by simp [undef])]); refine hK _ ?_; clear hK K)
    with_reducible refine wpC_vg (ι := Unit) (fun _ => .bool true) (fun _ _ => True) (by decide) (by decide) (by go_simp) hs3 (fun _ => stable_true) (fun W _ _ => ⟨(), W, by go_simp, trivial, Below.refl _ _⟩) (fun i4 hs4 => ?_)
    repeat (with_reducible refine wpC_q (by decide) (by decide) (fun K hK => ?_); go_simp; (try rw [if_neg (by simp [undef])]); refine hK _ ?_; clear hK K)
    with_reducible refine wpC_vg (ι := Unit) (fun _ => .bool true) (fun _ _ => True) (by decide) (by decide) (by go_simp) hs4 (fun _ => stable_true) (fun W _ _ => ⟨(), W, by go_simp, trivial, Below.refl _ _⟩) (fun i5 hs5 => ?_)
    repeat (with_reducible refine wpC_q (by decide) (by decide) (fun K hK => ?_); go_simp; (try rw [if_neg (by simp [undef])]); refine hK _ ?_; clear hK K)
    with_reducible refine wpC_off (by decide) (by go_simp) ?_
    repeat (with_reducible refine wpC_q (by decide) (by decide) (fun K hK => ?_); go_simp; (try rw [if_neg (by simp [undef])]); refine hK _ ?_; clear hK K)
    refine wpC_nil ?_
    intro w2 hb2 _
    clear x0 x1 x2 y0 y1 y2 s0 s1 s2 s3 HB1 HB2 HSp HG1 HG2 HG3 HG4 hs0 hs1 hs2 hs3 hs4 hs5
    have hB2 := hB0.trans (hb2.mono hB0.size)
    go_wp2_with fail
    refine (known09_any _).mono ?_
    rintro e w3 ⟨rfl, hk3⟩
    go_wp2_with fail
    go_ret
    exact ⟨rfl, hB2.trans (hk3.mono hB2.size)⟩
  have F0 := Lib.hid f0
  have hf0 := f0
  rw [Bool.and_eq_true, decide_eq_true_eq] at hf0
  obtain ⟨hv, hn⟩ := hf0
  have HV := Lib.hid ((val_iff R).1 hv)
  clear f0 hv
  cases f1 : val R2 && decide (sumL R2.ps ≤ 120)
  case false =>
    have F1 := Lib.hid f1
    clear f1
    refine wp_region_ch 30 [1, 3, 5, 8, 10, 13, 15, 17, 20, 25, 28] hmo (by kernel_rfl) ?_
    simp only [List.take_succ_cons, List.take_zero, List.drop_succ_cons, List.drop_zero]
    repeat (with_reducible refine wpC_q (by decide) (by decide) (fun K hK => ?_); go_simp; (try rw [if_neg (by simp [undef])]); refine hK _ ?_; clear hK K)
    with_reducible refine wpC_cg (ι := Unit) 4 #[.agg #[.slice pa pn pc, .slice ca cn cc, .slice ja jn jc]] (fun _ => .bool true) (fun _ _ => True) (by decide) (by decide) (by go_simp) (fun w => by go_simp) stable_true (fun _ => stable_true) (fun W hW _ => ?_) (fun i0 hs0 => ?_)
    · obtain ⟨pp, rfl⟩ := hW
      refine (HB1.out _ (HG1.out _ _)).mono ?_
      rintro e w' ⟨rfl, hbl⟩
      exact ⟨(), by rw [F0.out], trivial, hbl⟩
    repeat (with_reducible refine wpC_q (by decide) (by decide) (fun K hK => ?_); go_simp; (try rw [if_neg (by simp [undef])]); refine hK _ ?_; clear hK K)
    with_reducible refine wpC_vg (ι := Unit) (fun _ => .bool false) (fun _ _ => True) (by decide) (by decide) (by go_simp) hs0 (fun _ => stable_true) (fun W _ _ => ⟨(), W, by go_simp, trivial, Below.refl _ _⟩) (fun i1 hs1 => ?_)
    repeat (with_reducible refine wpC_q (by decide) (by decide) (fun K hK => ?_); go_simp; (try rw [if_neg (by simp [undef])]); refine hK _ ?_; clear hK K)
    with_reducible refine wpC_cg (ι := Unit) 4 #[.agg #[.slice pa2 pn2 pc2, .slice ca2 cn2 cc2, .slice ja2 jn2 jc2]] (fun _ => .bool false) (fun _ _ => True) (by decide) (by decide) (by go_simp) (fun w => by go_simp) hs1 (fun _ => stable_true) (fun W hW _ => ?_) (fun i2 hs2 => ?_)
    · obtain ⟨pp, rfl⟩ := hW
      refine (HB2.out _ (HG2.out _ _)).mono ?_
      rintro e w' ⟨rfl, hbl⟩
      exact ⟨(), by rw [F1.out], trivial, hbl⟩
    repeat (with_reducible refine wpC_q (by decide) (by decide) (fun K hK => ?_); go_simp; (try rw [if_neg (by simp [undef])]); refine hK _ ?_; clear hK K)
    with_reducible refine wpC_vg (ι := Unit) (fun _ => .bool true) (fun _ _ => True) (by decide) (by decide) (by go_simp) hs2 (fun _ => stable_true) (fun W _ _ => ⟨(), W, by go_simp, trivial, Below.refl _ _⟩) (fun i3 hs3 => ?_)
    repeat (with_reducible refine wpC_q (by decide) (by decide) (fun K hK => ?_); go_simp; (try rw [if_neg (by simp [undef])]); refine hK _ ?_; clear hK K)
    with_reducible refine wpC_off (by decide) (by go_simp) ?_
    repeat (with_reducible refine wpC_q (by decide) (by decide) (fun K hK => ?_); go_simp; (try rw [if_neg (by simp [undef])]); refine hK _ ?_; clear hK K)
    with_reducible refine wpC_vg (ι := Unit) (fun _ => .bool true) (fun _ _ => True) (by decide) (by decide) (by go_simp) hs3 (fun _ => stable_true) (fun W _ _ => ⟨(), W, by go_simp, trivial, Below.refl _ _⟩) (fun i4 hs4 => ?_)
    repeat (with_reducible refine wpC_q (by decide) (by decide) (fun K hK => ?_); go_simp; (try rw [if_neg (by simp [undef])]); refine hK _ ?_; clear hK K)
    with_reducible refine wpC_off (by decide) (by go_simp) ?_
    repeat (with_reducible refine wpC_q (by decide) (by decide) (fun K hK => ?_); go_simp; (try rw [if_neg (by simp [undef])]); refine hK _ ?_; clear hK K)
    with_reducible refine wpC_off (by decide) (by go_simp) ?_
    repeat (with_reducible refine wpC_q (by decide) (by decide) (fun K hK => ?_); go_simp; (try rw [if_neg (by simp [undef])]); refine hK _ ?_; clear hK K)
    with_reducible refine wpC_vg (ι := Unit) (fun _ => .bool true) (fun _ _ => True) (by decide) (by decide) (by go_simp) hs4 (fun _ => stable_true) (fun W _ _ => ⟨(), W, by go_simp, trivial, Below.refl _ _⟩) (fun i5 hs5 => ?_)
    repeat (with_reducible refine wpC_q (by decide) (by decide) (fun K hK => ?_); go_simp; (try rw [if_neg (by simp [undef])]); refine hK _ ?_; clear hK K)
    with_reducible refine wpC_vg (ι := Unit) (fun _ => .bool true) (fun _ _ => True) (by decide) (by decide) (by go_simp) hs5 (fun _ => stable_true) (fun W _ _ => ⟨(), W, by go_simp, trivial, Below.refl _ _⟩) (fun i6 hs6 => ?_)
    repeat (with_reducible refine wpC_q (by decide) (by decide) (fun K hK => ?_); go_simp; (try rw [if_neg (by simp [undef])]); refine hK _ ?_; clear hK K)
    with_reducible refine wpC_off (by decide) (by go_simp) ?_
    repeat (with_reducible refine wpC_q (by decide) (by decide) (fun K hK => ?_); go_simp; (try rw [if_neg (by simp [undef])]); refine hK _ ?_; clear hK K)
    refine wpC_nil ?_
    intro w2 hb2 _
    clear x0 x1 x2 y0 y1 y2 s0 s1 s2 s3 HB1 HB2 HSp HG1 HG2 HG3 HG4 hs0 hs1 hs2 hs3 hs4 hs5 hs6
    have hB2 := hB0.trans (hb2.mono hB0.size)
    go_wp2_with fail
    refine (known09_any _).mono ?_
    rintro e w3 ⟨rfl, hk3⟩
    go_wp2_with fail
    go_ret
    exact ⟨rfl, hB2.trans (hk3.mono hB2.size)⟩
  have F1 := Lib.hid f1
  have hf1 := f1
  rw [Bool.and_eq_true, decide_eq_true_eq] at hf1
  obtain ⟨hv2, hn2⟩ := hf1
  have HV2 := Lib.hid ((val_iff R2).1 hv2)
  clear f1 hv2
  cases f2 : spB S
  case false =>
    have F2 := Lib.hid f2
    clear f2
    refine wp_region_ch 30 [1, 3, 5, 8, 10, 13, 15, 17, 20, 25, 28] hmo (by kernel_rfl) ?_
    simp only [List.take_succ_cons, List.take_zero, List.drop_succ_cons, List.drop_zero]
    repeat (with_reducible refine wpC_q (by decide) (by decide) (fun K hK => ?_); go_simp; (try rw [if_neg (by simp [undef])]); refine hK _ ?_; clear hK K)
    with_reducible refine wpC_cg (ι := Unit) 4 #[.agg #[.slice pa pn pc, .slice ca cn cc, .slice ja jn jc]] (fun _ => .bool true) (fun _ _ => True) (by decide) (by decide) (by go_simp) (fun w => by go_simp) stable_true (fun _ => stable_true) (fun W hW _ => ?_) (fun i0 hs0 => ?_)
    · obtain ⟨pp, rfl⟩ := hW
      refine (HB1.out _ (HG1.out _ _)).mono ?_
      rintro e w' ⟨rfl, hbl⟩
      exact ⟨(), by rw [F0.out], trivial, hbl⟩
    repeat (with_reducible refine wpC_q (by decide) (by decide) (fun K hK => ?_); go_simp; (try rw [if_neg (by simp [undef])]); refine hK _ ?_; clear hK K)
    with_reducible refine wpC_vg (ι := Unit) (fun _ => .bool false) (fun _ _ => True) (by decide) (by decide) (by go_simp) hs0 (fun _ => stable_true) (fun W _ _ => ⟨(), W, by go_simp, trivial, Below.refl _ _⟩) (fun i1 hs1 => ?_)
    repeat (with_reducible refine wpC_q (by decide) (by decide) (fun K hK => ?_); go_simp; (try rw [if_neg (by simp [undef])]); refine hK _ ?_; clear hK K)
    with_reducible refine wpC_cg (ι := Unit) 4 #[.agg #[.slice pa2 pn2 pc2, .slice ca2 cn2 cc2, .slice ja2 jn2 jc2]] (fun _ => .bool true) (fun _ _ => True) (by decide) (by decide) (by go_simp) (fun w => by go_simp) hs1 (fun _ => stable_true) (fun W hW _ => ?_) (fun i2 hs2 => ?_)
    · obtain ⟨pp, rfl⟩ := hW
      refine (HB2.out _ (HG2.out _ _)).mono ?_
      rintro e w' ⟨rfl, hbl⟩
      exact ⟨(), by rw [F1.out], trivial, hbl⟩
    repeat (with_reducible refine wpC_q (by decide) (by decide) (fun K hK => ?_); go_simp; (try rw [if_neg (by simp [undef])]); refine hK _ ?_; clear hK K)
    with_reducible refine wpC_vg (ι := Unit) (fun _ => .bool false) (fun _ _ => True) (by decide) (by decide) (by go_simp) hs2 (fun _ => stable_true) (fun W _ _ => ⟨(), W, by go_simp, trivial, Below.refl _ _⟩) (fun i3 hs3 => ?_)
    repeat (with_reducible refine wpC_q (by decide) (by decide) (fun K hK => ?_); go_simp; (try rw [if_neg (by simp [undef])]); refine hK _ ?_; clear hK K)
    with_reducible refine wpC_cg (ι := Unit) 5 #[.agg #[.int .i64 S.least, .int .i64 S.most, .slice ra rn rc, .slice sa sn sc]] (fun _ => .bool false) (fun _ _ => True) (by decide) (by decide) (by go_simp) (fun w => by go_simp) hs3 (fun _ => stable_true) (fun W hW _ => ?_) (fun i4 hs4 => ?_)
    · obtain ⟨pp, rfl⟩ := hW
      refine (HSp.out _ (HG3.out _ _)).mono ?_
      rintro e w' ⟨rfl, hbl⟩
      exact ⟨(), by rw [F2.out], trivial, hbl⟩
    repeat (with_reducible refine wpC_q (by decide) (by decide) (fun K hK => ?_); go_simp; (try rw [if_neg (by simp [undef])]); refine hK _ ?_; clear hK K)
    with_reducible refine wpC_vg (ι := Unit) (fun _ => .bool true) (fun _ _ => True) (by decide) (by decide) (by go_simp) hs4 (fun _ => stable_true) (fun W _ _ => ⟨(), W, by go_simp, trivial, Below.refl _ _⟩) (fun i5 hs5 => ?_)
    repeat (with_reducible refine wpC_q (by decide) (by decide) (fun K hK => ?_); go_simp; (try rw [if_neg (by simp [undef])]); refine hK _ ?_; clear hK K)
    with_reducible refine wpC_off (by decide) (by go_simp) ?_
    repeat (with_reducible refine wpC_q (by decide) (by decide) (fun K hK => ?_); go_simp; (try rw [if_neg (by simp [undef])]); refine hK _ ?_; clear hK K)
    with_reducible refine wpC_off (by decide) (by go_simp) ?_
    repeat (with_reducible refine wpC_q (by decide) (by decide) (fun K hK => ?_); go_simp; (try rw [if_neg (by simp [undef])]); refine hK _ ?_; clear hK K)
    with_reducible refine wpC_vg (ι := Unit) (fun _ => .bool true) (fun _ _ => True) (by decide) (by decide) (by go_simp) hs5 (fun _ => stable_true) (fun W _ _ => ⟨(), W, by go_simp, trivial, Below.refl _ _⟩) (fun i6 hs6 => ?_)
    repeat (with_reducible refine wpC_q (by decide) (by decide) (fun K hK => ?_); go_simp; (try rw [if_neg (by simp [undef])]); refine hK _ ?_; clear hK K)
    with_reducible refine wpC_vg (ι := Unit) (fun _ => .bool true) (fun _ _ => True) (by decide) (by decide) (by go_simp) hs6 (fun _ => stable_true) (fun W _ _ => ⟨(), W, by go_simp, trivial, Below.refl _ _⟩) (fun i7 hs7 => ?_)
    repeat (with_reducible refine wpC_q (by decide) (by decide) (fun K hK => ?_); go_simp; (try rw [if_neg (by simp [undef])]); refine hK _ ?_; clear hK K)
    with_reducible refine wpC_off (by decide) (by go_simp) ?_
    repeat (with_reducible refine wpC_q (by decide) (by decide) (fun K hK => ?_); go_simp; (try rw [if_neg (by simp [undef])]); refine hK _ ?_; clear hK K)
    refine wpC_nil ?_
    intro w2 hb2 _
    clear x0 x1 x2 y0 y1 y2 s0 s1 s2 s3 HB1 HB2 HSp HG1 HG2 HG3 HG4 hs0 hs1 hs2 hs3 hs4 hs5 hs6 hs7
    have hB2 := hB0.trans (hb2.mono hB0.size)
    go_wp2_with fail
    refine (known09_any _).mono ?_
    rintro e w3 ⟨rfl, hk3⟩
    go_wp2_with fail
    go_ret
    exact ⟨rfl, hB2.trans (hk3.mono hB2.size)⟩
  have F2 := Lib.hid f2
  have HS := Lib.hid ((spB_iff S).1 f2)
  clear f2
  have HL1 := Lib.hid (fun (W : World) (hW : RD W W.heap.size pa pn ca cn ja jn R) => R3Length_any pa pn pc ca cn cc ja jn jc R W hW HV.out)
  have HL2 := Lib.hid (fun (W : World) (hW : RD W W.heap.size pa2 pn2 ca2 cn2 ja2 jn2 R2) => R3Length_any pa2 pn2 pc2 ca2 cn2 cc2 ja2 jn2 jc2 R2 W hW HV2.out)
  by_cases he : sumL R.ps = sumL R2.ps
  case neg =>
    have es : (sumL R.ps != sumL R2.ps) = true := by simpa using he
    clear he
    refine wp_region_ch 30 [1, 3, 5, 8, 10, 13, 15, 17, 20, 25, 28] hmo (by kernel_rfl) ?_
    simp only [List.take_succ_cons, List.take_zero, List.drop_succ_cons, List.drop_zero]
    repeat (with_reducible refine wpC_q (by decide) (by decide) (fun K hK => ?_); go_simp; (try rw [if_neg (by simp [undef])]); refine hK _ ?_; clear hK K)
    with_reducible refine wpC_cg (ι := Unit) 4 #[.agg #[.slice pa pn pc, .slice ca cn cc, .slice ja jn jc]] (fun _ => .bool true) (fun _ _ => True) (by decide) (by decide) (by go_simp) (fun w => by go_simp) stable_true (fun _ => stable_true) (fun W hW _ => ?_) (fun i0 hs0 => ?_)
    · obtain ⟨pp, rfl⟩ := hW
      refine (HB1.out _ (HG1.out _ _)).mono ?_
      rintro e w' ⟨rfl, hbl⟩
      exact ⟨(), by rw [F0.out], trivial, hbl⟩
    repeat (with_reducible refine wpC_q (by decide) (by decide) (fun K hK => ?_); go_simp; (try rw [if_neg (by simp [undef])]); refine hK _ ?_; clear hK K)
    with_reducible refine wpC_vg (ι := Unit) (fun _ => .bool false) (fun _ _ => True) (by decide) (by decide) (by go_simp) hs0 (fun _ => stable_true) (fun W _ _ => ⟨(), W, by go_simp, trivial, Below.refl _ _⟩) (fun i1 hs1 => ?_)
    repeat (with_reducible refine wpC_q (by decide) (by decide) (fun K hK => ?_); go_simp; (try rw [if_neg (by simp [undef])]); refine hK _ ?_; clear hK K)
    with_reducible refine wpC_cg (ι := Unit) 4 #[.agg #[.slice pa2 pn2 pc2, .slice ca2 cn2 cc2, .slice ja2 jn2 jc2]] (fun _ => .bool true) (fun _ _ => True) (by decide) (by decide) (by go_simp) (fun w => by go_simp) hs1 (fun _ => stable_true) (fun W hW _ => ?_) (fun i2 hs2 => ?_)
    · obtain ⟨pp, rfl⟩ := hW
      refine (HB2.out _ (HG2.out _ _)).mono ?_
      rintro e w' ⟨rfl, hbl⟩
      exact ⟨(), by rw [F1.out], trivial, hbl⟩
    repeat (with_reducible refine wpC_q (by decide) (by decide) (fun K hK => ?_); go_simp; (try rw [if_neg (by simp [undef])]); refine hK _ ?_; clear hK K)
    with_reducible refine wpC_vg (ι := Unit) (fun _ => .bool false) (fun _ _ => True) (by decide) (by decide) (by go_simp) hs2 (fun _ => stable_true) (fun W _ _ => ⟨(), W, by go_simp, trivial, Below.refl _ _⟩) (fun i3 hs3 => ?_)
    repeat (with_reducible refine wpC_q (by decide) (by decide) (fun K hK => ?_); go_simp; (try rw [if_neg (by simp [undef])]); refine hK _ ?_; clear hK K)
    with_reducible refine wpC_cg (ι := Unit) 5 #[.agg #[.int .i64 S.least, .int .i64 S.most, .slice ra rn rc, .slice sa sn sc]] (fun _ => .bool true) (fun _ _ => True) (by decide) (by decide) (by go_simp) (fun w => by go_simp) hs3 (fun _ => stable_true) (fun W hW _ => ?_) (fun i4 hs4 => ?_)
    · obtain ⟨pp, rfl⟩ := hW
      refine (HSp.out _ (HG3.out _ _)).mono ?_
      rintro e w' ⟨rfl, hbl⟩
      exact ⟨(), by rw [F2.out], trivial, hbl⟩
    repeat (with_reducible refine wpC_q (by decide) (by decide) (fun K hK => ?_); go_simp; (try rw [if_neg (by simp [undef])]); refine hK _ ?_; clear hK K)
    with_reducible refine wpC_vg (ι := Unit) (fun _ => .bool false) (fun _ _ => True) (by decide) (by decide) (by go_simp) hs4 (fun _ => stable_true) (fun W _ _ => ⟨(), W, by go_simp, trivial, Below.refl _ _⟩) (fun i5 hs5 => ?_)
    repeat (with_reducible refine wpC_q (by decide) (by decide) (fun K hK => ?_); go_simp; (try rw [if_neg (by simp [undef])]); refine hK _ ?_; clear hK K)
    with_reducible refine wpC_cg (ι := Unit) 6 #[.agg #[.slice pa pn pc, .slice ca cn cc, .slice ja jn jc]] (fun _ => .int .i64 (sumL R.ps)) (fun _ _ => True) (by decide) (by decide) (by go_simp) (fun w => by go_simp) hs5 (fun _ => stable_true) (fun W hW _ => ?_) (fun i6 hs6 => ?_)
    · obtain ⟨pp, rfl⟩ := hW
      refine (HL1.out _ (HG1.out _ _)).mono ?_
      rintro e w' ⟨rfl, hbl⟩
      exact ⟨(), rfl, trivial, hbl⟩
    repeat (with_reducible refine wpC_q (by decide) (by decide) (fun K hK => ?_); go_simp; (try rw [if_neg (by simp [undef])]); refine hK _ ?_; clear hK K)
    with_reducible refine wpC_cg (ι := Unit) 6 #[.agg #[.slice pa2 pn2 pc2, .slice ca2 cn2 cc2, .slice ja2 jn2 jc2]] (fun _ => .int .i64 (sumL R2.ps)) (fun _ _ => True) (by decide) (by decide) (by go_simp) (fun w => by go_simp) hs6 (fun _ => stable_true) (fun W hW _ => ?_) (fun i7 hs7 => ?_)
    · obtain ⟨pp, rfl⟩ := hW
      refine (HL2.out _ (HG2.out _ _)).mono ?_
      rintro e w' ⟨rfl, hbl⟩
      exact ⟨(), rfl, trivial, hbl⟩
    repeat (with_reducible refine wpC_q (by decide) (by decide) (fun K hK => ?_); go_simp; (try rw [if_neg (by simp [undef])]); refine hK _ ?_; clear hK K)
    with_reducible refine wpC_vg (ι := Unit) (fun _ => .bool true) (fun _ _ => True) (by decide) (by decide) (by go_simp) hs7 (fun _ => stable_true) (fun W _ _ => ⟨(), W, by go_simp, trivial, Below.refl _ _⟩) (fun i8 hs8 => ?_)
    repeat (with_reducible refine wpC_q (by decide) (by decide) (fun K hK => ?_); go_simp; (try rw [if_neg (by simp [undef])]); refine hK _ ?_; clear hK K)
    with_reducible refine wpC_vg (ι := Unit) (fun _ => .bool true) (fun _ _ => True) (by decide) (by decide) (by go_simp) hs8 (fun _ => stable_true) (fun W _ _ => ⟨(), W, by go_simp, trivial, Below.refl _ _⟩) (fun i9 hs9 => ?_)
    repeat (with_reducible refine wpC_q (by decide) (by decide) (fun K hK => ?_); go_simp; (try rw [if_neg (by simp [undef])]); refine hK _ ?_; clear hK K)
    with_reducible refine wpC_off (by decide) (by go_simp) ?_
    repeat (with_reducible refine wpC_q (by decide) (by decide) (fun K hK => ?_); go_simp; (try rw [if_neg (by simp [undef])]); refine hK _ ?_; clear hK K)
    refine wpC_nil ?_
    intro w2 hb2 _
    clear x0 x1 x2 y0 y1 y2 s0 s1 s2 s3 HB1 HB2 HSp HG1 HG2 HG3 HG4 hs0 hs1 hs2 hs3 hs4 hs5 hs6 hs7 hs8 hs9
    have hB2 := hB0.trans (hb2.mono hB0.size)
    go_wp2_with fail
    refine (known09_any _).mono ?_
    rintro e w3 ⟨rfl, hk3⟩
    go_wp2_with fail
    go_ret
    exact ⟨rfl, hB2.trans (hk3.mono hB2.size)⟩
  have HE := Lib.hid he
  have es : (sumL R.ps != sumL R2.ps) = false := by simpa using he
  clear he
  by_cases h8 : 8 < kn
  case pos =>
    have e8 : decide ((8 : Int) < (kn : Int)) = true := by simp; omega
    clear h8
    refine wp_region_ch 30 [1, 3, 5, 8, 10, 13, 15, 17, 20, 25, 28] hmo (by kernel_rfl) ?_
    simp only [List.take_succ_cons, List.take_zero, List.drop_succ_cons, List.drop_zero]
    repeat (with_reducible refine wpC_q (by decide) (by decide) (fun K hK => ?_); go_simp; (try rw [if_neg (by simp [undef])]); refine hK _ ?_; clear hK K)
    with_reducible refine wpC_cg (ι := Unit) 4 #[.agg #[.slice pa pn pc, .slice ca cn cc, .slice ja jn jc]] (fun _ => .bool true) (fun _ _ => True) (by decide) (by decide) (by go_simp) (fun w => by go_simp) stable_true (fun _ => stable_true) (fun W hW _ => ?_) (fun i0 hs0 => ?_)
    · obtain ⟨pp, rfl⟩ := hW
      refine (HB1.out _ (HG1.out _ _)).mono ?_
      rintro e w' ⟨rfl, hbl⟩
      exact ⟨(), by rw [F0.out], trivial, hbl⟩
    repeat (with_reducible refine wpC_q (by decide) (by decide) (fun K hK => ?_); go_simp; (try rw [if_neg (by simp [undef])]); refine hK _ ?_; clear hK K)
    with_reducible refine wpC_vg (ι := Unit) (fun _ => .bool false) (fun _ _ => True) (by decide) (by decide) (by go_simp) hs0 (fun _ => stable_true) (fun W _ _ => ⟨(), W, by go_simp, trivial, Below.refl _ _⟩) (fun i1 hs1 => ?_)
    repeat (with_reducible refine wpC_q (by decide) (by decide) (fun K hK => ?_); go_simp; (try rw [if_neg (by simp [undef])]); refine hK _ ?_; clear hK K)
    with_reducible refine wpC_cg (ι := Unit) 4 #[.agg #[.slice pa2 pn2 pc2, .slice ca2 cn2 cc2, .slice ja2 jn2 jc2]] (fun _ => .bool true) (fun _ _ => True) (by decide) (by decide) (by go_simp) (fun w => by go_simp) hs1 (fun _ => stable_true) (fun W hW _ => ?_) (fun i2 hs2 => ?_)
    · obtain ⟨pp, rfl⟩ := hW
      refine (HB2.out _ (HG2.out _ _)).mono ?_
      rintro e w' ⟨rfl, hbl⟩
      exact ⟨(), by rw [F1.out], trivial, hbl⟩
    repeat (with_reducible refine wpC_q (by decide) (by decide) (fun K hK => ?_); go_simp; (try rw [if_neg (by simp [undef])]); refine hK _ ?_; clear hK K)
    with_reducible refine wpC_vg (ι := Unit) (fun _ => .bool false) (fun _ _ => True) (by decide) (by decide) (by go_simp) hs2 (fun _ => stable_true) (fun W _ _ => ⟨(), W, by go_simp, trivial, Below.refl _ _⟩) (fun i3 hs3 => ?_)
    repeat (with_reducible refine wpC_q (by decide) (by decide) (fun K hK => ?_); go_simp; (try rw [if_neg (by simp [undef])]); refine hK _ ?_; clear hK K)
    with_reducible refine wpC_cg (ι := Unit) 5 #[.agg #[.int .i64 S.least, .int .i64 S.most, .slice ra rn rc, .slice sa sn sc]] (fun _ => .bool true) (fun _ _ => True) (by decide) (by decide) (by go_simp) (fun w => by go_simp) hs3 (fun _ => stable_true) (fun W hW _ => ?_) (fun i4 hs4 => ?_)
    · obtain ⟨pp, rfl⟩ := hW
      refine (HSp.out _ (HG3.out _ _)).mono ?_
      rintro e w' ⟨rfl, hbl⟩
      exact ⟨(), by rw [F2.out], trivial, hbl⟩
    repeat (with_reducible refine wpC_q (by decide) (by decide) (fun K hK => ?_); go_simp; (try rw [if_neg (by simp [undef])]); refine hK _ ?_; clear hK K)
    with_reducible refine wpC_vg (ι := Unit) (fun _ => .bool false) (fun _ _ => True) (by decide) (by decide) (by go_simp) hs4 (fun _ => stable_true) (fun W _ _ => ⟨(), W, by go_simp, trivial, Below.refl _ _⟩) (fun i5 hs5 => ?_)
    repeat (with_reducible refine wpC_q (by decide) (by decide) (fun K hK => ?_); go_simp; (try rw [if_neg (by simp [undef])]); refine hK _ ?_; clear hK K)
    with_reducible refine wpC_cg (ι := Unit) 6 #[.agg #[.slice pa pn pc, .slice ca cn cc, .slice ja jn jc]] (fun _ => .int .i64 (sumL R.ps)) (fun _ _ => True) (by decide) (by decide) (by go_simp) (fun w => by go_simp) hs5 (fun _ => stable_true) (fun W hW _ => ?_) (fun i6 hs6 => ?_)
    · obtain ⟨pp, rfl⟩ := hW
      refine (HL1.out _ (HG1.out _ _)).mono ?_
      rintro e w' ⟨rfl, hbl⟩
      exact ⟨(), rfl, trivial, hbl⟩
    repeat (with_reducible refine wpC_q (by decide) (by decide) (fun K hK => ?_); go_simp; (try rw [if_neg (by simp [undef])]); refine hK _ ?_; clear hK K)
    with_reducible refine wpC_cg (ι := Unit) 6 #[.agg #[.slice pa2 pn2 pc2, .slice ca2 cn2 cc2, .slice ja2 jn2 jc2]] (fun _ => .int .i64 (sumL R2.ps)) (fun _ _ => True) (by decide) (by decide) (by go_simp) (fun w => by go_simp) hs6 (fun _ => stable_true) (fun W hW _ => ?_) (fun i7 hs7 => ?_)
    · obtain ⟨pp, rfl⟩ := hW
      refine (HL2.out _ (HG2.out _ _)).mono ?_
      rintro e w' ⟨rfl, hbl⟩
      exact ⟨(), rfl, trivial, hbl⟩
    repeat (with_reducible refine wpC_q (by decide) (by decide) (fun K hK => ?_); go_simp; (try rw [if_neg (by simp [undef])]); refine hK _ ?_; clear hK K)
    with_reducible refine wpC_vg (ι := Unit) (fun _ => .bool false) (fun _ _ => True) (by decide) (by decide) (by go_simp) hs7 (fun _ => stable_true) (fun W _ _ => ⟨(), W, by go_simp, trivial, Below.refl _ _⟩) (fun i8 hs8 => ?_)
    repeat (with_reducible refine wpC_q (by decide) (by decide) (fun K hK => ?_); go_simp; (try rw [if_neg (by simp [undef])]); refine hK _ ?_; clear hK K)
    with_reducible refine wpC_vg (ι := Unit) (fun _ => .bool true) (fun _ _ => True) (by decide) (by decide) (by go_simp) hs8 (fun _ => stable_true) (fun W _ _ => ⟨(), W, by go_simp, trivial, Below.refl _ _⟩) (fun i9 hs9 => ?_)
    repeat (with_reducible refine wpC_q (by decide) (by decide) (fun K hK => ?_); go_simp; (try rw [if_neg (by simp [undef])]); refine hK _ ?_; clear hK K)
    with_reducible refine wpC_off (by decide) (by go_simp) ?_
    repeat (with_reducible refine wpC_q (by decide) (by decide) (fun K hK => ?_); go_simp; (try rw [if_neg (by simp [undef])]); refine hK _ ?_; clear hK K)
    refine wpC_nil ?_
    intro w2 hb2 _
    clear x0 x1 x2 y0 y1 y2 s0 s1 s2 s3 HB1 HB2 HSp HG1 HG2 HG3 HG4 hs0 hs1 hs2 hs3 hs4 hs5 hs6 hs7 hs8 hs9
    have hB2 := hB0.trans (hb2.mono hB0.size)
    go_wp2_with fail
    refine (known09_any _).mono ?_
    rintro e w3 ⟨rfl, hk3⟩
    go_wp2_with fail
    go_ret
    exact ⟨rfl, hB2.trans (hk3.mono hB2.size)⟩
  have e8 : decide ((8 : Int) < (kn : Int)) = false := by simp; omega
  have HCl := Lib.hid (fun (W : World) (hW : RD W W.heap.size pa pn ca cn ja jn R) (hW2 : SL caC 5 W W.heap.size ka kn cs) => RCalls_any ka kn kc cs pa pn pc ca cn cc ja jn jc R W hW HV.out hW2 (by omega))
  cases f5 : cB (sumL R.ps) cs
  case false =>
    have F5 := Lib.hid f5
    clear f5
    refine wp_region_ch 30 [1, 3, 5, 8, 10, 13, 15, 17, 20, 25, 28] hmo (by kernel_rfl) ?_
    simp only [List.take_succ_cons, List.take_zero, List.drop_succ_cons, List.drop_zero]
    repeat (with_reducible refine wpC_q (by decide) (by decide) (fun K hK => ?_); go_simp; (try rw [if_neg (by simp [undef])]); refine hK _ ?_; clear hK K)
    with_reducible refine wpC_cg (ι := Unit) 4 #[.agg #[.slice pa pn pc, .slice ca cn cc, .slice ja jn jc]] (fun _ => .bool true) (fun _ _ => True) (by decide) (by decide) (by go_simp) (fun w => by go_simp) stable_true (fun _ => stable_true) (fun W hW _ => ?_) (fun i0 hs0 => ?_)
    · obtain ⟨pp, rfl⟩ := hW
      refine (HB1.out _ (HG1.out _ _)).mono ?_
      rintro e w' ⟨rfl, hbl⟩
      exact ⟨(), by rw [F0.out], trivial, hbl⟩
    repeat (with_reducible refine wpC_q (by decide) (by decide) (fun K hK => ?_); go_simp; (try rw [if_neg (by simp [undef])]); refine hK _ ?_; clear hK K)
    with_reducible refine wpC_vg (ι := Unit) (fun _ => .bool false) (fun _ _ => True) (by decide) (by decide) (by go_simp) hs0 (fun _ => stable_true) (fun W _ _ => ⟨(), W, by go_simp, trivial, Below.refl _ _⟩) (fun i1 hs1 => ?_)
    repeat (with_reducible refine wpC_q (by decide) (by decide) (fun K hK => ?_); go_simp; (try rw [if_neg (by simp [undef])]); refine hK _ ?_; clear hK K)
    with_reducible refine wpC_cg (ι := Unit) 4 #[.agg #[.slice pa2 pn2 pc2, .slice ca2 cn2 cc2, .slice ja2 jn2 jc2]] (fun _ => .bool true) (fun _ _ => True) (by decide) (by decide) (by go_simp) (fun w => by go_simp) hs1 (fun _ => stable_true) (fun W hW _ => ?_) (fun i2 hs2 => ?_)
    · obtain ⟨pp, rfl⟩ := hW
      refine (HB2.out _ (HG2.out _ _)).mono ?_
      rintro e w' ⟨rfl, hbl⟩
      exact ⟨(), by rw [F1.out], trivial, hbl⟩
    repeat (with_reducible refine wpC_q (by decide) (by decide) (fun K hK => ?_); go_simp; (try rw [if_neg (by simp [undef])]); refine hK _ ?_; clear hK K)
    with_reducible refine wpC_vg (ι := Unit) (fun _ => .bool false) (fun _ _ => True) (by decide) (by decide) (by go_simp) hs2 (fun _ => stable_true) (fun W _ _ => ⟨(), W, by go_simp, trivial, Below.refl _ _⟩) (fun i3 hs3 => ?_)
    repeat (with_reducible refine wpC_q (by decide) (by decide) (fun K hK => ?_); go_simp; (try rw [if_neg (by simp [undef])]); refine hK _ ?_; clear hK K)
    with_reducible refine wpC_cg (ι := Unit) 5 #[.agg #[.int .i64 S.least, .int .i64 S.most, .slice ra rn rc, .slice sa sn sc]] (fun _ => .bool true) (fun _ _ => True) (by decide) (by decide) (by go_simp) (fun w => by go_simp) hs3 (fun _ => stable_true) (fun W hW _ => ?_) (fun i4 hs4 => ?_)
    · obtain ⟨pp, rfl⟩ := hW
      refine (HSp.out _ (HG3.out _ _)).mono ?_
      rintro e w' ⟨rfl, hbl⟩
      exact ⟨(), by rw [F2.out], trivial, hbl⟩
    repeat (with_reducible refine wpC_q (by decide) (by decide) (fun K hK => ?_); go_simp; (try rw [if_neg (by simp [undef])]); refine hK _ ?_; clear hK K)
    with_reducible refine wpC_vg (ι := Unit) (fun _ => .bool false) (fun _ _ => True) (by decide) (by decide) (by go_simp) hs4 (fun _ => stable_true) (fun W _ _ => ⟨(), W, by go_simp, trivial, Below.refl _ _⟩) (fun i5 hs5 => ?_)
    repeat (with_reducible refine wpC_q (by decide) (by decide) (fun K hK => ?_); go_simp; (try rw [if_neg (by simp [undef])]); refine hK _ ?_; clear hK K)
    with_reducible refine wpC_cg (ι := Unit) 6 #[.agg #[.slice pa pn pc, .slice ca cn cc, .slice ja jn jc]] (fun _ => .int .i64 (sumL R.ps)) (fun _ _ => True) (by decide) (by decide) (by go_simp) (fun w => by go_simp) hs5 (fun _ => stable_true) (fun W hW _ => ?_) (fun i6 hs6 => ?_)
    · obtain ⟨pp, rfl⟩ := hW
      refine (HL1.out _ (HG1.out _ _)).mono ?_
      rintro e w' ⟨rfl, hbl⟩
      exact ⟨(), rfl, trivial, hbl⟩
    repeat (with_reducible refine wpC_q (by decide) (by decide) (fun K hK => ?_); go_simp; (try rw [if_neg (by simp [undef])]); refine hK _ ?_; clear hK K)
    with_reducible refine wpC_cg (ι := Unit) 6 #[.agg #[.slice pa2 pn2 pc2, .slice ca2 cn2 cc2, .slice ja2 jn2 jc2]] (fun _ => .int .i64 (sumL R2.ps)) (fun _ _ => True) (by decide) (by decide) (by go_simp) (fun w => by go_simp) hs6 (fun _ => stable_true) (fun W hW _ => ?_) (fun i7 hs7 => ?_)
    · obtain ⟨pp, rfl⟩ := hW
      refine (HL2.out _ (HG2.out _ _)).mono ?_
      rintro e w' ⟨rfl, hbl⟩
      exact ⟨(), rfl, trivial, hbl⟩
    repeat (with_reducible refine wpC_q (by decide) (by decide) (fun K hK => ?_); go_simp; (try rw [if_neg (by simp [undef])]); refine hK _ ?_; clear hK K)
    with_reducible refine wpC_vg (ι := Unit) (fun _ => .bool false) (fun _ _ => True) (by decide) (by decide) (by go_simp) hs7 (fun _ => stable_true) (fun W _ _ => ⟨(), W, by go_simp, trivial, Below.refl _ _⟩) (fun i8 hs8 => ?_)
    repeat (with_reducible refine wpC_q (by decide) (by decide) (fun K hK => ?_); go_simp; (try rw [if_neg (by simp [undef])]); refine hK _ ?_; clear hK K)
    with_reducible refine wpC_vg (ι := Unit) (fun _ => .bool false) (fun _ _ => True) (by decide) (by decide) (by go_simp) hs8 (fun _ => stable_true) (fun W _ _ => ⟨(), W, by go_simp, trivial, Below.refl _ _⟩) (fun i9 hs9 => ?_)
    repeat (with_reducible refine wpC_q (by decide) (by decide) (fun K hK => ?_); go_simp; (try rw [if_neg (by simp [undef])]); refine hK _ ?_; clear hK K)
    with_reducible refine wpC_cg (ι := Unit) 7 #[.agg #[.slice pa pn pc, .slice ca cn cc, .slice ja jn jc], .slice ka kn kc] (fun _ => .bool false) (fun _ _ => True) (by decide) (by decide) (by go_simp) (fun w => by go_simp) hs9 (fun _ => stable_true) (fun W hW _ => ?_) (fun i10 hs10 => ?_)
    · obtain ⟨pp, rfl⟩ := hW
      refine (HCl.out _ (HG1.out _ _) (HG4.out _ _)).mono ?_
      rintro e w' ⟨rfl, hbl⟩
      exact ⟨(), by rw [F5.out], trivial, hbl⟩
    repeat (with_reducible refine wpC_q (by decide) (by decide) (fun K hK => ?_); go_simp; (try rw [if_neg (by simp [undef])]); refine hK _ ?_; clear hK K)
    refine wpC_nil ?_
    intro w2 hb2 _
    clear x0 x1 x2 y0 y1 y2 s0 s1 s2 s3 HB1 HB2 HSp HG1 HG2 HG3 HG4 hs0 hs1 hs2 hs3 hs4 hs5 hs6 hs7 hs8 hs9 hs10
    have hB2 := hB0.trans (hb2.mono hB0.size)
    go_wp2_with fail
    refine (known09_any _).mono ?_
    rintro e w3 ⟨rfl, hk3⟩
    go_wp2_with fail
    go_ret
    exact ⟨rfl, hB2.trans (hk3.mono hB2.size)⟩
  have F5 := Lib.hid f5
  have HC := Lib.hid ((cB_iff _ _).1 f5)
  clear f5
  refine wp_region_ch 30 [1, 3, 5, 8, 10, 13, 15, 17, 20, 25, 28] hmo (by kernel_rfl) ?_
  simp only [List.take_succ_cons, List.take_zero, List.drop_succ_cons, List.drop_zero]
  repeat (with_reducible refine wpC_q (by decide) (by decide) (fun K hK => ?_); go_simp; (try rw [if_neg (by simp [undef])]); refine hK _ ?_; clear hK K)
  with_reducible refine wpC_cg (ι := Unit) 4 #[.agg #[.slice pa pn pc, .slice ca cn cc, .slice ja jn jc]] (fun _ => .bool true) (fun _ _ => True) (by decide) (by decide) (by go_simp) (fun w => by go_simp) stable_true (fun _ => stable_true) (fun W hW _ => ?_) (fun i0 hs0 => ?_)
  · obtain ⟨pp, rfl⟩ := hW
    refine (HB1.out _ (HG1.out _ _)).mono ?_
    rintro e w' ⟨rfl, hbl⟩
    exact ⟨(), by rw [F0.out], trivial, hbl⟩
  repeat (with_reducible refine wpC_q (by decide) (by decide) (fun K hK => ?_); go_simp; (try rw [if_neg (by simp [undef])]); refine hK _ ?_; clear hK K)
  with_reducible refine wpC_vg (ι := Unit) (fun _ => .bool false) (fun _ _ => True) (by decide) (by decide) (by go_simp) hs0 (fun _ => stable_true) (fun W _ _ => ⟨(), W, by go_simp, trivial, Below.refl _ _⟩) (fun i1 hs1 => ?_)
  repeat (with_reducible refine wpC_q (by decide) (by decide) (fun K hK => ?_); go_simp; (try rw [if_neg (by simp [undef])]); refine hK _ ?_; clear hK K)
  with_reducible refine wpC_cg (ι := Unit) 4 #[.agg #[.slice pa2 pn2 pc2, .slice ca2 cn2 cc2, .slice ja2 jn2 jc2]] (fun _ => .bool true) (fun _ _ => True) (by decide) (by decide) (by go_simp) (fun w => by go_simp) hs1 (fun _ => stable_true) (fun W hW _ => ?_) (fun i2 hs2 => ?_)
  · obtain ⟨pp, rfl⟩ := hW
    refine (HB2.out _ (HG2.out _ _)).mono ?_
    rintro e w' ⟨rfl, hbl⟩
    exact ⟨(), by rw [F1.out], trivial, hbl⟩
  repeat (with_reducible refine wpC_q (by decide) (by decide) (fun K hK => ?_); go_simp; (try rw [if_neg (by simp [undef])]); refine hK _ ?_; clear hK K)
  with_reducible refine wpC_vg (ι := Unit) (fun _ => .bool false) (fun _ _ => True) (by decide) (by decide) (by go_simp) hs2 (fun _ => stable_true) (fun W _ _ => ⟨(), W, by go_simp, trivial, Below.refl _ _⟩) (fun i3 hs3 => ?_)
  repeat (with_reducible refine wpC_q (by decide) (by decide) (fun K hK => ?_); go_simp; (try rw [if_neg (by simp [undef])]); refine hK _ ?_; clear hK K)
  with_reducible refine wpC_cg (ι := Unit) 5 #[.agg #[.int .i64 S.least, .int .i64 S.most, .slice ra rn rc, .slice sa sn sc]] (fun _ => .bool true) (fun _ _ => True) (by decide) (by decide) (by go_simp) (fun w => by go_simp) hs3 (fun _ => stable_true) (fun W hW _ => ?_) (fun i4 hs4 => ?_)
  · obtain ⟨pp, rfl⟩ := hW
    refine (HSp.out _ (HG3.out _ _)).mono ?_
    rintro e w' ⟨rfl, hbl⟩
    exact ⟨(), by rw [F2.out], trivial, hbl⟩
  repeat (with_reducible refine wpC_q (by decide) (by decide) (fun K hK => ?_); go_simp; (try rw [if_neg (by simp [undef])]); refine hK _ ?_; clear hK K)
  with_reducible refine wpC_vg (ι := Unit) (fun _ => .bool false) (fun _ _ => True) (by decide) (by decide) (by go_simp) hs4 (fun _ => stable_true) (fun W _ _ => ⟨(), W, by go_simp, trivial, Below.refl _ _⟩) (fun i5 hs5 => ?_)
  repeat (with_reducible refine wpC_q (by decide) (by decide) (fun K hK => ?_); go_simp; (try rw [if_neg (by simp [undef])]); refine hK _ ?_; clear hK K)
  with_reducible refine wpC_cg (ι := Unit) 6 #[.agg #[.slice pa pn pc, .slice ca cn cc, .slice ja jn jc]] (fun _ => .int .i64 (sumL R.ps)) (fun _ _ => True) (by decide) (by decide) (by go_simp) (fun w => by go_simp) hs5 (fun _ => stable_true) (fun W hW _ => ?_) (fun i6 hs6 => ?_)
  · obtain ⟨pp, rfl⟩ := hW
    refine (HL1.out _ (HG1.out _ _)).mono ?_
    rintro e w' ⟨rfl, hbl⟩
    exact ⟨(), rfl, trivial, hbl⟩
  repeat (with_reducible refine wpC_q (by decide) (by decide) (fun K hK => ?_); go_simp; (try rw [if_neg (by simp [undef])]); refine hK _ ?_; clear hK K)
  with_reducible refine wpC_cg (ι := Unit) 6 #[.agg #[.slice pa2 pn2 pc2, .slice ca2 cn2 cc2, .slice ja2 jn2 jc2]] (fun _ => .int .i64 (sumL R2.ps)) (fun _ _ => True) (by decide) (by decide) (by go_simp) (fun w => by go_simp) hs6 (fun _ => stable_true) (fun W hW _ => ?_) (fun i7 hs7 => ?_)
  · obtain ⟨pp, rfl⟩ := hW
    refine (HL2.out _ (HG2.out _ _)).mono ?_
    rintro e w' ⟨rfl, hbl⟩
    exact ⟨(), rfl, trivial, hbl⟩
  repeat (with_reducible refine wpC_q (by decide) (by decide) (fun K hK => ?_); go_simp; (try rw [if_neg (by simp [undef])]); refine hK _ ?_; clear hK K)
  with_reducible refine wpC_vg (ι := Unit) (fun _ => .bool false) (fun _ _ => True) (by decide) (by decide) (by go_simp) hs7 (fun _ => stable_true) (fun W _ _ => ⟨(), W, by go_simp, trivial, Below.refl _ _⟩) (fun i8 hs8 => ?_)
  repeat (with_reducible refine wpC_q (by decide) (by decide) (fun K hK => ?_); go_simp; (try rw [if_neg (by simp [undef])]); refine hK _ ?_; clear hK K)
  with_reducible refine wpC_vg (ι := Unit) (fun _ => .bool false) (fun _ _ => True) (by decide) (by decide) (by go_simp) hs8 (fun _ => stable_true) (fun W _ _ => ⟨(), W, by go_simp, trivial, Below.refl _ _⟩) (fun i9 hs9 => ?_)
  repeat (with_reducible refine wpC_q (by decide) (by decide) (fun K hK => ?_); go_simp; (try rw [if_neg (by simp [undef])]); refine hK _ ?_; clear hK K)
  with_reducible refine wpC_cg (ι := Unit) 7 #[.agg #[.slice pa pn pc, .slice ca cn cc, .slice ja jn jc], .slice ka kn kc] (fun _ => .bool true) (fun _ _ => True) (by decide) (by decide) (by go_simp) (fun w => by go_simp) hs9 (fun _ => stable_true) (fun W hW _ => ?_) (fun i10 hs10 => ?_)
  · obtain ⟨pp, rfl⟩ := hW
    refine (HCl.out _ (HG1.out _ _) (HG4.out _ _)).mono ?_
    rintro e w' ⟨rfl, hbl⟩
    exact ⟨(), by rw [F5.out], trivial, hbl⟩
  repeat (with_reducible refine wpC_q (by decide) (by decide) (fun K hK => ?_); go_simp; (try rw [if_neg (by simp [undef])]); refine hK _ ?_; clear hK K)
  refine wpC_nil ?_
  intro w2 hb2 _
  clear x0 x1 x2 y0 y1 y2 s0 s1 s2 s3 HB1 HB2 HSp HG1 HG2 HG3 HG4 hs0 hs1 hs2 hs3 hs4 hs5 hs6 hs7 hs8 hs9 hs10
  clear es e8 HL1 HL2 HCl
  have hB2 := hB0.trans (hb2.mono hB0.size)
  have hX2 := hX0.below hb2 hX0.lt
  have hY2 := hY0.below hb2 hY0.lt
  have hS2 := hS0.below hb2 hS0.lt
  have hz2 := hB2.size
  have hrn : rn ≤ 30 := by rw [HD.out.r.1]; exact HS.out.r2
  have HLR := Lib.hid HD.out.r.1
  have HLS := Lib.hid HD.out.s.1
  have HSN : Hid (sn = 9) := by show _ = _; rw [HD.out.s.1]; exact HS.out.s9
  clear hX0 hY0 hS0 hB0 hb2 hl1 hl2 hl3
  have q0 := hS2.cell 0
  have q1 := hS2.cell 1
  have q2 := hS2.cell 2
  have q3 := hS2.cell 3
  have hlS := hS2.lt
  simp only [List.getElem?_toArray, List.getElem?_cons_zero, List.getElem?_cons_succ] at q0 q1 q2 q3
  go_wp2_with fail
  go_loopw [9] (fun i wr => ∃ k : Nat, k ≤ rn ∧ i = .int .i64 k ∧ Below w2.heap.size w2 wr ∧ Hid (∀ i, i < k → rowAt S i))
    (fun i _ => rn - (intOf i).toNat)
  case atStart => exact ⟨0, Nat.zero_le _, rfl, Below.refl _ _, by simp [Hid]⟩
  case round =>
    obtain ⟨k, hk, rfl, hbr, hall⟩ := hrel
    have hBr := hB2.trans (hbr.mono hz2)
    have q0 := (bc hbr hlS).trans q0
    have q1 := (bc hbr hlS).trans q1
    have q2 := (bc hbr hlS).trans q2
    have q3 := (bc hbr hlS).trans q3
    have hlSr : w.heap.size + 2 < wr.heap.size := by have := hbr.size; omega
    by_cases hlt : k < rn
    · have hkl : k < S.rows.length := by rw [← HLR.out]; exact hlt
      obtain ⟨b, off, hA, hbB, c0, c1, c2⟩ := SR.at_ (HD.out.r.grow hBr hBr.size) (k := k) hkl
      have hstep : Hid (∀ (hh : S.rows[k].most ≤ S.most ∧ ∀ d, 0 < k → S.rows[k-1]? = some d → d.most ≤ S.rows[k].most), ∀ i, i < k + 1 → rowAt S i) := by
        intro hh i hi
        rcases Nat.lt_or_ge i k with h | h
        · exact hall.out i h
        · obtain rfl : i = k := by omega
          intro c hc
          rw [List.getElem?_eq_getElem hkl] at hc
          cases hc
          exact hh
      have hprev : 0 < k → ∃ d : SpRow, Hid (S.rows[k-1]? = some d) ∧ wr.cell? ⟨b, off + (k-1) * 3 + 2, none⟩ = some (.int .i64 d.most) := by
        intro h0
        obtain ⟨b2, off2, hA2, _, _, _, c02⟩ := SR.at_ (HD.out.r.grow hBr hBr.size) (k := k - 1) (by omega)
        rw [hA] at hA2
        cases hA2
        exact ⟨S.rows[k-1], List.getElem?_eq_getElem (by omega), c02⟩
      generalize S.rows[k]'hkl = r at c0 c1 c2 hstep
      clear hkl hall
      have hi1 : (0 : Int) ≤ (k : Int) := by omega
      have hi2 : (k : Int) < (rn : Int) := by omega
      subst hA
      by_cases h1 : S.most < r.most
      case pos =>
        have g1 : decide (S.most < r.most) = true := by simpa using h1
        clear h1 hstep
        go_wp2_with fail
        go_quiet (fail)
        go_wp2_with fail
        have hBq := below_drewN hBr nq
        refine (known09_any _).mono ?_
        rintro e w9 ⟨rfl, hk9⟩
        go_wp2_with fail
        go_ret
        exact ⟨rfl, hBq.trans (hk9.mono hBq.size)⟩
      have g1 : decide (S.most < r.most) = false := by simpa using h1
      by_cases h0 : 0 < k
      case neg =>
        have hs' := Lib.hid (hstep.out ⟨by omega, fun d h => absurd h h0⟩)
        obtain rfl : k = 0 := by omega
        clear h1 hstep hprev
        go_wp2_with fail
        go_quiet (fail)
        go_wp2_with fail
        go_roundw
        case rel => exact ⟨1, by omega, by go_num, below_drewN hbr _, hs'⟩
        case measure => simp [intOf]; omega
      obtain ⟨d, hd, cd⟩ := hprev h0
      have g2 : decide ((0 : Int) < (k : Int)) = true := by simp; omega
      have hwk : IntKind.i64.wrap ((k : Int) - 1) = ((k - 1 : Nat) : Int) := (IntWalk.i64_in _ (by omega)).trans (by omega)
      have hk3 : ((k - 1 : Nat) : Int) < (rn : Int) := by omega
      by_cases h2 : r.most < d.most
      case pos =>
        have g3 : decide (r.most < d.most) = true := by simpa using h2
        clear h1 h2 hstep hprev
        go_wp2_with fail
        go_quiet (fail)
        go_wp2_with fail
        have hBq := below_drewN hBr nq
        refine (known09_any _).mono ?_
        rintro e w9 ⟨rfl, hk9⟩
        go_wp2_with fail
        go_ret
        exact ⟨rfl, hBq.trans (hk9.mono hBq.size)⟩
      have g3 : decide (r.most < d.most) = false := by simpa using h2
      have hs' := Lib.hid (hstep.out ⟨by omega, fun d' _ h' => by rw [hd.out] at h'; cases h'; omega⟩)
      clear h1 h2 hstep hprev
      go_wp2_with fail
      go_quiet (fail)
      go_wp2_with fail
      go_roundw
      case rel => exact ⟨k + 1, by omega, by go_num, below_drewN hbr _, hs'⟩
      case measure => simp [intOf]; omega
    · obtain rfl : rn = k := by omega
      have HRows := Lib.hid hall.out
      clear hall
      go_wp2_with fail
      go_loopw [10] (fun i wr => ∃ k : Nat, 1 ≤ k ∧ k ≤ 9 ∧ i = .int .i64 k ∧ Below w2.heap.size w2 wr ∧ Hid (∀ i, 1 ≤ i → i < k → surAt S i))
        (fun i _ => 9 - (intOf i).toNat)
      case atStart => exact ⟨1, Nat.le_refl _, by omega, rfl, hbr, fun i h1 h2 => by omega⟩
      clear hbr hBr q0 q1 q2 q3 hlSr
      case round =>
        obtain ⟨m, hm1, hm9, rfl, hbr, hall⟩ := hrel
        have hBr := hB2.trans (hbr.mono hz2)
        have q3 := (hS2.below hbr hlS).cell 3
        simp only [List.getElem?_toArray, List.getElem?_cons_zero, List.getElem?_cons_succ] at q3
        have hlSr : w.heap.size + 2 < wr.heap.size := by have := hbr.size; omega
        by_cases hlt : m < 9
        · have hkl : m < S.surf.length := by rw [← HLS.out, HSN.out]; exact hlt
          have hkp : m - 1 < S.surf.length := by omega
          obtain ⟨b, off, hA, hbB, c0⟩ := IS.at_ (HD.out.s.grow hBr hBr.size) (k := m) hkl
          obtain ⟨b2, off2, hA2, hbB2, d0⟩ := IS.at_ (HD.out.s.grow hBr hBr.size) (k := m - 1) hkp
          rw [hA] at hA2
          cases hA2
          have hstep : Hid (S.surf[m] ≤ S.surf[m-1] → ∀ i, 1 ≤ i → i < m + 1 → surAt S i) := by
            intro hh i h1 hi
            rcases Nat.lt_or_ge i m with h | h
            · exact hall.out i h1 h
            · obtain rfl : i = m := by omega
              intro x y hx hy
              rw [List.getElem?_eq_getElem hkl] at hx
              rw [List.getElem?_eq_getElem hkp] at hy
              cases hx
              cases hy
              exact hh
          generalize S.surf[m]'hkl = x at c0 hstep
          generalize S.surf[m-1]'hkp = y at d0 hstep
          clear hkl hkp hall
          have hi1 : (0 : Int) ≤ (m : Int) := by omega
          have hi2 : (m : Int) < (sn : Int) := by have := HSN.out; omega
          have hi3 : decide ((m : Int) < 9) = true := by simp; omega
          have hwk : IntKind.i64.wrap ((m : Int) - 1) = ((m - 1 : Nat) : Int) := (IntWalk.i64_in _ (by omega)).trans (by omega)
          have hk3 : ((m - 1 : Nat) : Int) < (sn : Int) := by have := HSN.out; omega
          subst hA
          by_cases h1 : y < x
          case pos =>
            have g1 : decide (y < x) = true := by simpa using h1
            clear h1 hstep
            go_wp2_with fail
            go_quiet (fail)
            go_wp2_with fail
            have hBq := below_drewN hBr nq
            refine (known09_any _).mono ?_
            rintro e w9 ⟨rfl, hk9⟩
            go_wp2_with fail
            go_ret
            exact ⟨rfl, hBq.trans (hk9.mono hBq.size)⟩
          have g1 : decide (y < x) = false := by simpa using h1
          have hs' := Lib.hid (hstep.out (by omega))
          clear h1 hstep
          go_wp2_with fail
          go_quiet (fail)
          go_wp2_with fail
          go_roundw
          case rel => exact ⟨m + 1, by omega, by omega, by go_num, below_drewN hbr _, hs'⟩
          case measure => simp [intOf]; omega
        · obtain rfl : m = 9 := by omega
          have HSurf := Lib.hid hall.out
          obtain ⟨wB, hwB⟩ : ∃ wB, wB = wr := ⟨_, rfl⟩
          rw [← hwB] at hbr hBr hlSr ⊢
          have hXB := hX2.below hbr hX2.lt
          have hYB := hY2.below hbr hY2.lt
          have hSB := hS2.below hbr hS2.lt
          clear hall q3 hwB hX2 hY2 hS2
          rw [show ((9 : Nat) : Int) = 9 from rfl]
          go_wp2_with fail
          go_loopw [11, 12] (fun o i wr => ∃ (k : Nat) (A : Option Addr) (c : Nat), k ≤ kn ∧ i = .int .i64 k ∧ o = .slice A k c ∧ OW caC 5 40 wB.heap.size wr A k c ((cs.take k).map freeC) ∧ Below wB.heap.size wB wr)
            (fun _ i _ => kn - (intOf i).toNat)
          case atStart => exact ⟨0, none, 0, Nat.zero_le _, rfl, rfl, by simp only [List.take_zero, List.map_nil]; exact OW.nil_, Below.refl _ _⟩
          case round =>
            obtain ⟨m, A, c, hm, rfl, rfl, hO, hbC⟩ := hrel
            have hBC := hBr.trans (hbC.mono hBr.size)
            have hzC := hbC.size
            by_cases hlt : m < kn
            · have hkl : m < cs.length := by rw [← HLK.out]; exact hlt
              obtain ⟨b, off, hA, hbB, c0, c1, c2, c3, c4⟩ := KS5.at_ (HK.out.grow hBC hBC.size) (k := m) hkl
              have htk : Hid ((cs.take (m + 1)).map freeC = (cs.take m).map freeC ++ [freeC cs[m]]) := by show _ = _; rw [List.take_succ_eq_append_getElem hkl, List.map_append]; rfl
              generalize cs[m]'hkl = x at c0 c1 c2 c3 c4 htk
              have hi1 : (0 : Int) ≤ (m : Int) := by omega
              have hi2 : (m : Int) < (kn : Int) := by omega
              subst hA
              clear hkl
              obtain ⟨wN, hwN⟩ : ∃ wN, wN = wr.alloc (.cells #[.int .i64 x.place, .int .i64 x.lasts, .int .i64 x.lead, .int .i64 1125899906842624, .int .i64 x.value] 40) := ⟨_, rfl⟩
              have hbN : Below wr.heap.size wr wN := by rw [hwN]; exact (Below.refl _ _).alloc (Nat.le_refl _) _
              have hON := hO.call hbN
              have hNew : BK (wN.alloc (.cells #[.int .i64 x.place, .int .i64 x.lasts, .int .i64 x.lead, .int .i64 1125899906842624, .int .i64 x.value] 40)) wN.heap.size 40 #[.int .i64 x.place, .int .i64 x.lasts, .int .i64 x.lead, .int .i64 1125899906842624, .int .i64 x.value] := BK.new wN _ _
              have hsN : wN.heap.size = wr.heap.size + 1 := by rw [hwN]; simp
              rw [hsN, hwN] at hNew
              rw [hwN] at hON
              have hb2N := hbC.trans (hbN.mono hbC.size)
              rw [hwN] at hb2N
              clear hwN hsN hbN
              go_wp2_with (at_builtin; refine wpList_app rfl _ _ 31 rfl wB.heap.size 40 _ 5 40 Try.underlying31 infoCall rfl (by decide) caC A m c _ rfl (hON.alloc _) (freeC x) #[.int .i64 x.place, .int .i64 x.lasts, .int .i64 x.lead, .int .i64 1125899906842624, .int .i64 x.value] rfl rfl 40 (wr.heap.size + 1) rfl hNew (by simp [caC, freeC, maxM, Value.oneCell']) (by omega) (by omega) (by simp; omega) ?_; intro g' c' w8 hap; have HAP := Lib.hid hap; clear hap)
              have hap := HAP.out
              have hbN2 : Below wB.heap.size wB w8 := (hb2N.alloc (by simp; omega) _).trans hap.bel
              go_roundw
              case rel => exact ⟨m + 1, some ⟨g', 0, none⟩, c', by omega, by go_num, by go_num, by rw [htk.out]; exact hap.own, hbN2⟩
              case measure => simp [intOf]; omega
            · obtain rfl : kn = m := by omega
              obtain ⟨FC, hFC⟩ : ∃ FC, FC = cs.map freeC := ⟨_, rfl⟩
              rw [List.take_of_length_le (by rw [← HLK.out]; exact Nat.le_refl _), ← hFC] at hO
              have HFC := Lib.hid hFC
              have hCF : COK (sumL R.ps) FC := by rw [hFC]; exact free_cok HC.out
              have hFr : Free (sumL R.ps) FC := by rw [hFC]; exact free_of HC.out
              have HCF := Lib.hid hCF
              have HFr := Lib.hid hFr
              clear hFC hCF hFr
              have hF0 := Lib.hid (hO.sl caC_len)
              obtain ⟨wC, hwC⟩ : ∃ wC, wC = wr := ⟨_, rfl⟩
              rw [← hwC] at hbC hBC hF0 ⊢
              have hXC := hXB.below hbC hXB.lt
              have hYC := hYB.below hbC hYB.lt
              have hSC := hSB.below hbC hSB.lt
              clear hwC hXB hYB hSB hO hzC hlSr hbr hBr
              have x0 := hXC.cell 0
              have x1 := hXC.cell 1
              have x2 := hXC.cell 2
              have y0 := hYC.cell 0
              have y1 := hYC.cell 1
              have y2 := hYC.cell 2
              simp only [List.getElem?_toArray, List.getElem?_cons_zero, List.getElem?_cons_succ] at x0 x1 x2 y0 y1 y2
              go_wp2_with fail
              clear x0 x1 x2 y0 y1 y2
              have hsm : R.ps.length + R2.ps.length ≤ 2000 := by have := ps_le HV.out.pk; have := ps_le HV2.out.pk; omega
              refine (Safer_res pa pn pc ca cn cc ja jn jc R pa2 pn2 pc2 ca2 cn2 cc2 ja2 jn2 jc2 R2 wC (HR.out.grow hBC hBC.size) (HR2.out.grow hBC hBC.size) HV.out HV2.out HE.out hsm).mono ?_
              rintro e w4 ⟨⟨A1, n1, c1, A2, n2, c2, A3, n3, c3, rfl, hT4⟩, hk4⟩
              have hB4 := hBC.trans (hk4.mono hBC.size)
              have hX4 := hXC.below hk4 hXC.lt
              have hS4 := hSC.below hk4 hSC.lt
              have hF4 := Lib.hid (hF0.out.grow hk4 hk4.size)
              clear hXC hYC hSC hF0 hk4 hsm
              obtain ⟨er, her⟩ : ∃ er, er = (sres R R2).2 := ⟨_, rfl⟩
              obtain ⟨T, hT⟩ : ∃ T, T = (sres R R2).1 := ⟨_, rfl⟩
              rw [← her]
              rw [← hT] at hT4
              have HER := Lib.hid her
              have HTE := Lib.hid hT
              clear her hT
              obtain ⟨w5, hw5⟩ : ∃ w5, w5 = w4.alloc (.cells #[.slice A1 n1 c1, .slice A2 n2 c2, .slice A3 n3 c3] 26) := ⟨_, rfl⟩
              have hk5 : Below w4.heap.size w4 w5 := by rw [hw5]; exact (Below.refl w4.heap.size w4).alloc (Nat.le_refl _) _
              have hC5 : BK w5 w4.heap.size 26 #[.slice A1 n1 c1, .slice A2 n2 c2, .slice A3 n3 c3] := by rw [hw5]; exact BK.new w4 _ _
              have hX5 := hX4.below hk5 hX4.lt
              have hS5 := hS4.below hk5 hS4.lt
              have hF5 := Lib.hid (hF4.out.grow hk5 hk5.size)
              have hT5 := Lib.hid (hT4.grow hk5 hk5.size)
              have hB5 := hB4.trans (hk5.mono hB4.size)
              have hlX := hX4.lt
              have hlS := hS4.lt
              have x0 := hX4.cell 0
              have x1 := hX4.cell 1
              have x2 := hX4.cell 2
              have s0 := hS4.cell 0
              have s1 := hS4.cell 1
              have s2 := hS4.cell 2
              have s3 := hS4.cell 3
              simp only [List.getElem?_toArray, List.getElem?_cons_zero, List.getElem?_cons_succ] at x0 x1 x2 s0 s1 s2 s3
              clear hX4 hS4 hF4 hT4
              go_wp2_with fail
              rw [← hw5]
              clear hw5 x0 x1 x2 s0 s1 s2 s3 hlX hlS
              refine (Plan_any pa pn pc ca cn cc ja jn jc R ra rn rc sa sn sc S A kn c FC w5 (HR.out.grow hB5 hB5.size) (HD.out.grow hB5 hB5.size) hF5.out HV.out HS.out HCF.out).mono ?_
              rintro e w6 ⟨P1, m1, d1, rfl, hP6, hk6⟩
              obtain ⟨q1, hq1⟩ : ∃ q, q = planR (qS S R) (sS S R) FC := ⟨_, rfl⟩
              rw [← hq1] at hP6 ⊢
              have HQ1 := Lib.hid hq1
              clear hq1
              obtain ⟨L1, ⟨cf, cl, ce⟩, pe⟩ := q1
              dsimp only at hP6 ⊢
              have hB6 := hB5.trans (hk6.mono hB5.size)
              have hS6 := hS5.below hk6 hS5.lt
              have hC6 := hC5.below hk6 hC5.lt
              have hF6 := Lib.hid (hF5.out.grow hk6 hk6.size)
              have hT6 := Lib.hid (hT5.out.grow hk6 hk6.size)
              have HP6 := Lib.hid hP6
              clear hX5 hS5 hC5 hF5 hT5 hk6 hP6
              by_cases h1 : er = 0
              case neg =>
                have g1 : (er != 0) = true := by simpa using h1
                clear h1
                go_wp2_with fail
                have hB7 := hB6.alloc hB6.size (.cells #[.int .i64 cf, .int .i64 cl, .bool ce] 45)
                refine (known09_any _).mono ?_
                rintro e w9 ⟨rfl, hk9⟩
                go_wp2_with fail
                go_ret
                exact ⟨rfl, hB7.trans (hk9.mono hB7.size)⟩
              subst h1
              by_cases h2 : pe = 0
              case neg =>
                have g2 : (pe != 0) = true := by simpa using h2
                clear h2
                go_wp2_with fail
                have hB7 := hB6.alloc hB6.size (.cells #[.int .i64 cf, .int .i64 cl, .bool ce] 45)
                refine (known09_any _).mono ?_
                rintro e w9 ⟨rfl, hk9⟩
                go_wp2_with fail
                go_ret
                exact ⟨rfl, hB7.trans (hk9.mono hB7.size)⟩
              subst h2
              have hres : (sres R R2).2 = 0 := HER.out.symm
              obtain ⟨hvT, hsT⟩ := sres_ok HV.out HV2.out HE.out hres
              have hcalm := calm_of (S := S) (fun i hi => HRows.out i (by rw [HLR.out]; exact hi)) HSurf.out (by rw [← HLS.out]; exact HSN.out)
              have hps := plan_safe (S := S) (R := R) (T := T) HS.out (by rw [HTE.out]; exact hvT) (fun j k hj hjk hk => by rw [HTE.out]; exact sres_tQ HS.out hcalm HV.out HV2.out HE.out hres hjk hk) HFr.out (by rw [← HQ1.out])
              rw [← HTE.out] at hvT hsT
              rw [← HQ1.out] at hps
              dsimp only at hps
              obtain ⟨hk1, hk2, hk3, hk4, hk5⟩ := hps
              have HVT := Lib.hid hvT
              have HCT : Hid (COK (sumL T.ps) FC) := by show COK _ _; rw [hsT]; exact HCF.out
              have HTT : Hid (TOK (sumL T.ps) FC.length L1) := by show TOK _ _ _; rw [hsT]; exact hk1
              have HK2 := Lib.hid hk2
              have HK3 := Lib.hid hk3
              have HK4 := Lib.hid hk4
              have HK5 := Lib.hid hk5
              clear hres hvT hsT hcalm hk1 hk2 hk3 hk4 hk5
              obtain ⟨w7, hw7⟩ : ∃ w7, w7 = w6.alloc (.cells #[.int .i64 cf, .int .i64 cl, .bool ce] 45) := ⟨_, rfl⟩
              have hk7 : Below w6.heap.size w6 w7 := by rw [hw7]; exact (Below.refl w6.heap.size w6).alloc (Nat.le_refl _) _
              have hB7 := hB6.trans (hk7.mono hB6.size)
              have HF7 := Lib.hid (hF6.out.grow hk7 hk7.size)
              have HT7 := Lib.hid (hT6.out.grow hk7 hk7.size)
              have HP7 := Lib.hid (HP6.out.grow hk7 hk7.size)
              have hC7 := hC6.below hk7 hC6.lt
              have hS7 := hS6.below hk7 hS6.lt
              have c0 := hC6.cell 0
              have c1' := hC6.cell 1
              have c2' := hC6.cell 2
              have s0 := hS6.cell 0
              have s1 := hS6.cell 1
              have s2 := hS6.cell 2
              have s3 := hS6.cell 3
              simp only [List.getElem?_toArray, List.getElem?_cons_zero, List.getElem?_cons_succ] at c0 c1' c2' s0 s1 s2 s3
              have hlC := hC6.lt
              have hlS := hS6.lt
              go_wp2_with fail
              rw [← hw7]
              clear hw7 c0 c1' c2' s0 s1 s2 s3 hlC hlS hC6 hS6 hF6 hT6 HP6
              refine (Good_any A1 n1 c1 A2 n2 c2 A3 n3 c3 T ra rn rc sa sn sc S A kn c FC P1 m1 d1 L1 w7 HT7.out (HD.out.grow hB7 hB7.size) HF7.out HP7.out HVT.out HS.out HCT.out HTT.out).mono ?_
              rintro e w8 ⟨rfl, hk8⟩
              rw [HK2.out]
              have hB8 := hB7.trans (hk8.mono hB7.size)
              have HF8 := Lib.hid (HF7.out.grow hk8 hk8.size)
              have HT8 := Lib.hid (HT7.out.grow hk8 hk8.size)
              have HP8 := Lib.hid (HP7.out.grow hk8 hk8.size)
              have hC8 := hC7.below hk8 hC7.lt
              have hS8 := hS7.below hk8 hS7.lt
              have c0 := hC8.cell 0
              have c1' := hC8.cell 1
              have c2' := hC8.cell 2
              have s0 := hS8.cell 0
              have s1 := hS8.cell 1
              have s2 := hS8.cell 2
              have s3 := hS8.cell 3
              simp only [List.getElem?_toArray, List.getElem?_cons_zero, List.getElem?_cons_succ] at c0 c1' c2' s0 s1 s2 s3
              clear hC7 hS7 HF7 HT7 HP7 hC8 hS8
              go_wp2_with fail
              clear c0 c1' c2' s0 s1 s2 s3
              refine (Plan_any A1 n1 c1 A2 n2 c2 A3 n3 c3 T ra rn rc sa sn sc S A kn c FC w8 HT8.out (HD.out.grow hB8 hB8.size) HF8.out HVT.out HS.out HCT.out).mono ?_
              rintro e w9 ⟨P2, m2, d2, rfl, hP9, hk9⟩
              have hB9 := hB8.trans (hk9.mono hB8.size)
              have HP9 := Lib.hid (HP8.out.grow hk9 hk9.size)
              obtain ⟨q2, hq2⟩ : ∃ q, q = planR (qS S T) (sS S T) FC := ⟨_, rfl⟩
              have hh3 := HK3.out
              have hh4 := HK4.out
              have hh5 := HK5.out
              rw [← hq2] at hP9 hh3 hh4 hh5 ⊢
              clear hq2 HK3 HK4 HK5
              obtain ⟨L2, ⟨cf2, cl2, ce2⟩, pe2⟩ := q2
              dsimp only at hP9 hh3 hh4 hh5 ⊢
              subst hh3
              obtain rfl : m1 = m2 := by rw [HP9.out.1, hP9.1, hh4]
              have HP92 := Lib.hid hP9
              have HL12 := Lib.hid hh4
              have HH5 := Lib.hid hh5
              clear hP9 hh4 hh5
              have hB10 := hB9.alloc hB9.size (.cells #[.int .i64 cf2, .int .i64 cl2, .bool ce2] 45)
              have hk10 := (Below.refl w9.heap.size w9).alloc (Nat.le_refl _) (.cells #[.int .i64 cf2, .int .i64 cl2, .bool ce2] 45)
              have HP10 := Lib.hid (HP9.out.grow hk10 hk10.size)
              have HP102 := Lib.hid (HP92.out.grow hk10 hk10.size)
              have HLL := Lib.hid HP9.out.1
              have hm1 : m1 ≤ 300 := by rw [HP9.out.1, HTT.out.l]; exact HCT.out.l1
              go_wp2_with fail
              obtain ⟨w10, hw10⟩ : ∃ w10, w10 = w9.alloc (.cells #[.int .i64 cf2, .int .i64 cl2, .bool ce2] 45) := ⟨_, rfl⟩
              rw [← hw10] at hB10 HP10 HP102 ⊢
              clear hw10 hk10
              go_loopw [24] (fun i wr => ∃ k : Nat, k ≤ m1 ∧ i = .int .i64 k ∧ Below w10.heap.size w10 wr)
                (fun i _ => m1 - (intOf i).toNat)
              case atStart => exact ⟨0, Nat.zero_le _, rfl, Below.refl _ _⟩
              case round =>
                obtain ⟨z, hz, rfl, hbz⟩ := hrel
                have hBz := hB10.trans (hbz.mono hB10.size)
                by_cases hlt : z < m1
                · have hz1 : z < L1.length := by rw [← HLL.out]; exact hlt
                  have hz2 : z < L2.length := by rw [HL12.out]; exact hz1
                  obtain ⟨b, off, hA, hbB, e0⟩ := IS.at_ (HP10.out.grow hbz hbz.size) (k := z) hz1
                  obtain ⟨b2, off2, hA2, hbB2, f0⟩ := IS.at_ (HP102.out.grow hbz hbz.size) (k := z) hz2
                  have hxy := HH5.out z _ _ (List.getElem?_eq_getElem hz1) (List.getElem?_eq_getElem hz2)
                  generalize L1[z]'hz1 = x at e0 hxy
                  generalize L2[z]'hz2 = y at f0 hxy
                  have g1 : decide (y < x) = false := by simp; omega
                  have hi1 : (0 : Int) ≤ (z : Int) := by omega
                  have hi2 : (z : Int) < (m1 : Int) := by omega
                  clear hz1 hz2 hxy
                  subst hA
                  subst hA2
                  go_wp2_with fail
                  go_quiet (fail)
                  go_wp2_with fail
                  go_roundw
                  case rel => exact ⟨z + 1, by omega, by go_num, below_drewN hbz _⟩
                  case measure => simp [intOf]; omega
                · obtain rfl : m1 = z := by omega
                  go_wp2_with fail
                  refine (known09_any _).mono ?_
                  rintro e w12 ⟨rfl, hk12⟩
                  go_wp2_with fail
                  go_ret
                  exact ⟨rfl, hBz.trans (hk12.mono hBz.size)⟩
end Go.Proofs.Ytpiiaffkobddlaa
