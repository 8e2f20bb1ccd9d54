/- pace.Between: the least and the most time between two places, or the error. -/
import Derived.Test.YtpiiaffkobddlaaZBeg
import Derived.Test.YtpiiaffkobddlaaZFuel
import Derived.Test.YtpiiaffkobddlaaZSpdS
namespace Go.Proofs.Ytpiiaffkobddlaa
open Go.RowKit Go.Shelf Go.Sort Go.Proofs

/-- The two times and the error. -/
def btw (S : Spd) (R : Road) (f t : Int) : Int × Int × Int :=
  if inR f 0 (sumL R.ps) = true ∧ inR t 0 (sumL R.ps) = true ∧ f ≤ t then (tQ S R.ps t.toNat - tQ S R.ps f.toNat, tSl S R.ps t.toNat - tSl S R.ps f.toNat, 0) else (0, 0, 2)
set_option maxRecDepth 100000 in
set_option maxHeartbeats 4000000 in
theorem Between_any (f t : Int) (pa : Option Addr) (pn pc : Nat) (ca : Option Addr) (cn cc : Nat) (ja : Option Addr) (jn jc : Nat) (R : Road) (ra : Option Addr) (rn rc : Nat) (sa : Option Addr) (sn sc : Nat) (S : Spd) (w : World)
    (h : RD w w.heap.size pa pn ca cn ja jn R) (hD : SD w w.heap.size ra rn sa sn S) (hv : OK R) (hS : SOK S) :
    Calls Try.prog 14 #[.agg #[.slice pa pn pc, .slice ca cn cc, .slice ja jn jc], .agg #[.int .i64 S.least, .int .i64 S.most, .slice ra rn rc, .slice sa sn sc], .int .i64 f, .int .i64 t] w fun e w' =>
      e = .returned (.tuple #[.int .i64 (btw S R f t).1, .int .i64 (btw S R f t).2.1, .int .i64 (btw S R f t).2.2]) ∧ Below w.heap.size w w' := by
  have HR := Lib.hid h
  have HD := Lib.hid hD
  have HV := Lib.hid hv
  have HS := Lib.hid hS
  clear h hD hv hS
  obtain ⟨w0, hw0⟩ : ∃ w0, w0 = (w.alloc (.cells #[.slice pa pn pc, .slice ca cn cc, .slice ja jn jc] 26)).alloc (.cells #[.int .i64 S.least, .int .i64 S.most, .slice ra rn rc, .slice sa sn sc] 30) := ⟨_, rfl⟩
  have hB0 : Below w.heap.size w w0 := by rw [hw0]; exact ((Below.refl w.heap.size w).alloc (Nat.le_refl _) _).alloc (by simp) _
  have hX0 : BK w0 w.heap.size 26 #[.slice pa pn pc, .slice ca cn cc, .slice ja jn jc] := by rw [hw0]; exact (BK.new w _ _).alloc _
  have hY0 : BK w0 (w.heap.size + 1) 30 #[.int .i64 S.least, .int .i64 S.most, .slice ra rn rc, .slice sa sn sc] := by
    rw [hw0]; have := BK.new (w.alloc (.cells #[.slice pa pn pc, .slice ca cn cc, .slice ja jn jc] 26)) 30 #[.int .i64 S.least, .int .i64 S.most, .slice ra rn rc, .slice sa sn sc]; rw [World.size_alloc] at this; exact this
  go_enter Try.func14, Try.ntmps14
  go_wp2_with fail
  rw [← hw0]
  clear hw0
  have x0 := hX0.cell 0
  have x1 := hX0.cell 1
  have x2 := hX0.cell 2
  have y0 := hY0.cell 0
  have y1 := hY0.cell 1
  have y2 := hY0.cell 2
  have y3 := hY0.cell 3
  simp only [List.getElem?_toArray, List.getElem?_cons_zero, List.getElem?_cons_succ] at x0 x1 x2 y0 y1 y2 y3
  go_wp2_with fail
  clear x0 x1 x2 y0 y1 y2 y3
  refine (begin_any pa pn pc ca cn cc ja jn jc R ra rn rc sa sn sc S w0 (HR.out.grow hB0 hB0.size) (HD.out.grow hB0 hB0.size) HV.out HS.out).mono ?_
  rintro e w1 ⟨g, ta, tc, N, rfl, hTS, hk0⟩
  have hB1 := hB0.trans (hk0.mono hB0.size)
  have HTS := Lib.hid hTS
  have hN1 : N ≤ 100000 := by have := hTS.n; have := HV.out.n1; omega
  have HNN := Lib.hid hTS.n
  clear hX0 hY0 hk0 hB0 hTS
  go_wp2_with fail
  refine (place_any f g ta tc N S R w1 HTS.out (by omega)).mono ?_
  rintro e w2 ⟨rfl, rfl⟩
  cases h1 : inR f 0 (N : Int)
  case false =>
    have hno : Hid (btw S R f t = (0, 0, 2)) := by show _ = _; unfold btw; rw [if_neg (fun q => by rw [HNN.out, h1] at q; cases q.1)]
    clear h1
    go_wp2_with fail
    refine bodyPost_ret (v := .tuple #[.int .i64 0, .int .i64 0, .int .i64 2]) (by simp [results, Try.results14, go_sem]) rfl ⟨by rw [hno.out], hB1⟩
  have H1 := Lib.hid h1
  clear h1
  go_wp2_with fail
  refine (place_any t g ta tc N S R w1 HTS.out (by omega)).mono ?_
  rintro e w2 ⟨rfl, rfl⟩
  cases h2 : inR t 0 (N : Int)
  case false =>
    have hno : Hid (btw S R f t = (0, 0, 2)) := by show _ = _; unfold btw; rw [if_neg (fun q => by rw [HNN.out, h2] at q; cases q.2.1)]
    clear h2
    go_wp2_with fail
    refine bodyPost_ret (v := .tuple #[.int .i64 0, .int .i64 0, .int .i64 2]) (by simp [results, Try.results14, go_sem]) rfl ⟨by rw [hno.out], hB1⟩
  have H2 := Lib.hid h2
  clear h2
  by_cases h3 : f ≤ t
  case neg =>
    have hno : Hid (btw S R f t = (0, 0, 2)) := by show _ = _; unfold btw; rw [if_neg (fun q => h3 q.2.2)]
    have hg : decide (t < f) = true := by simp; omega
    clear h3
    go_wp2_with fail
    refine bodyPost_ret (v := .tuple #[.int .i64 0, .int .i64 0, .int .i64 2]) (by simp [results, Try.results14, go_sem]) rfl ⟨by rw [hno.out], hB1⟩
  have hyes : btw S R f t = (tQ S R.ps t.toNat - tQ S R.ps f.toNat, tSl S R.ps t.toNat - tSl S R.ps f.toNat, 0) := by unfold btw; rw [if_pos ⟨by rw [HNN.out]; exact H1.out, by rw [HNN.out]; exact H2.out, h3⟩]
  have HY := Lib.hid hyes
  have hr1 : 0 ≤ f ∧ f ≤ N := by have := H1.out; simpa [inR] using this
  have hr2 : 0 ≤ t ∧ t ≤ N := by have := H2.out; simpa [inR] using this
  obtain ⟨q, rfl⟩ : ∃ q : Nat, f = (q : Int) := ⟨f.toNat, by omega⟩
  obtain ⟨z, rfl⟩ : ∃ z : Nat, t = (z : Int) := ⟨t.toNat, by omega⟩
  rw [Int.toNat_natCast, Int.toNat_natCast] at hyes
  have HY := Lib.hid hyes
  have hq : q ≤ N := by omega
  have hz : z ≤ N := by omega
  have hg : decide (z < q) = false := by simp; omega
  clear hyes h3 hr1 hr2
  go_wp2_with fail
  refine (between0_any q z g ta tc N S R w1 HTS.out HS.out HV.out hq hz).mono ?_
  rintro e w2 ⟨rfl, hm2⟩
  have hb2 : Below w1.heap.size w1 w2 := by obtain ⟨m, rfl⟩ := hm2; exact below_drewN (Below.refl _ _) _
  clear hm2
  go_wp2_with fail
  refine (between1_any q z g ta tc N S R w2 (HTS.out.grow hb2 hb2.size) HS.out HV.out hq hz).mono ?_
  rintro e w3 ⟨rfl, hm3⟩
  have hb3 : Below w2.heap.size w2 w3 := by obtain ⟨m, rfl⟩ := hm3; exact below_drewN (Below.refl _ _) _
  clear hm3
  have hB3 := hB1.trans ((hb2.trans (hb3.mono hb2.size)).mono hB1.size)
  go_wp2_with fail
  refine bodyPost_ret (v := .tuple #[.int .i64 (tQ S R.ps z - tQ S R.ps q), .int .i64 (tSl S R.ps z - tSl S R.ps q), .int .i64 0]) (by simp [results, Try.results14, go_sem]) rfl ⟨by rw [HY.out], hB3⟩
end Go.Proofs.Ytpiiaffkobddlaa

/- hairpintop.known09: the document's examples. -/
namespace Go.Proofs.Ytpiiaffkobddlaa
open Go.RowKit Go.Shelf Go.Sort Go.Proofs

theorem SL.of_blk {α : Type} {f : α → List Value} {sz : Nat} {w : World} {B g : Nat} {t : TypeId} {cs : Array Value} {xs : List α} (hb : BK w g t cs) (hcs : cs.toList = xs.flatMap f) (hf : ∀ x, (f x).length = sz) (hg : g < B) :
    SL f sz w B (some ⟨g, 0, none⟩) xs.length xs := by
  refine ⟨rfl, fun _ => ⟨g, 0, rfl, hg, fun i x hx j v hv => ?_⟩⟩
  rw [hb.cell, ← Array.getElem?_toList, hcs, Nat.zero_add]
  exact flat_at hf xs i x hx j v hv
def kR : Road := ⟨[⟨1000, 0, 0, 50, 1⟩], [], []⟩
def kS : Spd := ⟨100, 200, [⟨5, 50, 100⟩], [100, 100, 100, 100, 100, 100, 100, 100, 100]⟩
theorem kR_ok : OK kR := (val_iff _).1 (by decide)
theorem kS_ok : SOK kS := (spB_iff _).1 (by decide)
theorem kR_len : sumL kR.ps = 1000 := by decide
theorem tQ_one (S : Spd) (p : Piece) (h : 0 ≤ p.len) : tQ S [p] p.len.toNat = p.len * mQ S p ∧ tSl S [p] p.len.toNat = p.len * mSl S p := by
  unfold tQ tSl
  rw [units_one, List.take_of_length_le (by simp), List.map_replicate, List.map_replicate]
  have key : ∀ (n : Nat) (a : Int), (List.replicate n a).sum = n * a := by
    intro n a
    induction n with
    | zero => simp
    | succ n ih => rw [List.replicate_succ, List.sum_cons, ih, Int.natCast_add, Int.add_mul]; simp; omega
  rw [key, key, mQ_one, mSl_one, Int.toNat_of_nonneg h]
  exact ⟨rfl, rfl⟩
theorem kBtw : btw kS kR 0 1000 = (50000000, 100000000, 0) := by
  have h := tQ_one kS ⟨1000, 0, 0, 50, 1⟩ (by decide)
  have h1 : tQ kS kR.ps 1000 = 50000000 := h.1.trans (by decide)
  have h2 : tSl kS kR.ps 1000 = 100000000 := h.2.trans (by decide)
  unfold btw
  rw [if_pos (by decide)]
  show (tQ kS kR.ps 1000 - tQ kS kR.ps 0, tSl kS kR.ps 1000 - tSl kS kR.ps 0, (0 : Int)) = _
  rw [h1, h2, tQ_zero, tSl_zero]
  rfl
set_option maxRecDepth 100000 in
set_option maxHeartbeats 4000000 in
theorem known09_any (w : World) : Calls Try.prog 8 #[] w fun e w' => e = .returned (.bool true) ∧ Below w.heap.size w w' := by
  go_enter Try.func8, Try.ntmps8
  go_wp2_with fail
  obtain ⟨W5, hW5⟩ : ∃ W5, W5 = (((((w.alloc (.cells #[.int .i64 1000, .int .i64 0, .int .i64 0, .int .i64 50, .int .i64 1] 53)).alloc (.cells #[.slice (some ⟨w.heap.size, 0, none⟩) 1 1, .slice none 0 0, .slice none 0 0] 26)).alloc (.cells #[.int .i64 5, .int .i64 50, .int .i64 100] 38)).alloc (.cells #[.int .i64 100, .int .i64 100, .int .i64 100, .int .i64 100, .int .i64 100, .int .i64 100, .int .i64 100, .int .i64 100, .int .i64 100] 3)).alloc (.cells #[.int .i64 100, .int .i64 200, .slice (some ⟨w.heap.size + 1 + 1, 0, none⟩) 1 1, .slice (some ⟨w.heap.size + 1 + 1 + 1, 0, none⟩) 9 9] 30)) := ⟨_, rfl⟩
  have b0 : BK W5 (w.heap.size) 53 #[.int .i64 1000, .int .i64 0, .int .i64 0, .int .i64 50, .int .i64 1] := by rw [hW5]; have := BK.new w 53 #[.int .i64 1000, .int .i64 0, .int .i64 0, .int .i64 50, .int .i64 1]; exact ((((this.alloc _).alloc _).alloc _).alloc _)
  have b1 : BK W5 (w.heap.size + 1) 26 #[.slice (some ⟨w.heap.size, 0, none⟩) 1 1, .slice none 0 0, .slice none 0 0] := by rw [hW5]; have := BK.new (w.alloc (.cells #[.int .i64 1000, .int .i64 0, .int .i64 0, .int .i64 50, .int .i64 1] 53)) 26 #[.slice (some ⟨w.heap.size, 0, none⟩) 1 1, .slice none 0 0, .slice none 0 0]; rw [World.size_alloc] at this; exact (((this.alloc _).alloc _).alloc _)
  have b2 : BK W5 (w.heap.size + 2) 38 #[.int .i64 5, .int .i64 50, .int .i64 100] := by rw [hW5]; have := BK.new ((w.alloc (.cells #[.int .i64 1000, .int .i64 0, .int .i64 0, .int .i64 50, .int .i64 1] 53)).alloc (.cells #[.slice (some ⟨w.heap.size, 0, none⟩) 1 1, .slice none 0 0, .slice none 0 0] 26)) 38 #[.int .i64 5, .int .i64 50, .int .i64 100]; rw [World.size_alloc, World.size_alloc] at this; exact ((this.alloc _).alloc _)
  have b3 : BK W5 (w.heap.size + 3) 3 #[.int .i64 100, .int .i64 100, .int .i64 100, .int .i64 100, .int .i64 100, .int .i64 100, .int .i64 100, .int .i64 100, .int .i64 100] := by rw [hW5]; have := BK.new (((w.alloc (.cells #[.int .i64 1000, .int .i64 0, .int .i64 0, .int .i64 50, .int .i64 1] 53)).alloc (.cells #[.slice (some ⟨w.heap.size, 0, none⟩) 1 1, .slice none 0 0, .slice none 0 0] 26)).alloc (.cells #[.int .i64 5, .int .i64 50, .int .i64 100] 38)) 3 #[.int .i64 100, .int .i64 100, .int .i64 100, .int .i64 100, .int .i64 100, .int .i64 100, .int .i64 100, .int .i64 100, .int .i64 100]; rw [World.size_alloc, World.size_alloc, World.size_alloc] at this; exact (this.alloc _)
  have b4 : BK W5 (w.heap.size + 4) 30 #[.int .i64 100, .int .i64 200, .slice (some ⟨w.heap.size + 1 + 1, 0, none⟩) 1 1, .slice (some ⟨w.heap.size + 1 + 1 + 1, 0, none⟩) 9 9] := by rw [hW5]; have := BK.new ((((w.alloc (.cells #[.int .i64 1000, .int .i64 0, .int .i64 0, .int .i64 50, .int .i64 1] 53)).alloc (.cells #[.slice (some ⟨w.heap.size, 0, none⟩) 1 1, .slice none 0 0, .slice none 0 0] 26)).alloc (.cells #[.int .i64 5, .int .i64 50, .int .i64 100] 38)).alloc (.cells #[.int .i64 100, .int .i64 100, .int .i64 100, .int .i64 100, .int .i64 100, .int .i64 100, .int .i64 100, .int .i64 100, .int .i64 100] 3)) 30 #[.int .i64 100, .int .i64 200, .slice (some ⟨w.heap.size + 1 + 1, 0, none⟩) 1 1, .slice (some ⟨w.heap.size + 1 + 1 + 1, 0, none⟩) 9 9]; rw [World.size_alloc, World.size_alloc, World.size_alloc, World.size_alloc] at this; exact this
  have hB5 : Below w.heap.size w W5 := by rw [hW5]; exact (((((Below.refl w.heap.size w).alloc (Nat.le_refl _) _).alloc (by simp) _).alloc (by simp; omega) _).alloc (by simp; omega) _).alloc (by simp; omega) _
  rw [← hW5]
  clear hW5
  have hz5 := b4.lt
  have hR5 : RD W5 W5.heap.size (some ⟨w.heap.size, 0, none⟩) 1 none 0 none 0 kR := ⟨SL.of_blk (xs := kR.ps) b0 rfl pC_len (by omega), SL.nil_, SL.nil_⟩
  have hS5 : SD W5 W5.heap.size (some ⟨w.heap.size + 1 + 1, 0, none⟩) 1 (some ⟨w.heap.size + 1 + 1 + 1, 0, none⟩) 9 kS := ⟨SL.of_blk (xs := kS.rows) b2 rfl spC_len (by omega), SL.of_blk (xs := kS.surf) b3 rfl iC_len (by omega)⟩
  have HR5 := Lib.hid hR5
  clear hR5
  refine (Between_any 0 1000 _ 1 1 _ 0 0 _ 0 0 kR _ 1 1 _ 9 9 kS W5 HR5.out hS5 kR_ok kS_ok).mono ?_
  rintro e W6 ⟨rfl, hk0⟩
  rw [kBtw]
  have hB6 := hB5.trans (hk0.mono hB5.size)
  have r6 := b1.below hk0 b1.lt
  have HR6 := Lib.hid (HR5.out.grow hk0 hk0.size)
  clear b0 b1 b2 b3 b4 hS5 HR5 hk0 hB5
  go_wp2_with fail
  obtain ⟨W7, hW7⟩ : ∃ W7, W7 = W6.alloc (.cells legs 59) := ⟨_, rfl⟩
  have hk0 : Below W6.heap.size W6 W7 := by rw [hW7]; exact (Below.refl W6.heap.size W6).alloc (Nat.le_refl _) _
  have l7 : BK W7 W6.heap.size 59 legs := by rw [hW7]; exact BK.new W6 _ _
  have hW7' : W7 = W6.alloc (.cells #[.int .i64 10, .int .i64 20, .int .i64 30, .int .i64 10, .int .i64 25, .int .i64 30] 59) := hW7
  rw [← hW7']
  clear hW7 hW7'
  refine (Fuel_known W6.heap.size 2 W7 l7).mono ?_
  rintro e W8 ⟨A, c', rfl, a8, hk1⟩
  have hk2 := hk0.trans (hk1.mono hk0.size)
  have hB8 := hB6.trans (hk2.mono hB6.size)
  have r8 := r6.below hk2 r6.lt
  have HR8 := Lib.hid (HR6.out.grow hk2 hk2.size)
  have x0 := r8.cell 0
  have x1 := r8.cell 1
  have x2 := r8.cell 2
  simp only [List.getElem?_toArray, List.getElem?_cons_zero, List.getElem?_cons_succ] at x0 x1 x2
  clear r6 HR6 hk0 hk1 hk2 l7 hB6
  go_wp2_with fail
  clear x0 x1 x2
  refine (Length_in _ 1 1 _ 0 0 _ 0 0 kR W8 HR8.out kR_ok).mono ?_
  rintro e W9 ⟨rfl, hk0⟩
  rw [kR_len]
  have hB9 := hB8.trans (hk0.mono hB8.size)
  have a9 := a8.below hk0 a8.lt
  go_wp2_with fail
  obtain ⟨W10, hW10⟩ : ∃ W10, W10 = W9.alloc (.cells #[.int .i64 15, .int .i64 25] 3) := ⟨_, rfl⟩
  have hk1 : Below W9.heap.size W9 W10 := by rw [hW10]; exact (Below.refl W9.heap.size W9).alloc (Nat.le_refl _) _
  have n10 : BK W10 W9.heap.size 3 #[.int .i64 15, .int .i64 25] := by rw [hW10]; exact BK.new W9 _ _
  rw [← hW10]
  clear hW10
  have a10 := a9.below hk1 a9.lt
  have hB10 := hB9.trans (hk1.mono hB9.size)
  refine (R4Same_true _ 2 c' _ 2 [15, 25] W10 (SL.of_blk (xs := [15, 25]) a10 rfl iC_len a10.lt) (SL.of_blk (xs := [15, 25]) n10 rfl iC_len n10.lt) (by omega)).mono ?_
  rintro e W11 ⟨rfl, hk2⟩
  have hB11 := hB10.trans (hk2.mono hB10.size)
  go_wp2_with fail
  go_ret
  exact ⟨rfl, hB11⟩
end Go.Proofs.Ytpiiaffkobddlaa
