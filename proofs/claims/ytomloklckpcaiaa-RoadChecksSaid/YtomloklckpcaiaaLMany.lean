/- The law function RoadMany, walked: it returns true. -/
import Derived.Test.YtomloklckpcaiaaKnown
import Derived.Test.YtomloklckpcaiaaJoin
namespace Go.Proofs.Ytomloklckpcaiaa
open Go.RowKit Go.Shelf Go.Sort Go.Proofs

set_option maxRecDepth 100000 in
theorem none_any (A1 : Option Addr) (n1 c1 : Nat) (A2 : Option Addr) (n2 c2 : Nat) (A3 : Option Addr) (n3 c3 : Nat) (w : World) (h1 : n1 ≤ 1000000) (h2 : n2 ≤ 1000000) (h3 : n3 ≤ 1000000) :
    Calls Try.prog 41 #[.agg #[.slice A1 n1 c1, .slice A2 n2 c2, .slice A3 n3 c3]] w fun e w' => e = .returned (.bool ((n1 : Int) + n2 + n3 == 0)) ∧ Below w.heap.size w w' := by
  have hw1 : IntKind.i64.wrap ((n1 : Int) + (n2 : Int)) = (n1 : Int) + (n2 : Int) := IntWalk.i64_in _ (by omega)
  have hw2 : IntKind.i64.wrap ((n1 : Int) + (n2 : Int) + (n3 : Int)) = (n1 : Int) + (n2 : Int) + (n3 : Int) := IntWalk.i64_in _ (by omega)
  have hb : Below w.heap.size w (w.alloc (.cells #[.slice A1 n1 c1, .slice A2 n2 c2, .slice A3 n3 c3] 26)) := (Below.refl _ _).alloc (Nat.le_refl _) _
  go_enter Try.func41, Try.ntmps41
  go_wp2_with fail
  go_ret
  exact ⟨by simp, hb⟩

/-- k pieces of the same length. -/
def mkM (l wd : Int) (k : Nat) : List Piece := (List.range k).map fun i => ⟨l, 0, 0, wd + ((i % 2 : Nat) : Int), 1⟩
theorem mkM_succ (l wd : Int) (k : Nat) : mkM l wd (k + 1) = mkM l wd k ++ [⟨l, 0, 0, wd + ((k % 2 : Nat) : Int), 1⟩] := by simp [mkM, List.range_succ]
theorem mkM_len (l wd : Int) (k : Nat) : (mkM l wd k).length = k := by simp [mkM]
theorem mkM_sum (l wd : Int) : ∀ k : Nat, sumL (mkM l wd k) = k * l
  | 0 => by simp [mkM, sumL]
  | k + 1 => by rw [mkM_succ, sumL_snoc, mkM_sum l wd k, Int.natCast_succ, Int.add_mul, Int.one_mul]
theorem mkM_ok {l wd : Int} (h1 : 1 ≤ l) (h2 : l ≤ 5000) (h3 : 15 ≤ wd) (h4 : wd ≤ 290) {k : Nat} : ∀ p ∈ mkM l wd k, pOk p = true := by
  intro p hp
  obtain ⟨i, _, rfl⟩ := List.mem_map.1 hp
  have := Nat.mod_lt i (show 0 < 2 by omega)
  simp only [pOk, inR, Bool.and_eq_true, decide_eq_true_eq, if_pos]
  exact ⟨⟨h1, h2⟩, ⟨by omega, by omega⟩, ⟨by omega, by omega⟩, ⟨by omega, by omega⟩, trivial⟩
theorem mkM_road {l wd : Int} (h1 : 1 ≤ l) (h2 : l ≤ 5000) (h3 : 15 ≤ wd) (h4 : wd ≤ 290) {k : Nat} (hk1 : 1 ≤ k) (hk2 : k ≤ 2000) (hs : (k : Int) * l ≤ 100000) : OK ⟨mkM l wd k, [], []⟩ := by
  refine ⟨by simp only [mkM_len]; exact hk1, by simp only [mkM_len]; exact hk2, Nat.zero_le _, Nat.zero_le _, mkM_ok h1 h2 h3 h4, by simp only [mkM_sum]; exact hs, fun i hi => absurd hi (by simp), fun i hi => absurd hi (by simp)⟩

set_option maxRecDepth 100000 in
set_option maxHeartbeats 8000000 in
theorem RoadMany_walk (a b l : Int) (w : World) :
    Calls Try.prog 12 #[.int .i64 a, .int .i64 b, .int .i64 l] w fun e w' => e = .returned (.bool true) ∧ Below w.heap.size w w' := by
  by_cases h0 : a < 1
  case pos =>
    have e0 : decide (a < 1) = true := by simpa using h0
    go_enter Try.func12, Try.ntmps12
    go_wp2_with fail
    refine (known_any w).mono ?_
    rintro e W1 ⟨rfl, hk0⟩
    go_wp2_with fail
    go_ret
    exact ⟨rfl, hk0⟩
  have e0 : decide (a < 1) = false := by simpa using h0
  by_cases h1 : b < 1
  case pos =>
    have e1 : decide (b < 1) = true := by simpa using h1
    go_enter Try.func12, Try.ntmps12
    go_wp2_with fail
    refine (known_any w).mono ?_
    rintro e W1 ⟨rfl, hk0⟩
    go_wp2_with fail
    go_ret
    exact ⟨rfl, hk0⟩
  have e1 : decide (b < 1) = false := by simpa using h1
  by_cases h2 : 2000 < a
  case pos =>
    have e2 : decide (2000 < a) = true := by simpa using h2
    go_enter Try.func12, Try.ntmps12
    go_wp2_with fail
    refine (known_any w).mono ?_
    rintro e W1 ⟨rfl, hk0⟩
    go_wp2_with fail
    go_ret
    exact ⟨rfl, hk0⟩
  have e2 : decide (2000 < a) = false := by simpa using h2
  by_cases h3 : 2000 < b
  case pos =>
    have e3 : decide (2000 < b) = true := by simpa using h3
    go_enter Try.func12, Try.ntmps12
    go_wp2_with fail
    refine (known_any w).mono ?_
    rintro e W1 ⟨rfl, hk0⟩
    go_wp2_with fail
    go_ret
    exact ⟨rfl, hk0⟩
  have e3 : decide (2000 < b) = false := by simpa using h3
  by_cases h4 : l < 1
  case pos =>
    have e4 : decide (l < 1) = true := by simpa using h4
    go_enter Try.func12, Try.ntmps12
    go_wp2_with fail
    refine (known_any w).mono ?_
    rintro e W1 ⟨rfl, hk0⟩
    go_wp2_with fail
    go_ret
    exact ⟨rfl, hk0⟩
  have e4 : decide (l < 1) = false := by simpa using h4
  by_cases h5 : 5000 < l
  case pos =>
    have e5 : decide (5000 < l) = true := by simpa using h5
    go_enter Try.func12, Try.ntmps12
    go_wp2_with fail
    refine (known_any w).mono ?_
    rintro e W1 ⟨rfl, hk0⟩
    go_wp2_with fail
    go_ret
    exact ⟨rfl, hk0⟩
  have e5 : decide (5000 < l) = false := by simpa using h5
  have bnd : ∀ x : Int, 1 ≤ x → x ≤ 4000 → 0 ≤ x * l ∧ x * l ≤ 20000000 := fun x hx1 hx2 =>
    ⟨Int.mul_nonneg (by omega) (by omega), by
      have q1 : x * l ≤ 4000 * l := Int.mul_le_mul_of_nonneg_right hx2 (by omega)
      omega⟩
  have ba := bnd a (by omega) (by omega)
  have bb := bnd b (by omega) (by omega)
  have bab := bnd (a + b) (by omega) (by omega)
  have hwa : IntKind.i64.wrap (a * l) = a * l := IntWalk.i64_in _ (by omega)
  have hwb : IntKind.i64.wrap (b * l) = b * l := IntWalk.i64_in _ (by omega)
  by_cases h6 : 100000 < a * l
  case pos =>
    have e6 : decide (100000 < a * l) = true := by simpa using h6
    clear bnd ba bb bab
    go_enter Try.func12, Try.ntmps12
    go_wp2_with fail
    refine (known_any w).mono ?_
    rintro e W1 ⟨rfl, hk0⟩
    go_wp2_with fail
    go_ret
    exact ⟨rfl, hk0⟩
  have e6 : decide (100000 < a * l) = false := by simpa using h6
  by_cases h7 : 100000 < b * l
  case pos =>
    have e7 : decide (100000 < b * l) = true := by simpa using h7
    clear bnd ba bb bab
    go_enter Try.func12, Try.ntmps12
    go_wp2_with fail
    refine (known_any w).mono ?_
    rintro e W1 ⟨rfl, hk0⟩
    go_wp2_with fail
    go_ret
    exact ⟨rfl, hk0⟩
  have e7 : decide (100000 < b * l) = false := by simpa using h7
  obtain ⟨na, rfl⟩ : ∃ na : Nat, a = na := ⟨a.toNat, by omega⟩
  obtain ⟨nb, rfl⟩ : ∃ nb : Nat, b = nb := ⟨b.toNat, by omega⟩
  have hna1 : 1 ≤ na := by omega
  have hna2 : na ≤ 2000 := by omega
  have hnb1 : 1 ≤ nb := by omega
  have hnb2 : nb ≤ 2000 := by omega
  have hl1 : 1 ≤ l := by omega
  have hl2 : l ≤ 5000 := by omega
  have hoA := Lib.hid (mkM_road (wd := 20) hl1 hl2 (by omega) (by omega) hna1 hna2 (by omega))
  have hoB := Lib.hid (mkM_road (wd := 40) hl1 hl2 (by omega) (by omega) hnb1 hnb2 (by omega))
  have HAB := Lib.hid bab
  clear bnd ba bb bab h0 h1 h2 h3 h4 h5 h6 h7
  go_enter Try.func12, Try.ntmps12
  go_wp2_with fail
  clear e0 e1 e2 e3 e4 e5 e6 e7 hwa hwb
  obtain ⟨W0, hW0⟩ : ∃ W0, W0 = (w.alloc (.cells #[.slice none 0 0, .slice none 0 0, .slice none 0 0] 26)).alloc (.cells #[.slice none 0 0, .slice none 0 0, .slice none 0 0] 26) := ⟨_, rfl⟩
  have hB0 : Below w.heap.size w W0 := by rw [hW0]; exact ((Below.refl w.heap.size w).alloc (Nat.le_refl _) _).alloc (by simp) _
  have hX0 : BK W0 w.heap.size 26 #[.slice none 0 0, .slice none 0 0, .slice none 0 0] := by rw [hW0]; exact (BK.new w _ _).alloc _
  have hY0 : BK W0 (w.heap.size + 1) 26 #[.slice none 0 0, .slice none 0 0, .slice none 0 0] := by rw [hW0]; have := BK.new (w.alloc (.cells #[.slice none 0 0, .slice none 0 0, .slice none 0 0] 26)) 26 #[.slice none 0 0, .slice none 0 0, .slice none 0 0]; rw [World.size_alloc] at this; exact this
  rw [← hW0]
  clear hW0
  go_loopw [9] (fun i wr => ∃ (k : Nat) (A1 : Option Addr) (c1 : Nat), k ≤ na ∧ i = .int .i64 k ∧ BK wr w.heap.size 26 #[.slice A1 k c1, .slice none 0 0, .slice none 0 0] ∧ BK wr (w.heap.size + 1) 26 #[.slice none 0 0, .slice none 0 0, .slice none 0 0] ∧ OW pC 5 52 (w.heap.size + 2) wr A1 k c1 (mkM l 20 k) ∧ Below w.heap.size w wr)
    (fun i _ => na - (intOf i).toNat)
  case atStart => exact ⟨0, none, 0, Nat.zero_le _, rfl, hX0, hY0, OW.nil_, hB0⟩
  case round =>
    obtain ⟨k, A1, c1, hk, rfl, hX, hY, hO, hb⟩ := hrel
    have hz := hb.size
    have hxl := hX.lt
    have hyl := hY.lt
    have x0 := hX.cell 0
    have xf := hX.frozen 0
    simp only [List.getElem?_toArray, List.getElem?_cons_zero] at x0
    by_cases hlt : k < na
    · have hrm : Int.tmod (k : Int) 2 = ((k % 2 : Nat) : Int) := by
        rw [Int.tmod_eq_emod_of_nonneg (by omega)]
        omega
      have hrm2 : ((k % 2 : Nat) : Int) ≤ 1 := by omega
      have hwr : IntKind.i64.wrap ((k % 2 : Nat) : Int) = ((k % 2 : Nat) : Int) := IntWalk.i64_in _ (by omega)
      have hwd : IntKind.i64.wrap (20 + ((k % 2 : Nat) : Int)) = 20 + ((k % 2 : Nat) : Int) := IntWalk.i64_in _ (by omega)
      have hi1 : (0 : Int) ≤ (k : Int) := by omega
      have hN1 := BK.new wr 52 #[.int .i64 l, .int .i64 0, .int .i64 0, .int .i64 (20 + ((k % 2 : Nat) : Int)), .int .i64 1]
      have HFZ : Hid (∀ w3 g c'', App1 pC 5 52 (w.heap.size + 2) (wr.alloc (.cells #[.int .i64 l, .int .i64 0, .int .i64 0, .int .i64 (20 + ((k % 2 : Nat) : Int)), .int .i64 1] 52)) A1 k c1 (mkM l 20 k) ⟨l, 0, 0, 20 + ((k % 2 : Nat) : Int), 1⟩ g c'' w3 → w3.heap[w.heap.size]? = wr.heap[w.heap.size]? ∧ w3.heap[w.heap.size + 1]? = wr.heap[w.heap.size + 1]?) := by
        intro w3 g c'' hap
        refine ⟨?_, ?_⟩
        · rw [hap.far w.heap.size (by simp; omega) (fun b hb => by have := (hO.lt hb).1; omega)]
          exact Below.heap_alloc wr _ _ hxl
        · rw [hap.far (w.heap.size + 1) (by simp; omega) (fun b hb => by have := (hO.lt hb).1; omega)]
          exact Below.heap_alloc wr _ _ hyl
      go_wp2_with (at_builtin; refine wpList_app rfl _ _ 22 rfl (w.heap.size + 2) 52 _ 5 40 Try.underlying22 infoP rfl (by decide) pC A1 k c1 (mkM l 20 k) rfl (hO.alloc _) ⟨l, 0, 0, 20 + ((k % 2 : Nat) : Int), 1⟩ #[.int .i64 l, .int .i64 0, .int .i64 0, .int .i64 (20 + ((k % 2 : Nat) : Int)), .int .i64 1] rfl rfl 52 wr.heap.size rfl hN1 (by simp [pC, Value.oneCell']) (by omega) (by omega) (by simp; omega) ?_; intro g' c'' w1 hap; have hw1 := HFZ.out _ _ _ hap; have m0 := (World.cell?_of_block (w := wr) (w' := w1) (a := ⟨w.heap.size, 0, none⟩) hw1.1).trans x0; have mf := (World.frozen?_of_block (w := wr) (w' := w1) (a := ⟨w.heap.size, 0, none⟩) hw1.1).trans xf; have HAP := Lib.hid hap; clear hap)
      go_roundw
      case rel =>
        have hap := HAP.out
        have hgl := (hap.own.lt rfl).1
        simp only at hgl
        have hba := (Below.refl wr.heap.size wr).alloc (Nat.le_refl _) (.cells #[.int .i64 l, .int .i64 0, .int .i64 0, .int .i64 (20 + ((k % 2 : Nat) : Int)), .int .i64 1] 52)
        exact ⟨k + 1, _, _, by omega, by go_num, (hX.same hw1.1).set_ 0 _, (hY.same hw1.2).far (by simp) _, by rw [mkM_succ]; exact hap.own.setCell (fun a ha => by cases ha; show g' ≠ w.heap.size; omega) _, ((hb.trans (hba.mono hz)).trans (hap.bel.mono (by omega))).setCell (by simp) _⟩
      case measure => simp [intOf]; omega
    · obtain rfl : k = na := by omega
      obtain ⟨Wm, rfl⟩ : ∃ Wm : World, Wm = wr := ⟨_, rfl⟩
      have hXm := hX
      have hYm := hY
      have hOm := hO
      have hbm := hb
      have hzm := hz
      clear hX hY hO x0 xf
      go_wp2_with fail
      go_loopw [10] (fun i wr => ∃ (j : Nat) (A1 : Option Addr) (c1 : Nat), j ≤ nb ∧ i = .int .i64 j ∧ BK wr (w.heap.size + 1) 26 #[.slice A1 j c1, .slice none 0 0, .slice none 0 0] ∧ OW pC 5 52 Wm.heap.size wr A1 j c1 (mkM l 40 j) ∧ Below (w.heap.size + 1) Wm wr ∧ (∀ i, i < Wm.heap.size → i ≠ w.heap.size + 1 → wr.heap[i]? = Wm.heap[i]?))
        (fun i _ => nb - (intOf i).toNat)
      case atStart => exact ⟨0, none, 0, Nat.zero_le _, rfl, hYm, OW.nil_, Below.refl _ _, fun _ _ _ => rfl⟩
      case round =>
        obtain ⟨j, A2, c2, hj, rfl, hY, hO, hb, hfar⟩ := hrel
        have hz := hb.size
        have hyl := hY.lt
        have x0 := hY.cell 0
        have xf := hY.frozen 0
        simp only [List.getElem?_toArray, List.getElem?_cons_zero] at x0
        have hxm := hXm.lt
        have hym := hYm.lt
        by_cases hlt : j < nb
        · have hrm : Int.tmod (j : Int) 2 = ((j % 2 : Nat) : Int) := by
            rw [Int.tmod_eq_emod_of_nonneg (by omega)]
            omega
          have hrm2 : ((j % 2 : Nat) : Int) ≤ 1 := by omega
          have hwr : IntKind.i64.wrap ((j % 2 : Nat) : Int) = ((j % 2 : Nat) : Int) := IntWalk.i64_in _ (by omega)
          have hwd : IntKind.i64.wrap (40 + ((j % 2 : Nat) : Int)) = 40 + ((j % 2 : Nat) : Int) := IntWalk.i64_in _ (by omega)
          have hi1 : (0 : Int) ≤ (j : Int) := by omega
          have hN1 := BK.new wr 52 #[.int .i64 l, .int .i64 0, .int .i64 0, .int .i64 (40 + ((j % 2 : Nat) : Int)), .int .i64 1]
          have HFZ : Hid (∀ w3 g c'', App1 pC 5 52 Wm.heap.size (wr.alloc (.cells #[.int .i64 l, .int .i64 0, .int .i64 0, .int .i64 (40 + ((j % 2 : Nat) : Int)), .int .i64 1] 52)) A2 j c2 (mkM l 40 j) ⟨l, 0, 0, 40 + ((j % 2 : Nat) : Int), 1⟩ g c'' w3 → ∀ i, i < Wm.heap.size → w3.heap[i]? = wr.heap[i]?) := by
            intro w3 g c'' hap i hi
            rw [hap.far i (by simp; omega) (fun b hb => by have := (hO.lt hb).1; omega)]
            exact Below.heap_alloc wr _ _ (by omega)
          go_wp2_with (at_builtin; refine wpList_app rfl _ _ 22 rfl Wm.heap.size 52 _ 5 40 Try.underlying22 infoP rfl (by decide) pC A2 j c2 (mkM l 40 j) rfl (hO.alloc _) ⟨l, 0, 0, 40 + ((j % 2 : Nat) : Int), 1⟩ #[.int .i64 l, .int .i64 0, .int .i64 0, .int .i64 (40 + ((j % 2 : Nat) : Int)), .int .i64 1] rfl rfl 52 wr.heap.size rfl hN1 (by simp [pC, Value.oneCell']) (by omega) (by omega) (by simp; omega) ?_; intro g' c'' w1 hap; have hw1 := HFZ.out _ _ _ hap (w.heap.size + 1) hym; have m0 := (World.cell?_of_block (w := wr) (w' := w1) (a := ⟨w.heap.size + 1, 0, none⟩) hw1).trans x0; have mf := (World.frozen?_of_block (w := wr) (w' := w1) (a := ⟨w.heap.size + 1, 0, none⟩) hw1).trans xf; have HAP := Lib.hid hap; clear hap)
          go_roundw
          case rel =>
            have hap := HAP.out
            have hgl := (hap.own.lt rfl).1
            simp only at hgl
            have hba := (Below.refl wr.heap.size wr).alloc (Nat.le_refl _) (.cells #[.int .i64 l, .int .i64 0, .int .i64 0, .int .i64 (40 + ((j % 2 : Nat) : Int)), .int .i64 1] 52)
            exact ⟨j + 1, _, _, by omega, by go_num, (hY.same hw1).set_ 0 _, by rw [mkM_succ]; exact hap.own.setCell (fun a ha => by cases ha; show g' ≠ w.heap.size + 1; omega) _, ((hb.trans (hba.mono (by omega))).trans (hap.bel.mono (by omega))).setCell (Nat.le_refl _) _,
              fun i hi hne => (Below.heap_setCell _ _ _ _ hne).trans ((HFZ.out _ _ _ hap i hi).trans (hfar i hi hne))⟩
          case measure => simp [intOf]; omega
        · obtain rfl : j = nb := by omega
          have hX := hXm.same (hfar w.heap.size (by omega) (by omega))
          have hOx : OW pC 5 52 (w.heap.size + 2) wr A1 k c1 (mkM l 20 k) := hOm.keep fun a ha => hfar a.block (hOm.lt ha).2 (by have := (hOm.lt ha).1; omega)
          have hbW : Below w.heap.size w wr := hbm.trans (hb.mono (by omega))
          have y0 := hY.cell 0
          have y1 := hY.cell 1
          have y2 := hY.cell 2
          have z0 := hX.cell 0
          have z1 := hX.cell 1
          have z2 := hX.cell 2
          simp only [List.getElem?_toArray, List.getElem?_cons_zero, List.getElem?_cons_succ] at y0 y1 y2 z0 z1 z2
          have HRX := Lib.hid (RD.mk (R := ⟨mkM l 20 k, [], []⟩) (hOx.sl pC_len) (SL.nil_ (f := cC) (sz := 2) (w := wr) (B := wr.heap.size) (A := none)) (SL.nil_ (f := jC) (sz := 3) (w := wr) (B := wr.heap.size) (A := none)))
          have HRY := Lib.hid (RD.mk (R := ⟨mkM l 40 j, [], []⟩) (hO.sl pC_len) (SL.nil_ (f := cC) (sz := 2) (w := wr) (B := wr.heap.size) (A := none)) (SL.nil_ (f := jC) (sz := 3) (w := wr) (B := wr.heap.size) (A := none)))
          have hfr : Hid (fitsR (joinR ⟨mkM l 20 k, [], []⟩ ⟨mkM l 40 j, [], []⟩) = (decide ((k : Int) + j ≤ 2000) && decide (((k : Int) + j) * l ≤ 100000))) := by
            show _ = _
            have q1 : (mkM l 20 k ++ mkM l 40 j).length = k + j := by rw [List.length_append, mkM_len, mkM_len]
            have q2 : sumL (mkM l 20 k ++ mkM l 40 j) = ((k : Int) + j) * l := by rw [sumL_append, mkM_sum, mkM_sum, Int.add_mul]
            simp only [fitsR, joinR, List.foldl_nil, q1, q2]
            have q3 : decide (k + j ≤ 2000) = decide ((k : Int) + j ≤ 2000) := by rw [decide_eq_decide]; omega
            rw [q3]
            simp
          have hws : IntKind.i64.wrap ((k : Int) + (j : Int)) = (k : Int) + (j : Int) := IntWalk.i64_in _ (by omega)
          have hwm : IntKind.i64.wrap (((k : Int) + (j : Int)) * l) = ((k : Int) + (j : Int)) * l := IntWalk.i64_in _ (by have := HAB.out; omega)
          clear hX hY hOx hO x0 xf hXm hYm hOm
          go_wp2_with fail
          refine (Join_in A1 k c1 none 0 0 none 0 0 ⟨mkM l 20 k, [], []⟩ A2 j c2 none 0 0 none 0 0 ⟨mkM l 40 j, [], []⟩ wr HRX.out HRY.out hoA.out hoB.out).mono ?_
          rintro e W5 ⟨P1, q1, P2, m2, q2, P3, m3, q3, rfl, ⟨o1, o2, o3⟩, hb5⟩
          obtain rfl : m2 = 0 := o2.2
          obtain rfl : m3 = 0 := o3.2
          have hB5 := hbW.trans (hb5.mono hbW.size)
          clear o1 o2 o3 y0 y1 y2 z0 z1 z2 HRX HRY hoA hoB hb5 hbW hfar
          rw [boundV, hfr.out]
          by_cases g1 : 2000 < (k : Int) + j
          · have d1 : decide ((k : Int) + j ≤ 2000) = false := by simp; omega
            have d2 : decide (2000 < (k : Int) + j) = true := by simpa using g1
            rw [d1]
            simp only [Bool.false_and, Bool.false_eq_true, if_false]
            clear d1 g1
            go_wp2_with fail
            have hB6 : Below w.heap.size w (W5.alloc (.cells #[.slice none 0 0, .slice none 0 0, .slice none 0 0] 26)) := hB5.alloc hB5.size _
            refine (none_any none 0 0 none 0 0 none 0 0 _ (by omega) (by omega) (by omega)).mono ?_
            rintro e W6 ⟨rfl, hb6⟩
            have hB7 := hB6.trans (hb6.mono hB6.size)
            go_wp2_with fail
            refine (known_any _).mono ?_
            rintro e W7 ⟨rfl, hb7⟩
            go_wp2_with fail
            go_ret
            exact ⟨rfl, hB7.trans (hb7.mono hB7.size)⟩
          have d2 : decide (2000 < (k : Int) + j) = false := by simpa using g1
          by_cases g2 : 100000 < ((k : Int) + j) * l
          · have d1 : decide (((k : Int) + j) * l ≤ 100000) = false := by simp; omega
            have d3 : decide (100000 < ((k : Int) + j) * l) = true := by simpa using g2
            rw [d1]
            simp only [Bool.and_false, Bool.false_eq_true, if_false]
            clear d1 g1 g2
            go_wp2_with fail
            have hB6 : Below w.heap.size w (W5.alloc (.cells #[.slice none 0 0, .slice none 0 0, .slice none 0 0] 26)) := hB5.alloc hB5.size _
            refine (none_any none 0 0 none 0 0 none 0 0 _ (by omega) (by omega) (by omega)).mono ?_
            rintro e W6 ⟨rfl, hb6⟩
            have hB7 := hB6.trans (hb6.mono hB6.size)
            go_wp2_with fail
            refine (known_any _).mono ?_
            rintro e W7 ⟨rfl, hb7⟩
            go_wp2_with fail
            go_ret
            exact ⟨rfl, hB7.trans (hb7.mono hB7.size)⟩
          have d3 : decide (100000 < ((k : Int) + j) * l) = false := by simpa using g2
          have d1 : (decide ((k : Int) + j ≤ 2000) && decide (((k : Int) + j) * l ≤ 100000)) = true := by simp; omega
          rw [d1]
          simp only [if_true]
          clear d1 g1 g2
          go_wp2_with fail
          have hB6 : Below w.heap.size w (W5.alloc (.cells #[.slice P1 (k + j) q1, .slice P2 0 q2, .slice P3 0 q3] 26)) := hB5.alloc hB5.size _
          refine (known_any _).mono ?_
          rintro e W7 ⟨rfl, hb7⟩
          go_wp2_with fail
          go_ret
          exact ⟨rfl, hB6.trans (hb7.mono hB6.size)⟩
end Go.Proofs.Ytomloklckpcaiaa
