/- slices.Reverse at pieces, crests and junctions, of a row of the caller's own. -/
import Derived.Test.YtcniibngfnkobaaGreatDoorPCAppS
import Derived.Test.YtcniibngfnkobaaGreatDoorPCRCorn
import Derived.RegionTactic
import Derived.BigRegion
namespace Go.Proofs.YtcniibngfnkobaaGreatDoor
open Go.RowKit Go.Shelf Go.Sort Go.Proofs

theorem only_drew {a w : World} {row : Option Nat} (h : a.grownBy w row) : a.grownBy w.drew row := ⟨h.os, h.tape, h.output, h.size, h.block⟩
theorem only_set {a w : World} {g o : Nat} (h : a.grownBy w (some g)) (u : Value) : a.grownBy (w.setCell ⟨g, o, none⟩ u) (some g) :=
  ⟨h.os, h.tape, h.output, by simpa [World.setCell] using h.size, fun i hi hne => (Below.heap_setCell w _ u i (by rintro rfl; exact hne rfl)).trans (h.block i hi hne)⟩
theorem only_trans {a b c : World} {row : Option Nat} (h : a.grownBy b row) (k : b.grownBy c row) : a.grownBy c row :=
  ⟨k.os.trans h.os, k.tape.trans h.tape, k.output.trans h.output, Nat.le_trans h.size k.size, fun i hi hne => (k.block i (Nat.lt_of_lt_of_le hi h.size) hne).trans (h.block i hi hne)⟩
section
variable {α : Type}
def swp (xs : List α) (i j : Nat) : List α := match xs[i]?, xs[j]? with
  | some a, some b => (xs.set i b).set j a
  | _, _ => xs
theorem swp_len (xs : List α) (i j : Nat) : (swp xs i j).length = xs.length := by unfold swp; split <;> simp
def revK (xs : List α) : Nat → List α
  | 0 => xs
  | k + 1 => swp (revK xs k) k (xs.length - 1 - k)
theorem revK_len (xs : List α) : ∀ k, (revK xs k).length = xs.length
  | 0 => rfl
  | k + 1 => by rw [revK, swp_len, revK_len xs k]
theorem revK_at (xs : List α) : ∀ k, 2 * k ≤ xs.length → ∀ i, i < xs.length → (revK xs k)[i]? = if i < k ∨ xs.length - k ≤ i then xs[xs.length - 1 - i]? else xs[i]?
  | 0, _, i, hi => by rw [if_neg (by omega)]; rfl
  | k + 1, hk, i, hi => by
    have ih := revK_at xs k (by omega)
    have hl := revK_len xs k
    have h1 := ih k (by omega)
    have h2 := ih (xs.length - 1 - k) (by omega)
    rw [if_neg (by omega)] at h1 h2
    rw [List.getElem?_eq_getElem (by omega : k < xs.length)] at h1
    rw [List.getElem?_eq_getElem (by omega : xs.length - 1 - k < xs.length)] at h2
    rw [revK, swp, h1, h2]
    simp only [List.getElem?_set, List.length_set, hl]
    by_cases e1 : xs.length - 1 - k = i
    · subst e1
      rw [if_pos rfl, if_pos (by omega), if_pos (by omega), List.getElem?_eq_getElem (by omega)]
      congr 2
      omega
    · rw [if_neg e1]
      by_cases e2 : k = i
      · subst e2
        rw [if_pos rfl, if_pos (by omega), if_pos (by omega), List.getElem?_eq_getElem (by omega)]
      · rw [if_neg e2, ih i hi]
        by_cases e3 : i < k ∨ xs.length - k ≤ i
        · rw [if_pos e3, if_pos (by omega)]
        · rw [if_neg e3, if_neg (by omega)]
theorem revK_done (xs : List α) (k : Nat) (h1 : 2 * k ≤ xs.length) (h2 : xs.length ≤ 2 * k + 1) : revK xs k = xs.reverse := by
  apply List.ext_getElem?
  intro i
  rcases Nat.lt_or_ge i xs.length with hi | hi
  · rw [revK_at xs k h1 i hi, List.getElem?_reverse hi]
    split
    · rfl
    · congr 1; omega
  · rw [List.getElem?_eq_none (by rw [revK_len]; exact hi), List.getElem?_eq_none (by simpa using hi)]
end

set_option maxRecDepth 100000 in
set_option maxHeartbeats 4000000 in
theorem RevP_any (base b n c : Nat) (xs : List Piece) (w : World) (h : OW pC 5 60 base w (some ⟨b, 0, none⟩) n c xs) (hn : n ≤ 100000) :
    Calls Tryz.prog 23 #[.slice (some ⟨b, 0, none⟩) n c] w fun e w' => (∃ v, e = .returned v) ∧ OW pC 5 60 base w' (some ⟨b, 0, none⟩) n c xs.reverse ∧ w.grownBy w' (some b) := by
  have hmo : Tryz.prog.follows .mixedOrders = true := by kernel_rfl
  have HH := Lib.hid h
  have hnl := h.2
  have HN := Lib.hid hnl
  clear h hnl
  go_enter Tryz.func23, Tryz.ntmps23
  go_wp2_with fail
  go_loopw [2, 3] (fun iv jv wr => ∃ k : Nat, iv = .int .i64 k ∧ jv = .int .i64 ((n : Int) - 1 - k) ∧ 2 * k ≤ n ∧ OW pC 5 60 base wr (some ⟨b, 0, none⟩) n c (revK xs k) ∧ w.grownBy wr (some b))
    (fun iv _ _ => n - (intOf iv).toNat)
  case atStart => exact ⟨0, rfl, by simp, Nat.zero_le _, HH.out, World.grownBy.refl w _⟩
  case round =>
    obtain ⟨k, rfl, rfl, hk, hO, hg⟩ := hrel
    by_cases hlt : 2 * k + 1 < n
    · have hlt' : (k : Int) < (n : Int) - 1 - k := by omega
      obtain ⟨b', hb', hbl, _, hfz, hrow⟩ := hO.at_ pC_len _ rfl
      cases hb'
      have hrl := revK_len xs k
      have hkl : k < (revK xs k).length := by have := HN.out; omega
      have hjl : n - 1 - k < (revK xs k).length := by have := HN.out; omega
      have hkx : (revK xs k)[k]? = some (revK xs k)[k] := List.getElem?_eq_getElem hkl
      have hky : (revK xs k)[n - 1 - k]? = some (revK xs k)[n - 1 - k] := List.getElem?_eq_getElem hjl
      generalize (revK xs k)[k]'hkl = x at hkx
      generalize (revK xs k)[n - 1 - k]'hjl = y at hky
      have x0 := hrow k x hkx 0 _ rfl
      have x1 := hrow k x hkx 1 _ rfl
      have x2 := hrow k x hkx 2 _ rfl
      have x3 := hrow k x hkx 3 _ rfl
      have x4 := hrow k x hkx 4 _ rfl
      have y0 := hrow (n - 1 - k) y hky 0 _ rfl
      have y1 := hrow (n - 1 - k) y hky 1 _ rfl
      have y2 := hrow (n - 1 - k) y hky 2 _ rfl
      have y3 := hrow (n - 1 - k) y hky 3 _ rfl
      have y4 := hrow (n - 1 - k) y hky 4 _ rfl
      have hax : ∀ q, 0 + k * 5 + q = k * 5 + q := fun q => by omega
      have hay : ∀ q, 0 + (n - 1 - k) * 5 + q = (n - 1 - k) * 5 + q := fun q => by omega
      rw [hax] at x0 x1 x2 x3 x4
      rw [hay] at y0 y1 y2 y3 y4
      rw [Nat.add_zero] at x0 y0
      have hi1 : (0 : Int) ≤ (k : Int) := by omega
      have hi2 : (k : Int) < (n : Int) := by omega
      have hi3 : (0 : Int) ≤ (n : Int) - 1 - k := by omega
      have hi4 : (n : Int) - 1 - k < (n : Int) := by omega
      have hi5 : ((n : Int) - 1 - k).toNat = n - 1 - k := by omega
      have hnew : Hid (revK xs (k + 1) = ((revK xs k).set k y).set (n - 1 - k) x) := by
        rw [revK, ← HN.out, swp, hkx, hky]; exact rfl
      have HKX := Lib.hid hkx
      have HKY := Lib.hid hky
      have HKL := Lib.hid hkl
      have HJL := Lib.hid hjl
      clear hrow hax hay hkx hky hkl hjl hrl
      go_wp2_with fail
      go_region
      go_wp2_with fail
      go_roundw
      case rel =>
        have hkx := HKX.out
        have hky := HKY.out
        have hkl := HKL.out
        have hjl := HJL.out
        have s0 := OW.setF hO pC_len k 0 (x := x) (y := { x with len := y.len }) (v := .int .i64 y.len) hkx (by omega) rfl
        have e0 : ((revK xs k).set k { x with len := y.len })[k]? = some { x with len := y.len } := by simp [hkl]
        have s1 := OW.setF s0 pC_len k 1 (x := { x with len := y.len }) (y := { x with len := y.len, turn := y.turn }) (v := .int .i64 y.turn) e0 (by omega) rfl
        rw [List.set_set] at s1
        have e1 : ((revK xs k).set k { x with len := y.len, turn := y.turn })[k]? = some { x with len := y.len, turn := y.turn } := by simp [hkl]
        have s2 := OW.setF s1 pC_len k 2 (x := { x with len := y.len, turn := y.turn }) (y := { x with len := y.len, turn := y.turn, rad := y.rad }) (v := .int .i64 y.rad) e1 (by omega) rfl
        rw [List.set_set] at s2
        have e2 : ((revK xs k).set k { x with len := y.len, turn := y.turn, rad := y.rad })[k]? = some { x with len := y.len, turn := y.turn, rad := y.rad } := by simp [hkl]
        have s3 := OW.setF s2 pC_len k 3 (x := { x with len := y.len, turn := y.turn, rad := y.rad }) (y := { x with len := y.len, turn := y.turn, rad := y.rad, wid := y.wid }) (v := .int .i64 y.wid) e2 (by omega) rfl
        rw [List.set_set] at s3
        have e3 : ((revK xs k).set k { x with len := y.len, turn := y.turn, rad := y.rad, wid := y.wid })[k]? = some { x with len := y.len, turn := y.turn, rad := y.rad, wid := y.wid } := by simp [hkl]
        have s4 := OW.setF s3 pC_len k 4 (x := { x with len := y.len, turn := y.turn, rad := y.rad, wid := y.wid }) (y := { x with len := y.len, turn := y.turn, rad := y.rad, wid := y.wid, sur := y.sur }) (v := .int .i64 y.sur) e3 (by omega) rfl
        rw [List.set_set] at s4
        have e4 : ((revK xs k).set k { x with len := y.len, turn := y.turn, rad := y.rad, wid := y.wid, sur := y.sur })[k]? = some { x with len := y.len, turn := y.turn, rad := y.rad, wid := y.wid, sur := y.sur } := by simp [hkl]
        have hky2 : ((revK xs k).set k { x with len := y.len, turn := y.turn, rad := y.rad, wid := y.wid, sur := y.sur })[n - 1 - k]? = some y := by rw [List.getElem?_set, if_neg (by omega)]; exact hky
        have t0 := OW.setF s4 pC_len (n - 1 - k) 0 (x := y) (y := { y with len := x.len }) (v := .int .i64 x.len) hky2 (by omega) rfl
        have d0 : (((revK xs k).set k { x with len := y.len, turn := y.turn, rad := y.rad, wid := y.wid, sur := y.sur }).set (n - 1 - k) { y with len := x.len })[n - 1 - k]? = some { y with len := x.len } := by simp [hjl]
        have t1 := OW.setF t0 pC_len (n - 1 - k) 1 (x := { y with len := x.len }) (y := { y with len := x.len, turn := x.turn }) (v := .int .i64 x.turn) d0 (by omega) rfl
        rw [List.set_set] at t1
        have d1 : (((revK xs k).set k { x with len := y.len, turn := y.turn, rad := y.rad, wid := y.wid, sur := y.sur }).set (n - 1 - k) { y with len := x.len, turn := x.turn })[n - 1 - k]? = some { y with len := x.len, turn := x.turn } := by simp [hjl]
        have t2 := OW.setF t1 pC_len (n - 1 - k) 2 (x := { y with len := x.len, turn := x.turn }) (y := { y with len := x.len, turn := x.turn, rad := x.rad }) (v := .int .i64 x.rad) d1 (by omega) rfl
        rw [List.set_set] at t2
        have d2 : (((revK xs k).set k { x with len := y.len, turn := y.turn, rad := y.rad, wid := y.wid, sur := y.sur }).set (n - 1 - k) { y with len := x.len, turn := x.turn, rad := x.rad })[n - 1 - k]? = some { y with len := x.len, turn := x.turn, rad := x.rad } := by simp [hjl]
        have t3 := OW.setF t2 pC_len (n - 1 - k) 3 (x := { y with len := x.len, turn := x.turn, rad := x.rad }) (y := { y with len := x.len, turn := x.turn, rad := x.rad, wid := x.wid }) (v := .int .i64 x.wid) d2 (by omega) rfl
        rw [List.set_set] at t3
        have d3 : (((revK xs k).set k { x with len := y.len, turn := y.turn, rad := y.rad, wid := y.wid, sur := y.sur }).set (n - 1 - k) { y with len := x.len, turn := x.turn, rad := x.rad, wid := x.wid })[n - 1 - k]? = some { y with len := x.len, turn := x.turn, rad := x.rad, wid := x.wid } := by simp [hjl]
        have t4 := OW.setF t3 pC_len (n - 1 - k) 4 (x := { y with len := x.len, turn := x.turn, rad := x.rad, wid := x.wid }) (y := { y with len := x.len, turn := x.turn, rad := x.rad, wid := x.wid, sur := x.sur }) (v := .int .i64 x.sur) d3 (by omega) rfl
        rw [List.set_set] at t4
        have d4 : (((revK xs k).set k { x with len := y.len, turn := y.turn, rad := y.rad, wid := y.wid, sur := y.sur }).set (n - 1 - k) { y with len := x.len, turn := x.turn, rad := x.rad, wid := x.wid, sur := x.sur })[n - 1 - k]? = some { y with len := x.len, turn := x.turn, rad := x.rad, wid := x.wid, sur := x.sur } := by simp [hjl]
        exact ⟨k + 1, by go_num, by congr 1; omega, by omega, by rw [hnew.out]; exact OW.drew t4, only_drew (only_set (only_set (only_set (only_set (only_set (only_set (only_set (only_set (only_set (only_set hg _) _) _) _) _) _) _) _) _) _)⟩
      case measure => simp [intOf]; omega
    · have hres : Hid (revK xs k = xs.reverse) := revK_done xs k (by rw [← HN.out]; exact hk) (by rw [← HN.out]; omega)
      have hnl : ¬ (k : Int) < (n : Int) - 1 - k := by omega
      rw [hres.out] at hO
      go_wp2_with fail
      go_end0
      exact ⟨⟨_, rfl⟩, hO, hg⟩
set_option maxRecDepth 100000 in
set_option maxHeartbeats 4000000 in
theorem RevC_any (base b n c : Nat) (xs : List Crest) (w : World) (h : OW cC 2 63 base w (some ⟨b, 0, none⟩) n c xs) (hn : n ≤ 100000) :
    Calls Tryz.prog 24 #[.slice (some ⟨b, 0, none⟩) n c] w fun e w' => (∃ v, e = .returned v) ∧ OW cC 2 63 base w' (some ⟨b, 0, none⟩) n c xs.reverse ∧ w.grownBy w' (some b) := by
  have hmo : Tryz.prog.follows .mixedOrders = true := by kernel_rfl
  have HH := Lib.hid h
  have hnl := h.2
  have HN := Lib.hid hnl
  clear h hnl
  go_enter Tryz.func24, Tryz.ntmps24
  go_wp2_with fail
  go_loopw [2, 3] (fun iv jv wr => ∃ k : Nat, iv = .int .i64 k ∧ jv = .int .i64 ((n : Int) - 1 - k) ∧ 2 * k ≤ n ∧ OW cC 2 63 base wr (some ⟨b, 0, none⟩) n c (revK xs k) ∧ w.grownBy wr (some b))
    (fun iv _ _ => n - (intOf iv).toNat)
  case atStart => exact ⟨0, rfl, by simp, Nat.zero_le _, HH.out, World.grownBy.refl w _⟩
  case round =>
    obtain ⟨k, rfl, rfl, hk, hO, hg⟩ := hrel
    by_cases hlt : 2 * k + 1 < n
    · have hlt' : (k : Int) < (n : Int) - 1 - k := by omega
      obtain ⟨b', hb', hbl, _, hfz, hrow⟩ := hO.at_ cC_len _ rfl
      cases hb'
      have hrl := revK_len xs k
      have hkl : k < (revK xs k).length := by have := HN.out; omega
      have hjl : n - 1 - k < (revK xs k).length := by have := HN.out; omega
      have hkx : (revK xs k)[k]? = some (revK xs k)[k] := List.getElem?_eq_getElem hkl
      have hky : (revK xs k)[n - 1 - k]? = some (revK xs k)[n - 1 - k] := List.getElem?_eq_getElem hjl
      generalize (revK xs k)[k]'hkl = x at hkx
      generalize (revK xs k)[n - 1 - k]'hjl = y at hky
      have x0 := hrow k x hkx 0 _ rfl
      have x1 := hrow k x hkx 1 _ rfl
      have y0 := hrow (n - 1 - k) y hky 0 _ rfl
      have y1 := hrow (n - 1 - k) y hky 1 _ rfl
      have hax : ∀ q, 0 + k * 2 + q = k * 2 + q := fun q => by omega
      have hay : ∀ q, 0 + (n - 1 - k) * 2 + q = (n - 1 - k) * 2 + q := fun q => by omega
      rw [hax] at x0 x1
      rw [hay] at y0 y1
      rw [Nat.add_zero] at x0 y0
      have hi1 : (0 : Int) ≤ (k : Int) := by omega
      have hi2 : (k : Int) < (n : Int) := by omega
      have hi3 : (0 : Int) ≤ (n : Int) - 1 - k := by omega
      have hi4 : (n : Int) - 1 - k < (n : Int) := by omega
      have hi5 : ((n : Int) - 1 - k).toNat = n - 1 - k := by omega
      have hnew : Hid (revK xs (k + 1) = ((revK xs k).set k y).set (n - 1 - k) x) := by
        rw [revK, ← HN.out, swp, hkx, hky]; exact rfl
      have HKX := Lib.hid hkx
      have HKY := Lib.hid hky
      have HKL := Lib.hid hkl
      have HJL := Lib.hid hjl
      clear hrow hax hay hkx hky hkl hjl hrl
      go_wp2_with fail
      go_region
      go_wp2_with fail
      go_roundw
      case rel =>
        have hkx := HKX.out
        have hky := HKY.out
        have hkl := HKL.out
        have hjl := HJL.out
        have s0 := OW.setF hO cC_len k 0 (x := x) (y := { x with pos := y.pos }) (v := .int .i64 y.pos) hkx (by omega) rfl
        have e0 : ((revK xs k).set k { x with pos := y.pos })[k]? = some { x with pos := y.pos } := by simp [hkl]
        have s1 := OW.setF s0 cC_len k 1 (x := { x with pos := y.pos }) (y := { x with pos := y.pos, siz := y.siz }) (v := .int .i64 y.siz) e0 (by omega) rfl
        rw [List.set_set] at s1
        have e1 : ((revK xs k).set k { x with pos := y.pos, siz := y.siz })[k]? = some { x with pos := y.pos, siz := y.siz } := by simp [hkl]
        have hky2 : ((revK xs k).set k { x with pos := y.pos, siz := y.siz })[n - 1 - k]? = some y := by rw [List.getElem?_set, if_neg (by omega)]; exact hky
        have t0 := OW.setF s1 cC_len (n - 1 - k) 0 (x := y) (y := { y with pos := x.pos }) (v := .int .i64 x.pos) hky2 (by omega) rfl
        have d0 : (((revK xs k).set k { x with pos := y.pos, siz := y.siz }).set (n - 1 - k) { y with pos := x.pos })[n - 1 - k]? = some { y with pos := x.pos } := by simp [hjl]
        have t1 := OW.setF t0 cC_len (n - 1 - k) 1 (x := { y with pos := x.pos }) (y := { y with pos := x.pos, siz := x.siz }) (v := .int .i64 x.siz) d0 (by omega) rfl
        rw [List.set_set] at t1
        have d1 : (((revK xs k).set k { x with pos := y.pos, siz := y.siz }).set (n - 1 - k) { y with pos := x.pos, siz := x.siz })[n - 1 - k]? = some { y with pos := x.pos, siz := x.siz } := by simp [hjl]
        exact ⟨k + 1, by go_num, by congr 1; omega, by omega, by rw [hnew.out]; exact OW.drew t1, only_drew (only_set (only_set (only_set (only_set hg _) _) _) _)⟩
      case measure => simp [intOf]; omega
    · have hres : Hid (revK xs k = xs.reverse) := revK_done xs k (by rw [← HN.out]; exact hk) (by rw [← HN.out]; omega)
      have hnl : ¬ (k : Int) < (n : Int) - 1 - k := by omega
      rw [hres.out] at hO
      go_wp2_with fail
      go_end0
      exact ⟨⟨_, rfl⟩, hO, hg⟩
set_option maxRecDepth 100000 in
set_option maxHeartbeats 4000000 in
theorem RevJ_any (base b n c : Nat) (xs : List Junc) (w : World) (h : OW jC 3 66 base w (some ⟨b, 0, none⟩) n c xs) (hn : n ≤ 100000) :
    Calls Tryz.prog 25 #[.slice (some ⟨b, 0, none⟩) n c] w fun e w' => (∃ v, e = .returned v) ∧ OW jC 3 66 base w' (some ⟨b, 0, none⟩) n c xs.reverse ∧ w.grownBy w' (some b) := by
  have hmo : Tryz.prog.follows .mixedOrders = true := by kernel_rfl
  have HH := Lib.hid h
  have hnl := h.2
  have HN := Lib.hid hnl
  clear h hnl
  go_enter Tryz.func25, Tryz.ntmps25
  go_wp2_with fail
  go_loopw [2, 3] (fun iv jv wr => ∃ k : Nat, iv = .int .i64 k ∧ jv = .int .i64 ((n : Int) - 1 - k) ∧ 2 * k ≤ n ∧ OW jC 3 66 base wr (some ⟨b, 0, none⟩) n c (revK xs k) ∧ w.grownBy wr (some b))
    (fun iv _ _ => n - (intOf iv).toNat)
  case atStart => exact ⟨0, rfl, by simp, Nat.zero_le _, HH.out, World.grownBy.refl w _⟩
  case round =>
    obtain ⟨k, rfl, rfl, hk, hO, hg⟩ := hrel
    by_cases hlt : 2 * k + 1 < n
    · have hlt' : (k : Int) < (n : Int) - 1 - k := by omega
      obtain ⟨b', hb', hbl, _, hfz, hrow⟩ := hO.at_ jC_len _ rfl
      cases hb'
      have hrl := revK_len xs k
      have hkl : k < (revK xs k).length := by have := HN.out; omega
      have hjl : n - 1 - k < (revK xs k).length := by have := HN.out; omega
      have hkx : (revK xs k)[k]? = some (revK xs k)[k] := List.getElem?_eq_getElem hkl
      have hky : (revK xs k)[n - 1 - k]? = some (revK xs k)[n - 1 - k] := List.getElem?_eq_getElem hjl
      generalize (revK xs k)[k]'hkl = x at hkx
      generalize (revK xs k)[n - 1 - k]'hjl = y at hky
      have x0 := hrow k x hkx 0 _ rfl
      have x1 := hrow k x hkx 1 _ rfl
      have x2 := hrow k x hkx 2 _ rfl
      have y0 := hrow (n - 1 - k) y hky 0 _ rfl
      have y1 := hrow (n - 1 - k) y hky 1 _ rfl
      have y2 := hrow (n - 1 - k) y hky 2 _ rfl
      have hax : ∀ q, 0 + k * 3 + q = k * 3 + q := fun q => by omega
      have hay : ∀ q, 0 + (n - 1 - k) * 3 + q = (n - 1 - k) * 3 + q := fun q => by omega
      rw [hax] at x0 x1 x2
      rw [hay] at y0 y1 y2
      rw [Nat.add_zero] at x0 y0
      have hi1 : (0 : Int) ≤ (k : Int) := by omega
      have hi2 : (k : Int) < (n : Int) := by omega
      have hi3 : (0 : Int) ≤ (n : Int) - 1 - k := by omega
      have hi4 : (n : Int) - 1 - k < (n : Int) := by omega
      have hi5 : ((n : Int) - 1 - k).toNat = n - 1 - k := by omega
      have hnew : Hid (revK xs (k + 1) = ((revK xs k).set k y).set (n - 1 - k) x) := by
        rw [revK, ← HN.out, swp, hkx, hky]; exact rfl
      have HKX := Lib.hid hkx
      have HKY := Lib.hid hky
      have HKL := Lib.hid hkl
      have HJL := Lib.hid hjl
      clear hrow hax hay hkx hky hkl hjl hrl
      go_wp2_with fail
      go_region
      go_wp2_with fail
      go_roundw
      case rel =>
        have hkx := HKX.out
        have hky := HKY.out
        have hkl := HKL.out
        have hjl := HJL.out
        have s0 := OW.setF hO jC_len k 0 (x := x) (y := { x with pos := y.pos }) (v := .int .i64 y.pos) hkx (by omega) rfl
        have e0 : ((revK xs k).set k { x with pos := y.pos })[k]? = some { x with pos := y.pos } := by simp [hkl]
        have s1 := OW.setF s0 jC_len k 1 (x := { x with pos := y.pos }) (y := { x with pos := y.pos, arms := y.arms }) (v := .int .i64 y.arms) e0 (by omega) rfl
        rw [List.set_set] at s1
        have e1 : ((revK xs k).set k { x with pos := y.pos, arms := y.arms })[k]? = some { x with pos := y.pos, arms := y.arms } := by simp [hkl]
        have s2 := OW.setF s1 jC_len k 2 (x := { x with pos := y.pos, arms := y.arms }) (y := { x with pos := y.pos, arms := y.arms, way := y.way }) (v := .int .i64 y.way) e1 (by omega) rfl
        rw [List.set_set] at s2
        have e2 : ((revK xs k).set k { x with pos := y.pos, arms := y.arms, way := y.way })[k]? = some { x with pos := y.pos, arms := y.arms, way := y.way } := by simp [hkl]
        have hky2 : ((revK xs k).set k { x with pos := y.pos, arms := y.arms, way := y.way })[n - 1 - k]? = some y := by rw [List.getElem?_set, if_neg (by omega)]; exact hky
        have t0 := OW.setF s2 jC_len (n - 1 - k) 0 (x := y) (y := { y with pos := x.pos }) (v := .int .i64 x.pos) hky2 (by omega) rfl
        have d0 : (((revK xs k).set k { x with pos := y.pos, arms := y.arms, way := y.way }).set (n - 1 - k) { y with pos := x.pos })[n - 1 - k]? = some { y with pos := x.pos } := by simp [hjl]
        have t1 := OW.setF t0 jC_len (n - 1 - k) 1 (x := { y with pos := x.pos }) (y := { y with pos := x.pos, arms := x.arms }) (v := .int .i64 x.arms) d0 (by omega) rfl
        rw [List.set_set] at t1
        have d1 : (((revK xs k).set k { x with pos := y.pos, arms := y.arms, way := y.way }).set (n - 1 - k) { y with pos := x.pos, arms := x.arms })[n - 1 - k]? = some { y with pos := x.pos, arms := x.arms } := by simp [hjl]
        have t2 := OW.setF t1 jC_len (n - 1 - k) 2 (x := { y with pos := x.pos, arms := x.arms }) (y := { y with pos := x.pos, arms := x.arms, way := x.way }) (v := .int .i64 x.way) d1 (by omega) rfl
        rw [List.set_set] at t2
        have d2 : (((revK xs k).set k { x with pos := y.pos, arms := y.arms, way := y.way }).set (n - 1 - k) { y with pos := x.pos, arms := x.arms, way := x.way })[n - 1 - k]? = some { y with pos := x.pos, arms := x.arms, way := x.way } := by simp [hjl]
        exact ⟨k + 1, by go_num, by congr 1; omega, by omega, by rw [hnew.out]; exact OW.drew t2, only_drew (only_set (only_set (only_set (only_set (only_set (only_set hg _) _) _) _) _) _)⟩
      case measure => simp [intOf]; omega
    · have hres : Hid (revK xs k = xs.reverse) := revK_done xs k (by rw [← HN.out]; exact hk) (by rw [← HN.out]; omega)
      have hnl : ¬ (k : Int) < (n : Int) - 1 - k := by omega
      rw [hres.out] at hO
      go_wp2_with fail
      go_end0
      exact ⟨⟨_, rfl⟩, hO, hg⟩
set_option maxRecDepth 100000 in
theorem RevP_ow (base : Nat) (A : Option Addr) (n c : Nat) (xs : List Piece) (w : World) (h : OW pC 5 60 base w A n c xs) (hn : n ≤ 100000) :
    Calls Tryz.prog 23 #[.slice A n c] w fun e w' => (∃ v, e = .returned v) ∧ OW pC 5 60 base w' A n c xs.reverse ∧ w.grownBy w' (A.map (·.block)) := by
  rcases A with _ | a
  · obtain ⟨rfl, rfl, rfl⟩ := h.none_
    go_enter Tryz.func23, Tryz.ntmps23
    go_wp2_with fail
    go_loop [2, 3] (fun i j => i = .int .i64 0 ∧ j = .int .i64 (-1)) (fun _ _ => 0)
    case atStart => exact ⟨rfl, rfl⟩
    case round =>
      obtain ⟨rfl, rfl⟩ := hrel
      go_wp2_with fail
      go_end0
      exact ⟨⟨_, rfl⟩, OW.nil_, World.grownBy.refl w _⟩
  · rcases h.1.2 with ⟨h3, _⟩ | ⟨g', cap, cur, h3, _⟩
    · cases h3
    · injection h3 with h3
      injection h3 with h3
      subst h3
      exact RevP_any base g' n c xs w h hn
set_option maxRecDepth 100000 in
theorem RevC_ow (base : Nat) (A : Option Addr) (n c : Nat) (xs : List Crest) (w : World) (h : OW cC 2 63 base w A n c xs) (hn : n ≤ 100000) :
    Calls Tryz.prog 24 #[.slice A n c] w fun e w' => (∃ v, e = .returned v) ∧ OW cC 2 63 base w' A n c xs.reverse ∧ w.grownBy w' (A.map (·.block)) := by
  rcases A with _ | a
  · obtain ⟨rfl, rfl, rfl⟩ := h.none_
    go_enter Tryz.func24, Tryz.ntmps24
    go_wp2_with fail
    go_loop [2, 3] (fun i j => i = .int .i64 0 ∧ j = .int .i64 (-1)) (fun _ _ => 0)
    case atStart => exact ⟨rfl, rfl⟩
    case round =>
      obtain ⟨rfl, rfl⟩ := hrel
      go_wp2_with fail
      go_end0
      exact ⟨⟨_, rfl⟩, OW.nil_, World.grownBy.refl w _⟩
  · rcases h.1.2 with ⟨h3, _⟩ | ⟨g', cap, cur, h3, _⟩
    · cases h3
    · injection h3 with h3
      injection h3 with h3
      subst h3
      exact RevC_any base g' n c xs w h hn
set_option maxRecDepth 100000 in
theorem RevJ_ow (base : Nat) (A : Option Addr) (n c : Nat) (xs : List Junc) (w : World) (h : OW jC 3 66 base w A n c xs) (hn : n ≤ 100000) :
    Calls Tryz.prog 25 #[.slice A n c] w fun e w' => (∃ v, e = .returned v) ∧ OW jC 3 66 base w' A n c xs.reverse ∧ w.grownBy w' (A.map (·.block)) := by
  rcases A with _ | a
  · obtain ⟨rfl, rfl, rfl⟩ := h.none_
    go_enter Tryz.func25, Tryz.ntmps25
    go_wp2_with fail
    go_loop [2, 3] (fun i j => i = .int .i64 0 ∧ j = .int .i64 (-1)) (fun _ _ => 0)
    case atStart => exact ⟨rfl, rfl⟩
    case round =>
      obtain ⟨rfl, rfl⟩ := hrel
      go_wp2_with fail
      go_end0
      exact ⟨⟨_, rfl⟩, OW.nil_, World.grownBy.refl w _⟩
  · rcases h.1.2 with ⟨h3, _⟩ | ⟨g', cap, cur, h3, _⟩
    · cases h3
    · injection h3 with h3
      injection h3 with h3
      subst h3
      exact RevJ_any base g' n c xs w h hn
end Go.Proofs.YtcniibngfnkobaaGreatDoor
