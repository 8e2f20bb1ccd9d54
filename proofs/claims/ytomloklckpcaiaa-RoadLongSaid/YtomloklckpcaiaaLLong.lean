/- The law function RoadLong, walked: it returns true. -/
import Derived.Test.YtomloklckpcaiaaKnown
import Derived.Test.YtomloklckpcaiaaNormR
import Derived.Test.YtomloklckpcaiaaPcs
namespace Go.Proofs.Ytomloklckpcaiaa
open Go.RowKit Go.Shelf Go.Sort Go.Proofs

def mkL (width y : Int) : Piece := ⟨y, 0, 0, width, 1⟩
theorem mrg_mk (width y : Int) : ∀ (xs : List Int), mrgR ((y :: xs).map (mkL width)) = [mkL width ((y :: xs).sum)] := by
  have key : ∀ (xs : List Int) (s : Int), (xs.map (mkL width)).foldl addR [mkL width s] = [mkL width (s + xs.sum)] := by
    intro xs
    induction xs with
    | nil => intro s; simp
    | cons x xs ih =>
      intro s
      have h1 : addR [mkL width s] (mkL width x) = [mkL width (s + x)] := by
        show addR ([] ++ [_]) _ = _
        rw [addR_at, if_pos (by simp [alk, mkL])]
        rfl
      rw [List.map_cons, List.foldl_cons, h1, ih, List.sum_cons, Int.add_assoc]
  intro xs
  rw [mrgR, List.map_cons, List.foldl_cons, addR_nil, key, List.sum_cons]
theorem cut_at (p : Piece) (h : 1 ≤ p.len) (k : Nat) (hk : k < cutk p.len + 1) : (cut p)[k]? = some { p with len := min 5000 (p.len - 5000 * k) } := by
  have h1 := cutk_eq h
  unfold cut
  by_cases hl : k < cutk p.len
  · rw [List.getElem?_append_left (by rw [List.length_replicate]; exact hl), List.getElem?_replicate, if_pos hl]
    rw [show min 5000 (p.len - 5000 * (k : Int)) = 5000 by omega]
  · rw [List.getElem?_append_right (by rw [List.length_replicate]; omega), List.length_replicate, show k - cutk p.len = 0 by omega]
    rw [show min 5000 (p.len - 5000 * (k : Int)) = p.len - 5000 * cutk p.len by omega]
    rfl
theorem sum_bd : ∀ {l : List Int}, (∀ y ∈ l, 1 ≤ y ∧ y ≤ 5000) → (l.length : Int) ≤ l.sum ∧ l.sum ≤ 5000 * l.length
  | [], _ => by simp
  | y :: l, h => by
    have h1 := sum_bd (fun q hq => h q (List.mem_cons_of_mem _ hq))
    have h2 := h y (List.mem_cons_self ..)
    rw [List.sum_cons, List.length_cons]; omega
theorem sumL_mk (width : Int) : ∀ l : List Int, sumL (l.map (mkL width)) = l.sum
  | [] => rfl
  | y :: l => by rw [List.map_cons, sumL_cons, sumL_mk width l, List.sum_cons]; rfl

set_option maxRecDepth 100000 in
set_option maxHeartbeats 4000000 in
theorem RoadLong_walk (width : Int) (A : Option Addr) (n c : Nat) (xs : List Int) (w : World) (h : SL iC 1 w w.heap.size A n xs) :
    Calls Try.prog 10 #[.slice A n c, .int .i64 width] w fun e w' => e = .returned (.bool true) ∧ Below w.heap.size w w' := by
  have hmo : Try.prog.follows .mixedOrders = true := by kernel_rfl
  have hl := Lib.hid h.1
  by_cases h8 : (8 : Int) < n
  · go_enter Try.func10, Try.ntmps10
    go_wp2_with fail
    refine (known_any w).mono ?_
    rintro e W1 ⟨rfl, hk0⟩
    go_wp2_with fail
    go_ret
    exact ⟨rfl, hk0⟩
  have d8 : decide ((8 : Int) < n) = false := by simpa using h8
  by_cases h1 : (n : Int) < 1
  · go_enter Try.func10, Try.ntmps10
    go_wp2_with fail
    refine (known_any w).mono ?_
    rintro e W1 ⟨rfl, hk0⟩
    go_wp2_with fail
    go_ret
    exact ⟨rfl, hk0⟩
  have d1 : decide ((n : Int) < 1) = false := by simpa using h1
  by_cases hw1 : width < 15
  · go_enter Try.func10, Try.ntmps10
    go_wp2_with fail
    refine (known_any w).mono ?_
    rintro e W1 ⟨rfl, hk0⟩
    go_wp2_with fail
    go_ret
    exact ⟨rfl, hk0⟩
  have dw1 : decide (width < 15) = false := by simpa using hw1
  by_cases hw2 : 300 < width
  · go_enter Try.func10, Try.ntmps10
    go_wp2_with fail
    refine (known_any w).mono ?_
    rintro e W1 ⟨rfl, hk0⟩
    go_wp2_with fail
    go_ret
    exact ⟨rfl, hk0⟩
  have dw2 : decide (300 < width) = false := by simpa using hw2
  have hn : n ≤ 8 := by omega
  have hn1 : 1 ≤ n := by omega
  go_enter Try.func10, Try.ntmps10
  go_wp2_with fail
  clear d8 d1 dw1 dw2 h8 h1
  obtain ⟨W0, hW0⟩ : ∃ W0, W0 = w.alloc (.cells #[.slice none 0 0, .slice none 0 0, .slice none 0 0] 26) := ⟨_, rfl⟩
  have hB0 : Below w.heap.size w W0 := by rw [hW0]; exact (Below.refl w.heap.size w).alloc (Nat.le_refl _) _
  have hX0 : BK W0 w.heap.size 26 #[.slice none 0 0, .slice none 0 0, .slice none 0 0] := by rw [hW0]; exact BK.new w _ _
  rw [← hW0]
  clear hW0
  go_loopw [6, 7] (fun s i wr => ∃ (k : Nat) (A1 : Option Addr) (c1 : Nat), k ≤ n ∧ i = .int .i64 k ∧ s = .int .i64 ((xs.take k).sum) ∧ (∀ y ∈ xs.take k, 1 ≤ y ∧ y ≤ 5000) ∧ BK wr w.heap.size 26 #[.slice A1 k c1, .slice none 0 0, .slice none 0 0] ∧
      OW pC 5 52 (w.heap.size + 1) wr A1 k c1 ((xs.take k).map (mkL width)) ∧ Below w.heap.size w wr)
    (fun _ i _ => n - (intOf i).toNat)
  case atStart => exact ⟨0, none, 0, Nat.zero_le _, rfl, rfl, fun y hy => (by cases hy), hX0, OW.nil_, hB0⟩
  case round =>
    obtain ⟨k, A1, c1, hk, rfl, rfl, hall, hX, hO, hb⟩ := hrel
    have hz := hb.size
    have hxl := hX.lt
    have hsb := sum_bd hall
    have htl : (xs.take k).length ≤ k := List.length_take_le ..
    obtain ⟨S, hS⟩ : ∃ S, S = (xs.take k).sum := ⟨_, rfl⟩
    rw [← hS] at hsb ⊢
    obtain ⟨hs1, hs2⟩ : 0 ≤ S ∧ S ≤ 40000 := by omega
    have x0 := hX.cell 0
    have x1 := hX.cell 1
    have x2 := hX.cell 2
    have xf := hX.frozen 0
    simp only [List.getElem?_toArray, List.getElem?_cons_zero, List.getElem?_cons_succ] at x0 x1 x2
    by_cases hlt : k < n
    · have hkl : k < xs.length := by rw [← hl.out]; exact hlt
      obtain ⟨b, off, hA, hbB, c0⟩ := IS.at_ (h.grow hb hz) (k := k) hkl
      have htk : Hid (xs.take (k + 1) = xs.take k ++ [xs[k]]) := by rw [List.take_add_one, List.getElem?_eq_getElem hkl]; rfl
      generalize xs[k]'hkl = x at c0 htk
      have HALL := Lib.hid hall
      have HSE := Lib.hid hS
      clear hS hsb hall
      subst hA
      by_cases hx1 : x < 1
      · go_wp2_with fail
        refine (known_any wr).mono ?_
        rintro e W1 ⟨rfl, hk0⟩
        go_wp2_with fail
        go_ret
        exact ⟨rfl, hb.trans (hk0.mono hz)⟩
      have e1 : decide (x < 1) = false := by simpa using hx1
      by_cases hx2 : 5000 < x
      · go_wp2_with fail
        refine (known_any wr).mono ?_
        rintro e W1 ⟨rfl, hk0⟩
        go_wp2_with fail
        go_ret
        exact ⟨rfl, hb.trans (hk0.mono hz)⟩
      have e2 : decide (5000 < x) = false := by simpa using hx2
      have hws : IntKind.i64.wrap (S + x) = S + x := IntWalk.i64_in _ (by omega)
      have HFZ : Hid (∀ w3 g c'', App1 pC 5 52 (w.heap.size + 1) (wr.drew.alloc (.cells #[.int .i64 x, .int .i64 0, .int .i64 0, .int .i64 width, .int .i64 1] 52)) A1 k c1 ((xs.take k).map (mkL width)) (mkL width x) g c'' w3 → w3.heap[w.heap.size]? = wr.heap[w.heap.size]?) := by
        intro w3 g c'' hap
        rw [hap.far w.heap.size (by simp; omega) (fun b hb => by have := (hO.lt hb).1; omega)]
        exact Below.heap_alloc wr.drew _ _ hxl
      go_wp2_with fail
      go_region_law ((refine step_app (by rfl) _ _ 22 (by rfl) (w.heap.size + 1) 52 _ 5 40 Try.underlying22 infoP rfl (by decide) pC A1 k c1 _ (by rfl) ((hO.drew).alloc _) (mkL width x) #[.int .i64 x, .int .i64 0, .int .i64 0, .int .i64 width, .int .i64 1] rfl rfl 52 wr.heap.size (by rfl) (BK.new wr.drew _ _) (by simp [mkL, pC, Value.oneCell']) (by omega) (by omega) (by simp; omega) ?_; intro g c'' w3 hap; have HAP := Lib.hid hap; have hf3 := (World.cell?_of_block (HFZ.out w3 _ _ hap)).trans x0; have hf4 := (World.frozen?_of_block (HFZ.out w3 _ _ hap)).trans xf; clear hap))
      all_goals
        go_wp2_with fail
        go_roundw
        case rel =>
          have hap := HAP.out
          have hgl := (hap.own.lt rfl).1
          simp only at hgl
          have hne : ∀ a, (some ⟨g, 0, none⟩ : Option Addr) = some a → a.block ≠ w.heap.size := fun a ha => by cases ha; show g ≠ w.heap.size; omega
          have hbd : Below wr.heap.size wr (wr.drew.alloc (.cells #[.int .i64 x, .int .i64 0, .int .i64 0, .int .i64 width, .int .i64 1] 52)) := ((Below.refl _ wr).drew).alloc (Nat.le_refl _) _
          have hnew : (xs.take (k + 1)).map (mkL width) = (xs.take k).map (mkL width) ++ [mkL width x] := by rw [htk.out]; simp
          refine ⟨k + 1, _, _, by omega, by go_num, ?_, ?_, (hX.same (HFZ.out w3 _ _ hap)).set_ 0 _, ?_, ((hb.trans (hbd.mono hz)).trans (hap.bel.mono (by omega))).setCell (by simp) _⟩
          · rw [htk.out, HSE.out]; simp
          · rw [htk.out]
            intro y hy
            rcases List.mem_append.1 hy with hy | hy
            · exact HALL.out y hy
            · simp at hy; omega
          · rw [hnew]; exact hap.own.setCell hne _
        case measure => simp [intOf]; omega
    · obtain rfl : k = n := by omega
      have htk : xs.take k = xs := by rw [hl.out, List.take_length]
      rw [htk] at hall hS hO
      have hne : xs ≠ [] := fun e => by have := hl.out; rw [e] at this; simp at this; omega
      have hS1 : 1 ≤ S := by
        have h1 := sum_bd hall
        have h2 := hl.out
        rw [← hS] at h1
        omega
      obtain ⟨R, hRe⟩ : ∃ R : Road, R = ⟨xs.map (mkL width), [], []⟩ := ⟨_, rfl⟩
      have hok : OK R := by
        have h1 := sumL_mk width xs
        subst hRe
        refine ⟨?_, ?_, by simp, by simp, fun p hp => ?_, ?_, fun i hi => absurd hi (by simp), fun i hi => absurd hi (by simp)⟩
        · show 1 ≤ (xs.map _).length; rw [List.length_map, ← hl.out]; exact hn1
        · show (xs.map _).length ≤ 2000; rw [List.length_map, ← hl.out]; omega
        · obtain ⟨y, hy, rfl⟩ := List.mem_map.1 hp
          have := hall y hy
          have hw1' : 15 ≤ width := by omega
          have hw2' : width ≤ 300 := by omega
          simp [pOk, mkL, inR, this, hw1', hw2']
        · show sumL (xs.map _) ≤ 100000; rw [h1, ← hS]; omega
      have hnorm : Hid (normP R.ps = cut (mkL width S)) := by
        subst hRe
        show normP (xs.map _) = _
        obtain ⟨y, l, rfl⟩ : ∃ y l, xs = y :: l := by
          cases xs with
          | nil => exact absurd rfl hne
          | cons y l => exact ⟨y, l, rfl⟩
        rw [normP, mrg_mk, ← hS]
        simp
      have hRD : RD wr wr.heap.size A1 k none 0 none 0 R := by
        subst hRe
        exact ⟨(hO.sl pC_len), ⟨rfl, fun h => absurd h (by omega)⟩, ⟨rfl, fun h => absurd h (by omega)⟩⟩
      clear hO hall hne hsb hS htk hRe
      go_wp2_with fail
      refine (Normal_in A1 k c1 none 0 0 none 0 0 R wr hRD hok).mono ?_
      rintro e W1 ⟨pa', pn', pc', ca', cc', ja', jc', rfl, ⟨o1, -, -⟩, hk1⟩
      rw [hnorm.out] at o1
      have hB1 := hb.trans (hk1.mono hz)
      have hz1 := hB1.size
      have hpn : pn' = cutk S + 1 := by have := o1.len; rw [cutk_len] at this; exact this
      have hck := cutk_eq hS1
      have O1 := Lib.hid o1
      clear o1 hok hRD hnorm x0 x1 x2 xf hX
      go_wp2_with fail
      have hzw := hxl
      obtain ⟨W2, hW2⟩ : ∃ W2, W2 = W1.alloc (.cells #[.slice pa' (cutk S + 1) pc', .slice ca' 0 cc', .slice ja' 0 jc'] 26) := ⟨_, rfl⟩
      have hB2 : Below w.heap.size w W2 := by rw [hW2]; exact hB1.alloc hz1 _
      have hK2 : BK W2 W1.heap.size 26 #[.slice pa' (cutk S + 1) pc', .slice ca' 0 cc', .slice ja' 0 jc'] := by rw [hW2]; exact BK.new W1 _ _
      have hO2 := O1.out.alloc (.cells #[.slice pa' (cutk S + 1) pc', .slice ca' 0 cc', .slice ja' 0 jc'] 26)
      rw [← hW2] at hO2
      have HO2 := Lib.hid hO2
      have HK2 := Lib.hid hK2
      have hz2 := hB2.size
      rw [← hW2]
      clear hW2 hO2 hK2 O1 hB1 hz1
      subst hpn
      go_loopw [10] (fun i wr => ∃ j : Nat, j ≤ cutk S + 1 ∧ i = .int .i64 j ∧ Below W2.heap.size W2 wr)
        (fun i _ => cutk S + 1 - (intOf i).toNat)
      case atStart => exact ⟨0, Nat.zero_le _, rfl, Below.refl _ _⟩
      case round =>
        obtain ⟨j, hj, rfl, hb2⟩ := hrel
        have hB3 := hB2.trans (hb2.mono hz2)
        have hK3 := HK2.out.below hb2 HK2.out.lt
        have y0 := hK3.cell 0
        simp only [List.getElem?_toArray, List.getElem?_cons_zero] at y0
        by_cases hjl : j < cutk S + 1
        · obtain ⟨a0, hA0⟩ : ∃ a0, pa' = some a0 := by
            cases pa' with
            | none => have := HO2.out.none_.1; omega
            | some a0 => exact ⟨a0, rfl⟩
          obtain ⟨b0, rfl, hb0, hbb0, hfz, hrow⟩ := (HO2.out.call hb2).at_ pC_len a0 hA0
          have hat := cut_at (mkL width S) hS1 j hjl
          obtain ⟨M, hM⟩ : ∃ M, M = min 5000 (S - 5000 * (j : Int)) := ⟨_, rfl⟩
          have hadr : ∀ i, (0 + j * 5 + i) = j * 5 + i := fun i => by omega
          have d0 : wr.cell? ⟨b0, j * 5, none⟩ = some (.int .i64 M) := by have := hrow j _ hat 0 _ rfl; rw [hadr] at this; rw [hM]; exact this
          have d3 : wr.cell? ⟨b0, j * 5 + 3, none⟩ = some (.int .i64 width) := by have := hrow j _ hat 3 _ rfl; rw [hadr] at this; exact this
          have hj2 : j ≤ 8 := by omega
          have hwm : IntKind.i64.wrap ((j : Int) * 5000) = (j : Int) * 5000 := IntWalk.i64_in _ (by omega)
          have hws : IntKind.i64.wrap (S - (j : Int) * 5000) = S - (j : Int) * 5000 := IntWalk.i64_in _ (by omega)
          have hite : (if S - (j : Int) * 5000 < 5000 then S - (j : Int) * 5000 else 5000) = M := by rw [hM]; split <;> omega
          have hi1 : (0 : Int) ≤ (j : Int) := by omega
          have hi2 : (j : Int) < ((cutk S + 1 : Nat) : Int) := by omega
          subst hA0
          clear hM hat hadr hrow hfz
          go_wp2_with fail
          go_roundw
          case rel => exact ⟨j + 1, by omega, by go_num, hb2⟩
          case measure => simp [intOf]; omega
        · obtain rfl : j = cutk S + 1 := by omega
          go_wp2_with fail
          refine (known_any wr).mono ?_
          rintro e W9 ⟨rfl, hk9⟩
          go_wp2_with fail
          go_ret
          exact ⟨rfl, hB3.trans (hk9.mono hB3.size)⟩
end Go.Proofs.Ytomloklckpcaiaa
