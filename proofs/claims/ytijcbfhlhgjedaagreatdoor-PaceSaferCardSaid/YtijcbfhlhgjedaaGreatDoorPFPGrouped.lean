/- grouped, for pieces that are the same. -/
import Derived.Test.YtijcbfhlhgjedaaGreatDoorPCBBase
import Derived.Test.YtijcbfhlhgjedaaGreatDoorPCBRoad
import Derived.Test.YtijcbfhlhgjedaaGreatDoorPCBLeaf
import Derived.Test.YtijcbfhlhgjedaaGreatDoorPCBCheck
import Derived.Test.YtijcbfhlhgjedaaGreatDoorPCBValid
import Derived.Test.YtijcbfhlhgjedaaGreatDoorPCBFind
import Derived.Test.YtijcbfhlhgjedaaGreatDoorPCBReg
import Derived.Test.YtijcbfhlhgjedaaGreatDoorPCBGrouped
import Derived.Test.YtijcbfhlhgjedaaGreatDoorPCBPG
import Derived.Test.YtijcbfhlhgjedaaGreatDoorPCBStr
import Derived.Test.YtijcbfhlhgjedaaGreatDoorPCBCmp
import Derived.Test.YtijcbfhlhgjedaaGreatDoorPCBOpen
import Derived.Test.YtijcbfhlhgjedaaGreatDoorPCBReg7
import Derived.Test.YtijcbfhlhgjedaaGreatDoorPCPRow
import Derived.Test.YtijcbfhlhgjedaaGreatDoorPCMtr
import Derived.Test.YtijcbfhlhgjedaaGreatDoorPCReg8
import Derived.Test.YtijcbfhlhgjedaaGreatDoorPCSpCk
import Derived.Test.YtijcbfhlhgjedaaGreatDoorPCPlanM
import Derived.Test.YtijcbfhlhgjedaaGreatDoorPCLast
import Derived.Test.YtijcbfhlhgjedaaGreatDoorPCBeg
import Derived.Test.YtijcbfhlhgjedaaGreatDoorPCRoom
import Derived.Test.YtijcbfhlhgjedaaGreatDoorPCCallsB
import Derived.Test.YtijcbfhlhgjedaaGreatDoorPCPlan
import Derived.Test.YtijcbfhlhgjedaaGreatDoorPCBetw
import Derived.Test.YtijcbfhlhgjedaaGreatDoorPCKn03P
import Derived.Test.YtijcbfhlhgjedaaGreatDoorPCRef3
import Derived.Test.YtijcbfhlhgjedaaGreatDoorPFReg
import Derived.Test.YtijcbfhlhgjedaaGreatDoorPFRev
import Derived.Deep.RegionLaw
namespace Go.Proofs.YtijcbfhlhgjedaaGreatDoor
open Go.RowKit Go.Shelf Go.Sort Go.Proofs

theorem addP_flat (gs : List (List Piece)) (x : Piece) : (addP gs x).flatten = gs.flatten ++ [x] := by
  unfold addP
  split
  · rename_i y hy
    split
    · cases hg : gs.getLast? with
      | none => rw [hg] at hy; cases hy
      | some g =>
        obtain ⟨ds, rfl⟩ : ∃ ds, gs = ds ++ [g] := ⟨gs.dropLast, by rw [List.getLast?_eq_some_iff] at hg; obtain ⟨d, rfl⟩ := hg; simp⟩
        simp
    · simp
  · simp
theorem grpP_flat (l : List Piece) : (grpP l).flatten = l := by
  have key : ∀ (l : List Piece) (gs : List (List Piece)), (l.foldl (addP) gs).flatten = gs.flatten ++ l := by
    intro l
    induction l with
    | nil => intro gs; simp
    | cons x l ih => intro gs; rw [List.foldl_cons, ih, addP_flat]; simp
  have := key l []
  simpa [grpP] using this
theorem addP_len (gs : List (List Piece)) (x : Piece) : (addP gs x).length ≤ gs.length + 1 := by
  unfold addP
  split
  · split
    · simp
    · simp
  · simp
theorem grpP_len (l : List Piece) : (grpP l).length ≤ l.length := by
  have key : ∀ (l : List Piece) (gs : List (List Piece)), (l.foldl (addP) gs).length ≤ gs.length + l.length := by
    intro l
    induction l with
    | nil => intro gs; simp
    | cons x l ih => intro gs; rw [List.foldl_cons, List.length_cons]; have := ih (addP gs x); have := addP_len gs x; omega
  have := key l []
  simpa [grpP] using this
theorem grpP_part (l : List Piece) {g : List Piece} (h : g ∈ grpP l) : g.length ≤ l.length := by
  rw [← grpP_flat l]
  conv => rhs; rw [grpP_flat]
  have h2 : g.length ≤ (grpP l).flatten.length := by
    obtain ⟨s, t, e⟩ := List.append_of_mem h
    rw [e]; simp; omega
  rwa [grpP_flat] at h2
set_option maxRecDepth 100000 in
set_option maxHeartbeats 4000000 in
theorem groupedP_any (A : Option Addr) (n c : Nat) (bs : List Piece) (w : World) (hb : SL pC 5 w w.heap.size A n bs) (hn : n ≤ 100000) :
    Calls Tryz.prog 68 #[.slice A n c, .func (.func 69) #[] #[]] w fun e w' =>
      ∃ A' n' c' gs, e = .returned (.slice A' n' c') ∧ GP w' w.heap.size A' n' c' gs ∧ gs.map (·.2) = grpP bs ∧ Below w.heap.size w w' := by
  have hlb := Lib.hid hb.1
  have hmo : Tryz.prog.follows .mixedOrders = true := by kernel_rfl
  go_enter Tryz.func68, Tryz.ntmps68
  go_wp2_with fail
  go_loopw [5, 10] (fun o i wr => ∃ (k : Nat) (A' : Option Addr) (n' c' : Nat) (gs : List (Hdr × List Piece)), k ≤ n ∧ i = .int .i64 k ∧ o = .slice A' n' c' ∧ GP wr w.heap.size A' n' c' gs ∧ Hid (gs.map (·.2) = grpP (bs.take k)) ∧ Below w.heap.size w wr)
    (fun _ i _ => n - (intOf i).toNat)
  case atStart => exact ⟨0, none, 0, 0, [], Nat.zero_le _, rfl, rfl, GP.nil_ _ _, rfl, Below.refl _ _⟩
  case round =>
    obtain ⟨k, A', n', c', gs, hk, rfl, rfl, hG, hgs, hbr⟩ := hrel
    have hsz := hbr.size
    by_cases hlt : k < n
    · have hkl : k < bs.length := by rw [← hlb.out]; exact hlt
      obtain ⟨b, off, hA, hbB, hcells⟩ := (hb.grow hbr hsz).at_ hkl
      have c0 : wr.cell? ⟨b, off + k * 5, none⟩ = some (.int .i64 bs[k].len) := hcells 0 _ rfl
      have c1 : wr.cell? ⟨b, off + k * 5 + 1, none⟩ = some (.int .i64 bs[k].turn) := hcells 1 _ rfl
      have c2 : wr.cell? ⟨b, off + k * 5 + 2, none⟩ = some (.int .i64 bs[k].rad) := hcells 2 _ rfl
      have c3 : wr.cell? ⟨b, off + k * 5 + 3, none⟩ = some (.int .i64 bs[k].wid) := hcells 3 _ rfl
      have c4 : wr.cell? ⟨b, off + k * 5 + 4, none⟩ = some (.int .i64 bs[k].sur) := hcells 4 _ rfl
      have htk : bs.take (k + 1) = bs.take k ++ [bs[k]] := by rw [List.take_add_one, List.getElem?_eq_getElem hkl]; rfl
      have hgl : gs.length ≤ k := by
        have h1 := congrArg List.length hgs.out
        have h2 := grpP_len (bs.take k)
        rw [List.length_map] at h1
        have h3 : (bs.take k).length ≤ k := List.length_take_le ..
        omega
      have hnl : n' ≤ k := by have := hG.out.len; rw [List.length_map] at this; omega
      have hprev : 0 < k → ∃ (y : Piece) (dsP : List (Hdr × List Piece)) (qq : Hdr × List Piece) (g0 : List Piece), gs = dsP ++ [qq] ∧ qq.2 = g0 ++ [y] ∧ Hid (dsP.map (·.2) ++ [g0 ++ [y]] = grpP (bs.take k)) ∧
          wr.cell? ⟨b, off + (k - 1) * 5, none⟩ = some (.int .i64 y.len) ∧ wr.cell? ⟨b, off + (k - 1) * 5 + 1, none⟩ = some (.int .i64 y.turn) ∧ wr.cell? ⟨b, off + (k - 1) * 5 + 2, none⟩ = some (.int .i64 y.rad) ∧
          wr.cell? ⟨b, off + (k - 1) * 5 + 3, none⟩ = some (.int .i64 y.wid) ∧ wr.cell? ⟨b, off + (k - 1) * 5 + 4, none⟩ = some (.int .i64 y.sur) := by
        intro h0
        have hk1 : k - 1 < bs.length := by omega
        obtain ⟨b', off', hA', _, hc'⟩ := (hb.grow hbr hsz).at_ hk1
        rw [hA] at hA'
        cases hA'
        have e1 : bs.take k = bs.take (k - 1) ++ [bs[k - 1]] := by
          have : bs.take (k - 1 + 1) = bs.take (k - 1) ++ [bs[k - 1]] := by rw [List.take_add_one, List.getElem?_eq_getElem hk1]; rfl
          rwa [show k - 1 + 1 = k by omega] at this
        obtain ⟨ds, g, e2⟩ := grpP_last (bs.take (k - 1)) bs[k - 1]
        have e3 := hgs.out
        rw [e1, e2] at e3
        obtain ⟨dsP, q1, rfl, e4, e5⟩ := List.map_eq_append_iff.1 e3
        obtain ⟨qq, rfl, e6⟩ := List.map_eq_singleton_iff.1 e5
        exact ⟨bs[k - 1], dsP, qq, g, rfl, e6, by rw [e1, e2, e4]; exact rfl, hc' 0 _ rfl, hc' 1 _ rfl, hc' 2 _ rfl, hc' 3 _ rfl, hc' 4 _ rfl⟩
      have hnew : Hid (grpP (bs.take (k + 1)) = addP (grpP (bs.take k)) bs[k]) := by rw [htk]; exact grpP_snoc _ _
      generalize bs[k]'hkl = x at c0 c1 c2 c3 c4 htk hnew
      subst hA
      clear hcells htk
      have hG1 := hG.call ((Below.refl wr.heap.size wr).alloc (Nat.le_refl _) (.cells #[.int .i64 x.len, .int .i64 x.turn, .int .i64 x.rad, .int .i64 x.wid, .int .i64 x.sur] 72))
      go_wp2_with fail
      by_cases hk0 : k = 0
      · go_quiet (fail)
        obtain ⟨w2, hw2⟩ : ∃ w2, w2 = (wr.alloc (.cells #[.int .i64 x.len, .int .i64 x.turn, .int .i64 x.rad, .int .i64 x.wid, .int .i64 x.sur] 72)).drewN nq := ⟨_, rfl⟩
        have hb2 : Below wr.heap.size wr w2 := by rw [hw2]; exact below_drewN ((Below.refl _ _).alloc (Nat.le_refl _) _) _
        have HG2 : Hid (GP w2 w.heap.size A' n' c' gs) := hG.call hb2
        have HX2 : Hid (BK w2 wr.heap.size 72 #[.int .i64 x.len, .int .i64 x.turn, .int .i64 x.rad, .int .i64 x.wid, .int .i64 x.sur]) := by rw [hw2]; exact (BK.new wr _ _).drewN nq
        have HB2 : Hid (Below w.heap.size w w2) := hbr.trans (hb2.mono hsz)
        have hsz2b : wr.heap.size < w2.heap.size := HX2.out.lt
        have Hnew7 : Hid ((gs ++ [(⟨some ⟨w2.heap.size, 0, none⟩, 1, 1⟩, [x])] : List (Hdr × List Piece)).map (·.2) = grpP (bs.take (k + 1))) := by
          have h1 := hgs.out
          subst hk0
          have : gs = [] := by simpa [grpP] using h1
          subst this
          rw [hnew.out]
          exact rfl
        rw [← hw2]
        clear hw2 hprev hnew hgs hG hG1 c0 c1 c2 c3 c4
        have hX2 : BK w2 wr.heap.size 72 #[.int .i64 x.len, .int .i64 x.turn, .int .i64 x.rad, .int .i64 x.wid, .int .i64 x.sur] := HX2.out
        have x0 := hX2.cell 0
        have x1 := hX2.cell 1
        have x2 := hX2.cell 2
        have x3 := hX2.cell 3
        have x4 := hX2.cell 4
        simp only [List.getElem?_toArray, List.getElem?_cons_zero, List.getElem?_cons_succ] at x0 x1 x2 x3 x4
        have hsz2 := HB2.out.size
        have hN1 : BK ((w2.alloc (.cells #[.int .i64 x.len, .int .i64 x.turn, .int .i64 x.rad, .int .i64 x.wid, .int .i64 x.sur] 72)).alloc (.cells #[.slice (some ⟨w2.heap.size, 0, none⟩) 1 1] 22)) (w2.heap.size + 1) 22 #[.slice (some ⟨w2.heap.size, 0, none⟩) 1 1] := by
          have := BK.new (w2.alloc (.cells #[.int .i64 x.len, .int .i64 x.turn, .int .i64 x.rad, .int .i64 x.wid, .int .i64 x.sur] 72)) 22 #[.slice (some ⟨w2.heap.size, 0, none⟩) 1 1]
          rw [World.size_alloc] at this
          exact this
        have hN0 : BK ((w2.alloc (.cells #[.int .i64 x.len, .int .i64 x.turn, .int .i64 x.rad, .int .i64 x.wid, .int .i64 x.sur] 72)).alloc (.cells #[.slice (some ⟨w2.heap.size, 0, none⟩) 1 1] 22)) w2.heap.size 72 #[.int .i64 x.len, .int .i64 x.turn, .int .i64 x.rad, .int .i64 x.wid, .int .i64 x.sur] := (BK.new w2 _ _).alloc _
        have hbb := ((Below.refl w2.heap.size w2).alloc (Nat.le_refl _) (.cells #[.int .i64 x.len, .int .i64 x.turn, .int .i64 x.rad, .int .i64 x.wid, .int .i64 x.sur] 72)).alloc (by simp) (.cells #[.slice (some ⟨w2.heap.size, 0, none⟩) 1 1] 22)
        have hGo := ((HG2.out).call hbb).out
        go_wp2_with (at_builtin; refine wpList_app rfl _ _ 153 rfl w.heap.size 22 _ 1 24 Tryz.underlying153 infoPs rfl (by decide) hC A' n' c' (gs.map (·.1)) rfl hGo ⟨some ⟨w2.heap.size, 0, none⟩, 1, 1⟩ #[.slice (some ⟨w2.heap.size, 0, none⟩) 1 1] rfl rfl 22 (w2.heap.size + 1) rfl hN1 (by simp [hC, Value.oneCell']) (by omega) (by omega) (by simp; omega) ?_; intro g c'' w3 hap; have HAP := Lib.hid hap; clear hap)
        go_roundw
        case rel =>
          have hap := HAP.out
          have hAA : ∀ b, A' = some b → b.block < w2.heap.size := fun b hb => (HG2.out.out.lt hb).2
          refine ⟨k + 1, _, _, _, gs ++ [(⟨some ⟨w2.heap.size, 0, none⟩, 1, 1⟩, [x])], hlt, by go_num, rfl, HG2.out.push (Nat.le_refl _) (fun j hj hne => ?_) ((OW.one hN0 rfl rfl (by omega)).keep (fun g hg => ?_)) hap.own ?_, ?_, (HB2.out.trans (hbb.mono hsz2)).trans hap.bel⟩
          · rw [hap.far j (by simp; omega) hne]; exact hbb.block j hj
          · cases hg
            exact hap.far _ (by simp; omega) (fun b hb e => by have := hAA b hb; simp only at e; omega)
          · rcases hap.at_ with h | h
            · exact .inl h
            · exact .inr (by rw [h]; simp only [World.size_alloc]; omega)
          · exact Hnew7.out
        case measure => simp [intOf]; omega
      · obtain ⟨y, dsP, qq, g0, hgsE, hqq, hcat, d0, d1, d2, d3, d4⟩ := hprev (by omega)
        obtain ⟨w1, hw1⟩ : ∃ w1, w1 = wr.alloc (.cells #[.int .i64 x.len, .int .i64 x.turn, .int .i64 x.rad, .int .i64 x.wid, .int .i64 x.sur] 72) := ⟨_, rfl⟩
        have hb1 : Below wr.heap.size wr w1 := by rw [hw1]; exact (Below.refl _ _).alloc (Nat.le_refl _) _
        have hX1 : BK w1 wr.heap.size 72 #[.int .i64 x.len, .int .i64 x.turn, .int .i64 x.rad, .int .i64 x.wid, .int .i64 x.sur] := by rw [hw1]; exact BK.new wr _ _
        rw [← hw1]
        clear hw1
        have x0 := hX1.cell 0
        have x1 := hX1.cell 1
        have x2 := hX1.cell 2
        have x3 := hX1.cell 3
        have x4 := hX1.cell 4
        simp only [List.getElem?_toArray, List.getElem?_cons_zero, List.getElem?_cons_succ] at x0 x1 x2 x3 x4
        have d0 := (bc hb1 hbB).trans d0
        have d1 := (bc hb1 hbB).trans d1
        have d2 := (bc hb1 hbB).trans d2
        have d3 := (bc hb1 hbB).trans d3
        have d4 := (bc hb1 hbB).trans d4
        have k0 := fun d os => cell_regrown d0 d os
        have k1 := fun d os => cell_regrown d1 d os
        have k2 := fun d os => cell_regrown d2 d os
        have k3 := fun d os => cell_regrown d3 d os
        have k4 := fun d os => cell_regrown d4 d os
        have l0 := fun d os => cell_regrown x0 d os
        have l1 := fun d os => cell_regrown x1 d os
        have l2 := fun d os => cell_regrown x2 d os
        have l3 := fun d os => cell_regrown x3 d os
        have l4 := fun d os => cell_regrown x4 d os
        have HT := Lib.hid (fun (W : World) => same_any y x W)
        have hk1 : 0 < k := by omega
        have hwk : IntKind.i64.wrap ((k : Int) - 1) = (k : Int) - 1 := IntWalk.i64_in _ (by omega)
        have hik1 : (1 : Int) ≤ (k : Int) := by omega
        have hik2 : (k : Int) - 1 < n := by omega
        have hik3 : ((k : Int) - 1).toNat = k - 1 := by omega
        refine wp_region_qt 11 hmo (by kernel_rfl) ?_
        simp only [List.take_succ_cons, List.take_zero, List.drop_succ_cons, List.drop_zero]
        repeat (quiet_step ((go_at_call 69; exact Calls.regrown_of (HT.out _))))
        refine wpQuiet_nil ?_
        intro w2 hbw
        have hbw2 : Below wr.heap.size wr w2 := hb1.trans (hbw.mono hb1.size)
        have HG2 : Hid (GP w2 w.heap.size A' n' c' gs) := hG.call hbw2
        have HX2 : Hid (BK w2 wr.heap.size 72 #[.int .i64 x.len, .int .i64 x.turn, .int .i64 x.rad, .int .i64 x.wid, .int .i64 x.sur]) := hX1.below hbw hX1.lt
        have HB2 : Hid (Below w.heap.size w w2) := hbr.trans (hbw2.mono hsz)
        have hsz2b : wr.heap.size < w2.heap.size := HX2.out.lt
        have HE := Lib.hid hgsE
        have HQ := Lib.hid hqq
        clear hprev hgs hG hG1 c0 c1 c2 c3 c4 d0 d1 d2 d3 d4 k0 k1 k2 k3 k4 l0 l1 l2 l3 l4 x0 x1 x2 x3 x4 hwk hik1 hik2 hik3 HT hbw hb1 hX1  hgsE hqq
        cases htg : alk y x
        · have Hnew7 : Hid ((gs ++ [(⟨some ⟨w2.heap.size, 0, none⟩, 1, 1⟩, [x])] : List (Hdr × List Piece)).map (·.2) = grpP (bs.take (k + 1))) := by
            rw [hnew.out, ← hcat.out, addP_at, htg, HE.out]
            show _ = _
            simp [HQ.out]
          clear hnew hcat htg
          have hX2 : BK w2 wr.heap.size 72 #[.int .i64 x.len, .int .i64 x.turn, .int .i64 x.rad, .int .i64 x.wid, .int .i64 x.sur] := HX2.out
          have x0 := hX2.cell 0
          have x1 := hX2.cell 1
          have x2 := hX2.cell 2
          have x3 := hX2.cell 3
          have x4 := hX2.cell 4
          simp only [List.getElem?_toArray, List.getElem?_cons_zero, List.getElem?_cons_succ] at x0 x1 x2 x3 x4
          have hsz2 := HB2.out.size
          have hN1 : BK ((w2.alloc (.cells #[.int .i64 x.len, .int .i64 x.turn, .int .i64 x.rad, .int .i64 x.wid, .int .i64 x.sur] 72)).alloc (.cells #[.slice (some ⟨w2.heap.size, 0, none⟩) 1 1] 22)) (w2.heap.size + 1) 22 #[.slice (some ⟨w2.heap.size, 0, none⟩) 1 1] := by
            have := BK.new (w2.alloc (.cells #[.int .i64 x.len, .int .i64 x.turn, .int .i64 x.rad, .int .i64 x.wid, .int .i64 x.sur] 72)) 22 #[.slice (some ⟨w2.heap.size, 0, none⟩) 1 1]
            rw [World.size_alloc] at this
            exact this
          have hN0 : BK ((w2.alloc (.cells #[.int .i64 x.len, .int .i64 x.turn, .int .i64 x.rad, .int .i64 x.wid, .int .i64 x.sur] 72)).alloc (.cells #[.slice (some ⟨w2.heap.size, 0, none⟩) 1 1] 22)) w2.heap.size 72 #[.int .i64 x.len, .int .i64 x.turn, .int .i64 x.rad, .int .i64 x.wid, .int .i64 x.sur] := (BK.new w2 _ _).alloc _
          have hbb := ((Below.refl w2.heap.size w2).alloc (Nat.le_refl _) (.cells #[.int .i64 x.len, .int .i64 x.turn, .int .i64 x.rad, .int .i64 x.wid, .int .i64 x.sur] 72)).alloc (by simp) (.cells #[.slice (some ⟨w2.heap.size, 0, none⟩) 1 1] 22)
          have hGo := ((HG2.out).call hbb).out
          go_wp2_with (at_builtin; refine wpList_app rfl _ _ 153 rfl w.heap.size 22 _ 1 24 Tryz.underlying153 infoPs rfl (by decide) hC A' n' c' (gs.map (·.1)) rfl hGo ⟨some ⟨w2.heap.size, 0, none⟩, 1, 1⟩ #[.slice (some ⟨w2.heap.size, 0, none⟩) 1 1] rfl rfl 22 (w2.heap.size + 1) rfl hN1 (by simp [hC, Value.oneCell']) (by omega) (by omega) (by simp; omega) ?_; intro g c'' w3 hap; have HAP := Lib.hid hap; clear hap)
          go_roundw
          case rel =>
            have hap := HAP.out
            have hAA : ∀ b, A' = some b → b.block < w2.heap.size := fun b hb => (HG2.out.out.lt hb).2
            refine ⟨k + 1, _, _, _, gs ++ [(⟨some ⟨w2.heap.size, 0, none⟩, 1, 1⟩, [x])], hlt, by go_num, rfl, HG2.out.push (Nat.le_refl _) (fun j hj hne => ?_) ((OW.one hN0 rfl rfl (by omega)).keep (fun g hg => ?_)) hap.own ?_, ?_, (HB2.out.trans (hbb.mono hsz2)).trans hap.bel⟩
            · rw [hap.far j (by simp; omega) hne]; exact hbb.block j hj
            · cases hg
              exact hap.far _ (by simp; omega) (fun b hb e => by have := hAA b hb; simp only at e; omega)
            · rcases hap.at_ with h | h
              · exact .inl h
              · exact .inr (by rw [h]; simp only [World.size_alloc]; omega)
            · exact Hnew7.out
          case measure => simp [intOf]; omega
        · have Hnew6 : Hid (∀ h : Hdr, (dsP ++ [(h, qq.2 ++ [x])] : List (Hdr × List Piece)).map (·.2) = grpP (bs.take (k + 1))) := by
            intro h
            rw [hnew.out, ← hcat.out, addP_at, htg]
            simp [HQ.out]
          clear hnew hcat htg
          have hg2 := HG2.out
          rw [HE.out] at hg2
          have hqm : qq ∈ dsP ++ [qq] := by simp
          have hOq := (hg2.grp qq hqm).1
          have hOq2 : qq.1.n ≤ k := by
            have h1 := hOq.len
            have h2 := grpP_part (bs.take (k + 1)) (g := qq.2 ++ [x]) (by rw [← Hnew6.out ⟨none, 0, 0⟩]; simp)
            have h3 : (bs.take (k + 1)).length ≤ k + 1 := List.length_take_le ..
            simp at h2
            omega
          have hnn : n' = dsP.length + 1 := by have := hg2.out.len; simpa using this
          obtain ⟨a0, hA0⟩ : ∃ a0, A' = some a0 := by
            cases A' with
            | none => have := hg2.out.none_.1; omega
            | some a0 => exact ⟨a0, rfl⟩
          obtain ⟨b0, rfl, hb0, hbb0, hfz, hrow⟩ := hg2.out.at_ hC_len a0 hA0
          subst hA0
          have hh := hrow (n' - 1) qq.1 (by rw [hnn]; simp) 0 _ rfl
          have hfh := hfz (n' - 1)
          have hX2 : BK w2 wr.heap.size 72 #[.int .i64 x.len, .int .i64 x.turn, .int .i64 x.rad, .int .i64 x.wid, .int .i64 x.sur] := HX2.out
          have x0 := hX2.cell 0
          have x1 := hX2.cell 1
          have x2 := hX2.cell 2
          have x3 := hX2.cell 3
          have x4 := hX2.cell 4
          simp only [List.getElem?_toArray, List.getElem?_cons_zero, List.getElem?_cons_succ] at x0 x1 x2 x3 x4
          obtain ⟨⟨qA, qn, qc⟩, ql⟩ := qq
          have hh : w2.cell? ⟨b0, n' - 1, none⟩ = some (.slice qA qn qc) := by rw [← hh]; congr 1; simp
          have hOq : OW pC 5 72 w.heap.size w2 qA qn qc ql := hOq
          have hOq2 : qn ≤ k := hOq2
          have hi1 : (1 : Int) ≤ (n' : Int) := by omega
          have hi2 : (n' : Int) - 1 < n' := by omega
          have hi3 : ((n' : Int) - 1).toNat = n' - 1 := by omega
          have hwn : IntKind.i64.wrap ((n' : Int) - 1) = (n' : Int) - 1 := IntWalk.i64_in _ (by omega)
          have HFZ : Hid (∀ w3 g c'', App1 pC 5 72 w.heap.size (w2.drew.alloc (.cells #[.int .i64 x.len, .int .i64 x.turn, .int .i64 x.rad, .int .i64 x.wid, .int .i64 x.sur] 72)) qA qn qc ql x g c'' w3 → w3.heap[b0]? = w2.heap[b0]?) := by
            intro w3 g c'' hap
            rw [hap.far b0 (by simp; omega) (fun b hb => hg2.off _ hqm b _ hb rfl)]
            exact Below.heap_alloc w2.drew _ _ hb0
          have HNN := Lib.hid hnn
          clear hnn
          go_wp2_with fail
          go_region_law ((refine step_app (by rfl) _ _ 22 (by rfl) w.heap.size 72 _ 5 40 Tryz.underlying22 infoP rfl (by decide) pC qA qn qc ql (by rfl) ((hOq.drew).alloc _) x #[.int .i64 x.len, .int .i64 x.turn, .int .i64 x.rad, .int .i64 x.wid, .int .i64 x.sur] rfl rfl 72 w2.heap.size (by rfl) (BK.new w2.drew _ _) (by simp [pC, pC, Value.oneCell']) (by omega) (by omega) (by simp; omega) ?_; intro g c'' w3 hap; have HAP := Lib.hid hap; have hf3 := (World.cell?_of_block (HFZ.out w3 _ _ hap)).trans hh; have hf4 := (World.frozen?_of_block (HFZ.out w3 _ _ hap)).trans hfh; clear hap))
          all_goals
            go_wp2_with fail
            go_roundw
            case rel =>
              have hap := HAP.out
              have hbd2 : Below w2.heap.size w2 (w2.drew.alloc (.cells #[.int .i64 x.len, .int .i64 x.turn, .int .i64 x.rad, .int .i64 x.wid, .int .i64 x.sur] 72)) := ((Below.refl _ w2).drew).alloc (Nat.le_refl _) _
              refine ⟨k + 1, _, _, _, _, hlt, by go_num, rfl, (hg2.call hbd2).more hap b0 rfl ?_ (fun j hj => Below.heap_setCell _ _ _ _ hj), Hnew6.out _, ?_⟩
              · have h1 := hg2.out.keep (w' := w3) (fun a ha => by cases ha; exact HFZ.out w3 _ _ hap)
                have h2 := h1.set1 hC_len (n' - 1) ⟨some ⟨g, 0, none⟩, qn + 1, c''⟩ _ rfl
                have e1 : ((dsP ++ [(⟨qA, qn, qc⟩, ql)] : List (Hdr × List Piece)).map (·.1)).set (n' - 1) ⟨some ⟨g, 0, none⟩, qn + 1, c''⟩ = dsP.map (·.1) ++ [⟨some ⟨g, 0, none⟩, qn + 1, c''⟩] := by
                  rw [HNN.out]; simp
                rw [e1] at h2
                exact h2
              · exact ((HB2.out.trans (hbd2.mono HB2.out.size)).trans hap.bel).setCell hbb0 _
            case measure => simp [intOf]; omega
    · obtain rfl : k = n := by omega
      have hgs' : Hid (gs.map (·.2) = grpP bs) := by have := hgs.out; rw [hlb.out, List.take_length] at this; exact this
      go_wp2_with fail
      go_ret
      exact ⟨_, _, _, gs, rfl, hG, hgs'.out, hbr⟩
end Go.Proofs.YtijcbfhlhgjedaaGreatDoor

/- runs: the normal pieces of a list. -/
namespace Go.Proofs.YtijcbfhlhgjedaaGreatDoor
open Go.RowKit Go.Shelf Go.Sort Go.Proofs

theorem sumL_bd5 : ∀ {g : List Piece}, (∀ q ∈ g, 1 ≤ q.len ∧ q.len ≤ 5000) → (g.length : Int) ≤ sumL g ∧ sumL g ≤ 5000 * g.length
  | [], _ => by simp [sumL]
  | p :: g, h => by
    have h1 := sumL_bd5 (fun q hq => h q (List.mem_cons_of_mem _ hq))
    have h2 := h p (List.mem_cons_self ..)
    rw [sumL_cons, List.length_cons]; omega
theorem cuts_len : ∀ {gs : List (List Piece)}, (∀ g ∈ gs, g ≠ [] ∧ ∀ q ∈ g, 1 ≤ q.len ∧ q.len ≤ 5000) → ((gs.map hs).flatMap cut).length ≤ gs.flatten.length
  | [], _ => by simp
  | g :: gs, h => by
    have h1 := cuts_len (fun q hq => h q (List.mem_cons_of_mem _ hq))
    obtain ⟨h2, h3⟩ := h g (List.mem_cons_self ..)
    have h4 := sumL_bd5 h3
    have h5 := List.length_pos_iff.2 h2
    have h6 := cutk_eq (n := sumL g) (by omega)
    rw [List.map_cons, List.flatMap_cons, List.flatten_cons, List.length_append, List.length_append, cutk_len, hs_len]
    omega
theorem take_flat (gs : List (List Piece)) (k : Nat) : (gs.take k).flatten.length ≤ gs.flatten.length := by
  conv => rhs; rw [← List.take_append_drop k gs, List.flatten_append, List.length_append]
  omega
theorem grpP_mem {ps g : List Piece} (h : g ∈ grpP ps) {q : Piece} (hq : q ∈ g) : q ∈ ps := by
  rw [← grpP_flat ps]; exact List.mem_flatten.2 ⟨g, h, hq⟩
set_option maxRecDepth 100000 in
set_option maxHeartbeats 4000000 in
theorem runs_in (A : Option Addr) (n c : Nat) (ps : List Piece) (w : World) (hb : SL pC 5 w w.heap.size A n ps) (hp : ∀ q ∈ ps, 1 ≤ q.len ∧ q.len ≤ 5000) (hn : n ≤ 2000) :
    Calls Tryz.prog 29 #[.slice A n c] w fun e w' => ∃ A' n' c', e = .returned (.slice A' n' c') ∧ OW pC 5 72 w.heap.size w' A' n' c' (normP ps) ∧ Below w.heap.size w w' := by
  have hl := Lib.hid hb.1
  have hp' := Lib.hid hp
  clear hp
  go_enter Tryz.func29, Tryz.ntmps29
  go_wp2_with fail
  refine (groupedP_any A n c ps w hb (by omega)).mono ?_
  rintro e W3 ⟨A', n', c', gs, rfl, hG, hgs, hb3⟩
  have hGS := Lib.hid hgs
  have hn' : n' ≤ 2000 := by
    have h1 := hG.out.len
    have h2 := congrArg List.length hgs
    have h3 := grpP_len ps
    have h4 := hl.out
    simp only [List.length_map] at h1 h2
    omega
  have hcb : Hid (∀ k, ((((gs.map (·.2)).take k).map hs).flatMap cut).length ≤ 2000) := fun k => by
    have h1 := cuts_len (gs := (gs.map (·.2)).take k) (fun g hg => by
      rw [hgs] at hg
      have hg := List.mem_of_mem_take hg
      exact ⟨grpP_ne hg, fun q hq => hp'.out q (grpP_mem hg hq)⟩)
    have h2 := take_flat (gs.map (·.2)) k
    rw [hgs, grpP_flat] at h2
    rw [hgs] at h1 ⊢
    have := hl.out
    omega
  clear hgs
  go_wp2_with fail
  go_loopw [3, 13] (fun o i wr => ∃ (k : Nat) (A1 : Option Addr) (n1 c1 : Nat), k ≤ n' ∧ i = .int .i64 k ∧ o = .slice A1 n1 c1 ∧ OW pC 5 72 W3.heap.size wr A1 n1 c1 ((((gs.map (·.2)).take k).map hs).flatMap cut) ∧ Below W3.heap.size W3 wr)
    (fun _ i _ => n' - (intOf i).toNat)
  case atStart => exact ⟨0, none, 0, 0, Nat.zero_le _, rfl, rfl, OW.nil_, Below.refl _ _⟩
  case round =>
    obtain ⟨k, A1, n1, c1, hk, rfl, rfl, hO, hb⟩ := hrel
    have hsz := hb.size
    have hn1 : n1 ≤ 2000 := by have := hO.len; have := hcb.out k; omega
    by_cases hlt : k < n'
    · have hkl : k < gs.length := by have := hG.out.len; rw [List.length_map] at this; omega
      have hG' := hG.call hb
      obtain ⟨qq, hqq⟩ : ∃ qq, qq = gs[k] := ⟨_, rfl⟩
      obtain ⟨⟨gA, gn, gc⟩, gl⟩ := qq
      have hqm : gs[k] ∈ gs := List.getElem_mem hkl
      have hgrp := hG'.grp _ hqm
      have hqk : gs[k]? = some (⟨gA, gn, gc⟩, gl) := by rw [List.getElem?_eq_getElem hkl, hqq]
      rw [← hqq] at hgrp
      simp only at hgrp
      obtain ⟨hOg, hne⟩ := hgrp
      obtain ⟨a0, hA0⟩ : ∃ a0, A' = some a0 := by
        cases A' with
        | none => have := hG.out.none_.1; omega
        | some a0 => exact ⟨a0, rfl⟩
      obtain ⟨b0', rfl, hb0, hbb0, hfz, hrow⟩ := hG'.out.at_ hC_len a0 hA0
      have hh0 := hrow k ⟨gA, gn, gc⟩ (by rw [List.getElem?_map, hqk]; rfl) 0 _ rfl
      have hh : wr.cell? ⟨b0', k, none⟩ = some (.slice gA gn gc) := by rw [← hh0]; congr 1; simp
      clear hh0 hrow hfz
      have hgn := hOg.len
      have hgpos : 0 < gn := by rw [hgn]; exact List.length_pos_iff.2 hne
      obtain ⟨a1, hA1⟩ : ∃ a1, gA = some a1 := by
        cases gA with
        | none => have := hOg.none_.1; omega
        | some a1 => exact ⟨a1, rfl⟩
      obtain ⟨gb, rfl, hgb0, hgbb, hfz, hrow⟩ := hOg.at_ pC_len a1 hA1
      have hglm : gl ∈ grpP ps := by
        rw [← hGS.out]
        exact List.mem_map.2 ⟨_, List.mem_iff_getElem?.2 ⟨k, hqk⟩, rfl⟩
      have hgok : Hid (∀ e ∈ gl, 1 ≤ e.len ∧ e.len ≤ 5000) := fun e he => hp'.out e (grpP_mem hglm he)
      have hgln : gn ≤ 2000 := by
        have h1 := grpP_part _ hglm
        have h3 := hl.out
        omega
      obtain ⟨x0, gt, hx0⟩ : ∃ x0 gt, gl = x0 :: gt := by
        cases gl with
        | nil => exact absurd rfl hne
        | cons x gt => exact ⟨x, gt, rfl⟩
      have hhs : Hid (hs gl = { x0 with len := sumL gl }) := by rw [hx0]; exact rfl
      have hSb := sumL_bd5 hgok.out
      have hat0 : gl[0]? = some x0 := by rw [hx0]; rfl
      have hnk : Hid ((((gs.map (·.2)).take (k + 1)).map hs).flatMap cut = ((((gs.map (·.2)).take k).map hs).flatMap cut) ++ cut (hs gl)) := by
        have h1 : (gs.map (·.2))[k]? = some gl := by rw [List.getElem?_map, hqk]; rfl
        rw [List.take_add_one, h1]
        simp [Hid]
      have HGN := Lib.hid hgn
      have HA1 := Lib.hid hA1
      clear hx0 hqq hqm hqk hgn hfz hrow hne
      subst hA0
      subst hA1
      go_wp2_with fail
      obtain ⟨wo, rfl⟩ : ∃ wo : World, wo = wr := ⟨_, rfl⟩
      go_loopw [6, 19] (fun an i w7 => ∃ (j : Nat), j ≤ gn ∧ i = .int .i64 j ∧ an = .int .i64 (sumL (gl.take j)) ∧ Below wo.heap.size wo w7)
        (fun _ i _ => gn - (intOf i).toNat)
      case atStart => exact ⟨0, Nat.zero_le _, rfl, rfl, Below.refl _ _⟩
      case round =>
        obtain ⟨j, hj, rfl, rfl, hb7⟩ := hrel
        have hz7 := hb7.size
        have hO7 := hOg.call hb7
        obtain ⟨b1', hb1', hg0', _, hfz', hrow'⟩ := hO7.at_ pC_len _ rfl
        cases hb1'
        by_cases hjl : j < gn
        · have hjl' : j < gl.length := by have := HGN.out; omega
          have hgj : gl[j]? = some gl[j] := List.getElem?_eq_getElem hjl'
          have hadj : ∀ i, (0 + j * 5 + i) = j * 5 + i := fun i => by omega
          have x0' := hrow' j _ hgj 0 _ rfl
          have x1' := hrow' j _ hgj 1 _ rfl
          have x2' := hrow' j _ hgj 2 _ rfl
          have x3' := hrow' j _ hgj 3 _ rfl
          have x4' := hrow' j _ hgj 4 _ rfl
          rw [hadj] at x0' x1' x2' x3' x4'
          rw [Nat.add_zero] at x0'
          have hyok := hgok.out _ (List.mem_iff_getElem?.2 ⟨j, hgj⟩)
          have hst := Lib.hid (sumL_take gl j hjl')
          have hbt := sumL_bd5 (g := gl.take j) (fun q hq => hgok.out q (List.mem_of_mem_take hq))
          have htl : (gl.take j).length ≤ j := List.length_take_le ..
          generalize gl[j]'hjl' = y at x0' x1' x2' x3' x4' hyok hst
          obtain ⟨S, hS⟩ : ∃ S, S = sumL (gl.take j) := ⟨_, rfl⟩
          rw [← hS] at hst hbt ⊢
          obtain ⟨hs1, hs2⟩ : 0 ≤ S ∧ S ≤ 10000000 := by omega
          clear hS hbt hgj hadj hrow' hfz'
          go_wp2_with fail
          go_roundw
          case rel => exact ⟨j + 1, by omega, by go_num, by rw [hst.out], hb7.alloc hz7 _⟩
          case measure => simp [intOf]; omega
        · obtain rfl : j = gn := by omega
          have htk : gl.take j = gl := by rw [HGN.out, List.take_length]
          rw [htk]
          clear htk
          obtain ⟨S, hS⟩ : ∃ S, S = sumL gl := ⟨_, rfl⟩
          rw [← hS] at hhs hSb ⊢
          have hS1 : 1 ≤ S := by have := HGN.out; omega
          have hS2 : S ≤ 10000000 := by have := HGN.out; omega
          have x0' := hrow' 0 x0 hat0 0 _ rfl
          have x1' := hrow' 0 x0 hat0 1 _ rfl
          have x2' := hrow' 0 x0 hat0 2 _ rfl
          have x3' := hrow' 0 x0 hat0 3 _ rfl
          have x4' := hrow' 0 x0 hat0 4 _ rfl
          simp only [Nat.zero_mul, Nat.zero_add] at x0' x1' x2' x3' x4'
          have hgpi : (0 : Int) < (j : Int) := by omega
          clear hSb hS hrow' hfz'
          go_wp2_with fail
          obtain ⟨bx, hbx⟩ : ∃ bx, bx = wr.heap.size := ⟨_, rfl⟩
          obtain ⟨w8, hw8⟩ : ∃ w8, w8 = wr.alloc (.cells #[.int .i64 5000, .int .i64 x0.turn, .int .i64 x0.rad, .int .i64 x0.wid, .int .i64 x0.sur] 72) := ⟨_, rfl⟩
          have hK8 : BK w8 bx 72 #[.int .i64 5000, .int .i64 x0.turn, .int .i64 x0.rad, .int .i64 x0.wid, .int .i64 x0.sur] := by rw [hw8, hbx]; exact BK.new wr _ _
          have hb8 : Below wo.heap.size wo w8 := by rw [hw8]; exact hb7.alloc hz7 _
          have hb38 : Below W3.heap.size W3 w8 := onto hb hb8 hb.size
          have hO8 := hO.call hb8
          have hne8 : ∀ a, A1 = some a → a.block ≠ bx := fun a ha => by have := (hO.lt ha).2; omega
          have hbx3 : W3.heap.size ≤ bx := by omega
          rw [← hw8, ← hbx]
          clear hw8 hb8 hO hbx x0' x1' x2' x3' x4'
          go_loopw [3, 6] (fun o nn w9 => ∃ (i : Nat) (A2 : Option Addr) (n2 c2 : Nat), nn = .int .i64 (S - 5000 * i) ∧ 5000 * (i : Int) < S ∧ o = .slice A2 n2 c2 ∧ n2 ≤ n1 + i ∧ OW pC 5 72 W3.heap.size w9 A2 n2 c2 (((((gs.map (·.2)).take k).map hs).flatMap cut) ++ List.replicate i { x0 with len := 5000 }) ∧
              (∀ a, A2 = some a → a.block ≠ bx) ∧ BK w9 bx 72 #[.int .i64 5000, .int .i64 x0.turn, .int .i64 x0.rad, .int .i64 x0.wid, .int .i64 x0.sur] ∧ Below W3.heap.size W3 w9)
            (fun _ nn _ => (intOf nn).toNat)
          case atStart => exact ⟨0, A1, n1, c1, by simp, by omega, rfl, Nat.le_refl _, by simpa using hO8, hne8, hK8, hb38⟩
          case round =>
            obtain ⟨i, A2, n2, c2, rfl, hi, rfl, hn2, hO9, hne9, hK9, hb9⟩ := hrel
            have y0 := hK9.cell 0
            have y1 := hK9.cell 1
            have y2 := hK9.cell 2
            have y3 := hK9.cell 3
            have y4 := hK9.cell 4
            have yf := hK9.frozen 0
            simp only [List.getElem?_toArray, List.getElem?_cons_zero, List.getElem?_cons_succ] at y0 y1 y2 y3 y4
            have hyl := hK9.lt
            have hb9z := hb9.size
            obtain ⟨D, hD⟩ : ∃ D, D = S - 5000 * (i : Int) := ⟨_, rfl⟩
            rw [← hD]
            have hD1 : 0 < D := by omega
            have hD2 : D ≤ 10000000 := by omega
            have hi2 : i ≤ 2000 := by omega
            have HD := Lib.hid hD
            clear hD
            by_cases hgt : 5000 < D
            · have hwD : IntKind.i64.wrap (D - 5000) = D - 5000 := IntWalk.i64_in _ (by omega)
              have hN1 := BK.new wr 72 #[.int .i64 5000, .int .i64 x0.turn, .int .i64 x0.rad, .int .i64 x0.wid, .int .i64 x0.sur]
              go_wp2_with (at_builtin; refine wpList_app rfl _ _ 22 rfl W3.heap.size 72 _ 5 40 Tryz.underlying22 infoP rfl (by decide) pC A2 n2 c2 _ rfl (hO9.alloc _) { x0 with len := 5000 } #[.int .i64 5000, .int .i64 x0.turn, .int .i64 x0.rad, .int .i64 x0.wid, .int .i64 x0.sur] rfl rfl 72 wr.heap.size rfl hN1 (by simp [pC, Value.oneCell']) (by omega) (by omega) (by simp; omega) ?_; intro g'' c'' w10 hap; have HAP := Lib.hid hap; clear hap)
              go_roundw
              case rel =>
                have hap := HAP.out
                have hfar := hap.far bx (by simp; omega) (fun b hb => hne9 b hb)
                have hD := HD.out
                refine ⟨i + 1, _, _, _, ?_, by omega, rfl, by omega, ?_, fun a ha => ?_, (hK9.alloc _).same hfar, (hb9.alloc hb9z _).trans hap.bel⟩
                · rw [hD]; congr 1; omega
                · rw [List.replicate_succ', ← List.append_assoc]; exact hap.own
                · cases ha
                  rcases hap.at_ with ⟨b, hb, rfl⟩ | hg
                  · exact hne9 b hb
                  · show g'' ≠ bx; simp at hg; omega
              case measure => simp [intOf]; omega
            · have hck : cutk S = i := by have := HD.out; unfold cutk; omega
              have hlast : Hid (cut (hs gl) = List.replicate i { x0 with len := 5000 } ++ [{ x0 with len := D }]) := by
                rw [hhs.out]; unfold cut
                show List.replicate (cutk S) _ ++ [{ x0 with len := S - 5000 * (cutk S : Int) }] = _
                rw [hck, HD.out]
              have hK10 := hK9.set_ 0 (.int .i64 D)
              have hN1 := BK.new (wr.setCell ⟨bx, 0, none⟩ (.int .i64 D)) 72 #[.int .i64 D, .int .i64 x0.turn, .int .i64 x0.rad, .int .i64 x0.wid, .int .i64 x0.sur]
              rw [World.size_setCell] at hN1
              have hO10 := hO9.setCell (p := ⟨bx, 0, none⟩) hne9 (.int .i64 D)
              go_wp2_with (at_builtin; refine wpList_app rfl _ _ 22 rfl W3.heap.size 72 _ 5 40 Tryz.underlying22 infoP rfl (by decide) pC A2 n2 c2 _ rfl (hO10.alloc _) { x0 with len := D } #[.int .i64 D, .int .i64 x0.turn, .int .i64 x0.rad, .int .i64 x0.wid, .int .i64 x0.sur] rfl rfl 72 wr.heap.size rfl hN1 (by simp [pC, Value.oneCell']) (by omega) (by omega) (by simp; omega) ?_; intro g'' c'' w10 hap; have HAP := Lib.hid hap; clear hap)
              go_roundw
              case rel =>
                have hap := HAP.out
                exact ⟨k + 1, _, _, _, by omega, by go_num, rfl, by rw [hnk.out, hlast.out, ← List.append_assoc]; exact hap.own, ((hb9.setCell hbx3 _).alloc (by simp; omega) _).trans hap.bel⟩
              case measure => simp [intOf]; omega
    · obtain rfl : k = n' := by omega
      have hall : Hid ((((gs.map (·.2)).take k).map hs).flatMap cut = normP ps) := by
        have h1 := hG.out.len
        rw [List.length_map] at h1
        rw [List.take_of_length_le (by rw [List.length_map]; omega), hGS.out, grp_mrg]
        exact rfl
      rw [hall.out] at hO
      go_wp2_with fail
      go_ret
      exact ⟨_, _, _, rfl, hO.drop0 hb3.size, onto hb3 hb hb3.size⟩
end Go.Proofs.YtijcbfhlhgjedaaGreatDoor
