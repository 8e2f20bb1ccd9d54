/- The words of a text: strings.Cut at a blank; the iterator that yields them. -/
import Derived.Test.YtcniibngfnkobaaGreatDoorPCBackOk
import Derived.Test.YtcniibngfnkobaaGreatDoorPNRead4
import Derived.Test.YtcniibngfnkobaaGreatDoorPReadR
import Derived.Test.YtcniibngfnkobaaGreatDoorPCBase
import Derived.Test.YtcniibngfnkobaaGreatDoorPCRoad
import Derived.Test.YtcniibngfnkobaaGreatDoorPCLeaf
import Derived.Test.YtcniibngfnkobaaGreatDoorPCIter
import Derived.Test.YtcniibngfnkobaaGreatDoorPCCheck
import Derived.Test.YtcniibngfnkobaaGreatDoorPCValid
import Derived.Test.YtcniibngfnkobaaGreatDoorPCReg
import Derived.Test.YtcniibngfnkobaaGreatDoorPCGrouped
import Derived.Test.YtcniibngfnkobaaGreatDoorPCAppS
import Derived.Test.YtcniibngfnkobaaGreatDoorPCCorn
import Derived.Test.YtcniibngfnkobaaGreatDoorPCOpen
import Derived.Test.YtcniibngfnkobaaGreatDoorPCReg8
import Derived.Test.YtcniibngfnkobaaGreatDoorPCOrdM
import Derived.Test.YtcniibngfnkobaaGreatDoorPCRCorn
import Derived.Test.YtcniibngfnkobaaGreatDoorPCRev
import Derived.Test.YtcniibngfnkobaaGreatDoorPCRevR
namespace Go.Proofs.YtcniibngfnkobaaGreatDoor
open Go.RowKit Go.Shelf Go.Sort Go.Proofs

attribute [local go_sem] Oper.semAt_some
/-- A text cut at its first blank. -/
def cutB : List UInt8 → List UInt8 × List UInt8 × Bool
  | [] => ([], [], false)
  | b :: r => if b = 32 then ([], r, true) else (b :: (cutB r).1, (cutB r).2.1, (cutB r).2.2)
theorem cutB_no : ∀ (s : List UInt8), (cutB s).2.2 = false → cutB s = (s, [], false) ∧ splitB s = [s]
  | [], _ => ⟨rfl, rfl⟩
  | b :: r, h => by
    unfold cutB at h ⊢
    split at h
    · cases h
    · rename_i hb
      obtain ⟨h1, h2⟩ := cutB_no r h
      rw [if_neg hb, h1]
      refine ⟨rfl, ?_⟩
      unfold splitB
      rw [if_neg hb, h2]
theorem cutB_yes : ∀ (s : List UInt8), (cutB s).2.2 = true → s = (cutB s).1 ++ 32 :: (cutB s).2.1 ∧ splitB s = (cutB s).1 :: splitB (cutB s).2.1 ∧ 32 ∉ (cutB s).1
  | [], h => by cases h
  | b :: r, h => by
    unfold cutB at h ⊢
    split at h
    · rename_i hb
      rw [if_pos hb, hb]
      refine ⟨rfl, ?_, by simp⟩
      rw [splitB, if_pos rfl]
    · rename_i hb
      obtain ⟨h1, h2, h3⟩ := cutB_yes r h
      rw [if_neg hb]
      refine ⟨by rw [List.cons_append, ← h1], ?_, by simp only [List.mem_cons, not_or]; exact ⟨fun hh => hb hh.symm, h3⟩⟩
      conv => lhs; unfold splitB
      rw [if_neg hb, h2]
theorem cutB_len (s : List UInt8) : (cutB s).1.length ≤ s.length ∧ (cutB s).2.1.length ≤ s.length := by
  cases h : (cutB s).2.2 with
  | false => rw [(cutB_no s h).1]; exact ⟨Nat.le_refl _, by simp⟩
  | true =>
    have := congrArg List.length (cutB_yes s h).1
    simp at this
    omega
theorem cutB_ix : ∀ (s : List UInt8), Lib.indexByte s 32 = if (cutB s).2.2 then ((cutB s).1.length : Int) else -1
  | [] => rfl
  | b :: r => by
    have ih := cutB_ix r
    unfold Lib.indexByte cutB
    by_cases hb : b = 32
    · subst hb
      simp
    · have hb2 : (b == 32) = false := by simpa using hb
      rw [hb2, if_neg hb]
      simp only [Bool.false_eq_true, if_false]
      rw [ih]
      cases (cutB r).2.2 with
      | false => simp
      | true =>
        simp only [if_true]
        rw [if_neg (by simp)]
        simp only [List.length_cons]
        omega
theorem nbs_extract (s : List UInt8) (a b : Nat) : (nbs s).extract a b = nbs ((s.drop a).take (b - a)) := by
  apply ByteArray.ext
  rw [ByteArray.data_extract]
  apply Array.ext'
  simp [nbs]
set_option maxRecDepth 100000 in
theorem slcut_any (s : List UInt8) (hl : s.length ≤ 1000000) (w : World) :
    Calls Tryz.prog 95 #[.string (nbs s), .string (ByteArray.mk #[32])] w fun e w' => e = .returned (.tuple #[.string (nbs (cutB s).1), .string (nbs (cutB s).2.1), .bool (cutB s).2.2]) ∧ Below w.heap.size w w' := by
  have hix := sh_stringslite_Index_one (nbs s) 32 w
  rw [show (nbs s).data.toList = s by simp [nbs], cutB_ix] at hix
  cases h : (cutB s).2.2 with
  | false =>
    have hc := Lib.hid (cutB_no s h).1
    rw [h] at hix
    simp only [Bool.false_eq_true, if_false] at hix
    go_enter Tryz.func95, Tryz.ntmps95
    go_wp2_with (go_at_call 104; refine hix.mono ?_; rintro e w' ⟨rfl, rfl⟩)
    go_ret3
    exact ⟨by rw [hc.out]; rfl, Below.refl _ _⟩
  | true =>
    have hc := Lib.hid (cutB_yes s h).1
    have hle := Lib.hid (cutB_len s).1
    rw [h] at hix
    simp only [if_true] at hix
    obtain ⟨i, hi⟩ : ∃ i, i = (cutB s).1.length := ⟨_, rfl⟩
    rw [← hi] at hix
    have HI := Lib.hid hi
    have hz := nbs_size s
    have hlen : i + 1 ≤ s.length := by
      have := congrArg List.length hc.out
      simp at this
      omega
    clear hi
    have h32 : (ByteArray.mk #[(32 : UInt8)]).size = 1 := rfl
    have c1 : (0 : Int) ≤ (i : Int) := by omega
    have c2 : (i : Int) ≤ ((nbs s).size : Int) := by rw [hz]; omega
    have c3 : (0 : Int) ≤ (i : Int) + 1 := by omega
    have c4 : (i : Int) + 1 ≤ ((nbs s).size : Int) := by rw [hz]; omega
    have mixed : Tryz.prog.follows .mixedOrders = true := by kernel_rfl
    clear hz
    have e1 : Hid ((nbs s).extract 0 i = nbs (cutB s).1) := by
      show _ = _
      rw [nbs_extract, HI.out, List.drop_zero, Nat.sub_zero]
      have h2 := congrArg (List.take (cutB s).1.length) hc.out
      rw [h2]
      simp
    have e2 : Hid ((nbs s).extract (i + 1) (nbs s).size = nbs (cutB s).2.1) := by
      show _ = _
      rw [nbs_extract, nbs_size, List.take_of_length_le (by simp), HI.out]
      have h2 := congrArg (List.drop ((cutB s).1.length + 1)) hc.out
      rw [h2]
      simp
    go_enter Tryz.func95, Tryz.ntmps95
    go_wp2_with (go_at_call 104; refine hix.mono ?_; rintro e w' ⟨rfl, rfl⟩)
    go_region_o
    go_wp2
    go_ret3
    exact ⟨by rw [← e1.out, ← e2.out]; rfl, (Below.refl _ _).drew⟩
theorem cut_any (s : List UInt8) (hl : s.length ≤ 1000000) (w : World) :
    Calls Tryz.prog 76 #[.string (nbs s), .string (ByteArray.mk #[32])] w fun e w' => e = .returned (.tuple #[.string (nbs (cutB s).1), .string (nbs (cutB s).2.1), .bool (cutB s).2.2]) ∧ Below w.heap.size w w' := by
  go_enter Tryz.func76, Tryz.ntmps76
  go_wp2_with (go_at_call 95; refine (slcut_any s hl _).mono ?_; rintro e w' ⟨rfl, hb⟩)
  go_ret3
  exact ⟨rfl, hb⟩
theorem words_any (s : List UInt8) (w : World) :
    Calls Tryz.prog 61 #[.string (nbs s)] w fun e w' => e = .returned (.func (.func 75) #[] #[.pointer (some ⟨w.heap.size, 0, none⟩)]) ∧ w' = w.alloc (.cells #[.string (nbs s)] 9) := by
  go_enter Tryz.func61, Tryz.ntmps61
  go_wp2
  go_ret
  exact ⟨rfl, rfl⟩
theorem splitB_len (s : List UInt8) : (splitB s).length ≤ s.length + 1 := by
  induction s with
  | nil => simp [splitB]
  | cons b r ih =>
    unfold splitB
    split
    · simp; omega
    · split
      · simp
      · rename_i x xs he
        rw [he] at ih
        simp at ih ⊢
        omega
def boxLen (w : World) (sb : Nat) : Nat := match w.cell? ⟨sb, 0, none⟩ with | some (.string b) => b.size | _ => 0
theorem boxLen_bk {w : World} {sb : Nat} {t : TypeId} {r : List UInt8} (h : BK w sb t #[.string (nbs r)]) : boxLen w sb = r.length := by
  have c := h.cell 0
  simp only [List.getElem?_toArray, List.getElem?_cons_zero] at c
  unfold boxLen
  rw [c]
  exact nbs_size r
theorem nil_beq (r : List UInt8) : ((nbs r).toList == ([] : List UInt8)) = r.isEmpty := by
  rw [ByteArray.toList_eq]
  cases r <;> rfl
theorem nil_beq2 (r : List UInt8) : ((nbs r).toList == (ByteArray.mk #[]).toList) = r.isEmpty := by
  rw [ByteArray.toList_eq, ByteArray.toList_eq]
  cases r <;> rfl
/-- The round keeps the iterator's box. -/
def KX (sb : Nat) (W W' : World) : Prop := W'.heap[sb]? = W.heap[sb]?
set_option maxRecDepth 100000 in
set_option maxHeartbeats 4000000 in
theorem words1_box (n : Nat) (hn : 1 ≤ n) (s0 : List UInt8) (hl : s0.length ≤ 1000000) (sb : Nat) (w : World) (hbx : BK w sb 9 #[.string (nbs s0)]) :
    SeqBox Fence.wide n Tryz.prog 75 #[.pointer (some ⟨sb, 0, none⟩)] (fun x : Wd => #[.string (nbs x)]) sb (KX sb) (fun xs => xs = wordsB s0) (s0.length + 1) w := by
  intro l J W hbW hJX hY h0
  have hS0 := hbx.below hbW hbx.lt
  have hSL := splitB_len s0
  clear hbx
  refine callsIn_of_wp Tryz.func75 rfl trivial ?_ rfl
  simp only [Tryz.ntmps75, List.size_toArray, List.length_cons, List.length_nil, Nat.reduceAdd, Nat.reduceSub, Array.replicate_succ, Array.replicate_zero, List.push_toArray, List.append_toArray, List.nil_append, List.cons_append]
  gi_wp2_with fail
  gi_loopw [3] (fun _ wr => ∃ (r : List UInt8) (pre : List Wd), Hid ((r = [] ∧ wordsB s0 = pre) ∨ (r ≠ [] ∧ s0 ≠ [] ∧ splitB s0 = pre ++ splitB r)) ∧ r.length ≤ s0.length ∧ BK wr sb 9 #[.string (nbs r)] ∧ J pre wr)
    (fun _ wr => boxLen wr sb)
  case atStart =>
    refine ⟨s0, [], ?_, Nat.le_refl _, hS0, h0⟩
    show _ ∨ _
    by_cases hs : s0 = []
    · exact .inl ⟨hs, by unfold wordsB; rw [if_pos hs]⟩
    · exact .inr ⟨hs, hs, rfl⟩
  case round =>
    obtain ⟨r, pre, HW, hrl, hS, hJ⟩ := hrel
    have c0 := hS.cell 0
    have f0 := hS.frozen 0
    simp only [List.getElem?_toArray, List.getElem?_cons_zero] at c0
    by_cases hr : r = []
    · have g1 : ((nbs r).toList == ([] : List UInt8)) = true := by rw [nil_beq, hr]; rfl
      have g2 : ((nbs r).toList == (ByteArray.mk #[]).toList) = true := by rw [nil_beq2, hr]; rfl
      have HX : Hid (pre = wordsB s0) := by
        rcases HW.out with h | h
        · exact h.2.symm
        · exact absurd hr h.1
      clear HW hr
      gi_wp2_with fail
      go_end0
      exact ⟨⟨_, rfl⟩, pre, HX.out, hJ⟩
    · have g1 : ((nbs r).toList == ([] : List UInt8)) = false := by rw [nil_beq]; cases r with | nil => exact absurd rfl hr | cons b t => rfl
      have g2 : ((nbs r).toList == (ByteArray.mk #[]).toList) = false := by rw [nil_beq2]; cases r with | nil => exact absurd rfl hr | cons b t => rfl
      have HX : Hid (s0 ≠ [] ∧ splitB s0 = pre ++ splitB r) := by
        rcases HW.out with h | h
        · exact absurd h.1 hr
        · exact h.2
      have HR0 := Lib.hid hr
      clear HW hr
      gi_wp2_with fail
      clear g1 g2
      refine cin ((cut_any r (by omega) wr).mono ?_)
      rintro e w1 ⟨rfl, hk⟩
      have hS1 := hS.below hk hS.lt
      have hJ1 := hJX pre wr w1 hJ ⟨hk.os, hk.tape, hk.output, hk.size, fun k hk' _ => hk.block k hk'⟩
      have HBL : Hid (boxLen wr sb = r.length) := boxLen_bk hS
      clear hS hJ hk c0 f0
      have HLN := Lib.hid (cutB_len r)
      cases hct : (cutB r).2.2 with
      | false =>
        obtain ⟨hc1, hc2⟩ := cutB_no r hct
        rw [hc1]
        have hlen : pre.length < s0.length + 1 := by
          have h1 := congrArg List.length HX.out.2
          rw [hc2] at h1
          simp at h1
          omega
        have HY1 := hY pre r w1 hJ1 hlen
        obtain ⟨fn, tmps, assign, body, hy, hR⟩ := HY1
        have HR := Lib.hid hR
        have HC2 := Lib.hid hc2
        clear hR hc1 hc2 hct hlen HLN
        gi_wp2_with fail
        refine HR.out.mono ?_
        rintro e W3 ⟨rfl, hJ3, hK3⟩
        have hS3 : BK W3 sb 9 #[.string (nbs r)] := hS1.same hK3
        have c3 := hS3.cell 0
        have f3 := hS3.frozen 0
        simp only [List.getElem?_toArray, List.getElem?_cons_zero] at c3
        clear hy HR hJ1 hS1 hK3
        gi_wp2_with fail
        go_roundw
        case rel =>
          refine ⟨[], pre ++ [r], .inl ⟨rfl, ?_⟩, by simp, hS3.set_ 0 _, hJX _ _ _ hJ3 (gset _ _ _)⟩
          unfold wordsB
          rw [if_neg HX.out.1, HX.out.2, HC2.out]
        case measure =>
          rw [HBL.out, boxLen_bk (hS3.set_ 0 (.string (nbs [])))]
          have := HR0.out
          cases r with
          | nil => exact absurd rfl this
          | cons b t => simp
      | true =>
        obtain ⟨hc1, hc2, -⟩ := cutB_yes r hct
        have HC1 := Lib.hid (congrArg List.length hc1)
        have HC2 := Lib.hid hc2
        clear hc1 hc2 hct
        have hl0 : (pre ++ splitB r).length ≤ s0.length + 1 := by rw [← HX.out.2]; exact hSL
        rw [HC2.out] at hl0
        generalize (cutB r).1 = x at *
        generalize (cutB r).2.1 = y at *
        have hpy : 1 ≤ (splitB y).length := List.length_pos_iff.2 (splitB_ne y)
        simp only [List.length_append, List.length_cons] at hl0
        have HY1 := hY pre x w1 hJ1 (by omega)
        obtain ⟨fn, tmps, assign, body, hy, hR⟩ := HY1
        have HR := Lib.hid hR
        clear hR
        by_cases hye : y = []
        · have gy1 : ((nbs y).toList == ([] : List UInt8)) = true := by rw [nil_beq, hye]; rfl
          have gy2 : ((nbs y).toList == (ByteArray.mk #[]).toList) = true := by rw [nil_beq2, hye]; rfl
          have HYE := Lib.hid hye
          have hN2 : (pre ++ [x]).length < s0.length + 1 := by simp; omega
          clear hye
          gi_wp2_with fail
          clear gy1 gy2
          refine HR.out.mono ?_
          rintro e W3 ⟨rfl, hJ3, hK3⟩
          have HY2 := hY (pre ++ [x]) [] W3 hJ3 hN2
          clear hy HR hJ1 hS1 hK3
          obtain ⟨fn2, tmps2, assign2, body2, hy2, hR2⟩ := HY2
          have HR2 := Lib.hid hR2
          replace hy2 : (Instr.yield l #[.string (ByteArray.mk #[])]).run Tryz.prog W3 = .ok (.round l fn2 tmps2 assign2 body2) W3 := hy2
          clear hR2 hJ3
          gi_wp2_with fail
          refine HR2.out.mono ?_
          rintro e W4 ⟨rfl, hJ4, hK4⟩
          clear hy2 HR2
          gi_wp2_with fail
          refine bodyPost_ret (results_none rfl _ _ _) rfl ⟨⟨_, rfl⟩, pre ++ [x] ++ [[]], ?_, hJ4⟩
          unfold wordsB
          rw [if_neg HX.out.1, HX.out.2, HC2.out, HYE.out]
          simp [splitB]
        · have gy1 : ((nbs y).toList == ([] : List UInt8)) = false := by rw [nil_beq]; cases y with | nil => exact absurd rfl hye | cons b t => rfl
          have gy2 : ((nbs y).toList == (ByteArray.mk #[]).toList) = false := by rw [nil_beq2]; cases y with | nil => exact absurd rfl hye | cons b t => rfl
          have HYE := Lib.hid hye
          clear hye
          gi_wp2_with fail
          clear gy1 gy2
          refine HR.out.mono ?_
          rintro e W3 ⟨rfl, hJ3, hK3⟩
          have hS3 : BK W3 sb 9 #[.string (nbs r)] := hS1.same hK3
          have c3 := hS3.cell 0
          have f3 := hS3.frozen 0
          simp only [List.getElem?_toArray, List.getElem?_cons_zero] at c3
          clear hy HR hJ1 hS1 hK3
          gi_wp2_with fail
          go_roundw
          case rel =>
            refine ⟨y, pre ++ [x], .inr ⟨HYE.out, HX.out.1, ?_⟩, by have := HLN.out; omega, hS3.set_ 0 _, hJX _ _ _ hJ3 (gset _ _ _)⟩
            rw [HX.out.2, HC2.out]
            simp
          case measure =>
            rw [HBL.out, boxLen_bk (hS3.set_ 0 (.string (nbs y)))]
            have := HC1.out
            simp at this
            omega
end Go.Proofs.YtcniibngfnkobaaGreatDoor
