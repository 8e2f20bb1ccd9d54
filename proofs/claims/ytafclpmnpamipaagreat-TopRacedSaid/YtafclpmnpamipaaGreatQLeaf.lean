/- The leaf functions of the road package and of its reference: ranges, rounding, the turning of a piece, pieces that are as defined. -/
import Derived.Test.YtafclpmnpamipaaGreatProg
import Derived.Test.YtafclpmnpamipaaGreatQRoad
import Derived.WalkLawsBesides
import Derived.Deep.QuietTactic
import Derived.BigQuiet
import Derived.BigGuardPart
import Derived.Deep.RegionHeld3
namespace Go.Proofs.YtafclpmnpamipaaGreat
open Go.RowKit Go.Proofs

theorem ret_bool {a b : Bool} (h : a = b) : Ending.returned (.bool a) = .returned (.bool b) := by rw [h]
theorem ret_int {a b : Int} (h : a = b) : Ending.returned (.int .i64 a) = .returned (.int .i64 b) := by rw [h]
theorem within_any (x lo hi : Int) (w : World) :
    Calls Tryz.prog 125 #[.int .i64 x, .int .i64 lo, .int .i64 hi] w fun e w' => e = .returned (.bool (inR x lo hi)) ∧ w = w' := by
  by_cases h : lo ≤ x
  · have e : inR x lo hi = decide (x ≤ hi) := by simp [inR, h]
    rw [e]; clear e
    go_enter Tryz.func125, Tryz.ntmps125
    go_wp2
    go_ret
    exact ⟨rfl, rfl⟩
  · have e : inR x lo hi = false := by simp [inR, h]
    rw [e]; clear e
    go_enter Tryz.func125, Tryz.ntmps125
    go_wp2
    go_ret
    exact ⟨rfl, rfl⟩
theorem in_any (x lo hi : Int) (w : World) :
    Calls Tryz.prog 72 #[.int .i64 x, .int .i64 lo, .int .i64 hi] w fun e w' => e = .returned (.bool (inR x lo hi)) ∧ w = w' := by
  by_cases h : lo ≤ x
  · have e : inR x lo hi = decide (x ≤ hi) := by simp [inR, h]
    rw [e]; clear e
    go_enter Tryz.func72, Tryz.ntmps72
    go_wp2
    go_ret
    exact ⟨rfl, rfl⟩
  · have e : inR x lo hi = false := by simp [inR, h]
    rw [e]; clear e
    go_enter Tryz.func72, Tryz.ntmps72
    go_wp2
    go_ret
    exact ⟨rfl, rfl⟩
set_option maxHeartbeats 400000 in
theorem piece_any (p : Piece) (w : World) :
    Calls Tryz.prog 126 #[.agg #[.int .i64 p.len, .int .i64 p.turn, .int .i64 p.rad, .int .i64 p.wid, .int .i64 p.sur]] w fun e w' => e = .returned (.bool (pOk p)) ∧ Below w.heap.size w w' := by
  go_enter Tryz.func126, Tryz.ntmps126
  go_wp2_with (go_at_call 125; refine (within_any _ _ _ _).mono ?_; rintro e w' ⟨rfl, rfl⟩)
  all_goals (go_ret; exact ⟨ret_bool (by simp_all [pOk]), (Below.refl _ _).alloc (Nat.le_refl _) _⟩)
set_option maxHeartbeats 400000 in
theorem Piece_any (p : Piece) (w : World) :
    Calls Tryz.prog 73 #[.agg #[.int .i64 p.len, .int .i64 p.turn, .int .i64 p.rad, .int .i64 p.wid, .int .i64 p.sur]] w fun e w' => e = .returned (.bool (pOk p)) ∧ Below w.heap.size w w' := by
  go_enter Tryz.func73, Tryz.ntmps73
  go_wp2_with (go_at_call 72; refine (in_any _ _ _ _).mono ?_; rintro e w' ⟨rfl, rfl⟩)
  all_goals (go_ret; exact ⟨ret_bool (by first | (simp_all [pOk]; done) | (simp_all [pOk]; rw [Bool.eq_iff_iff]; simp)), (Below.refl _ _).alloc (Nat.le_refl _) _⟩)
end Go.Proofs.YtafclpmnpamipaaGreat

/- measure, length: a road with the beginnings of its pieces. -/
namespace Go.Proofs.YtafclpmnpamipaaGreat
open Go.RowKit Go.Proofs

theorem infoInt : (Tryz.prog.info? 3).map (fun i => (i.zero, i.size, i.bytes)) = some (some (.int .i64 0), 1, 8) := by kernel_rfl
/-- What measure leaves. -/
def Measured (pa : Option Addr) (pn pc : Nat) (ca : Option Addr) (cn cc : Nat) (ja : Option Addr) (jn jc : Nat) (R : Road) (w : World) (e : Ending) (w' : World) : Prop :=
  ∃ g ba bc, e = .returned (.pointer (some ⟨g, 0, none⟩)) ∧ MS w' w'.heap.size g pa pn pc ca cn cc ja jn jc ba bc R ∧ w.heap.size ≤ g ∧ Below w.heap.size w w'
set_option maxHeartbeats 2000000 in
theorem measure_any (pa : Option Addr) (pn pc : Nat) (ca : Option Addr) (cn cc : Nat) (ja : Option Addr) (jn jc : Nat) (R : Road) (w : World)
    (h : RD w w.heap.size pa pn ca cn ja jn R) (hk : ∀ p ∈ R.ps, pOk p = true) (hl : pn ≤ 100000) :
    Calls Tryz.prog 78 #[.agg #[.slice pa pn pc, .slice ca cn cc, .slice ja jn jc]] w (Measured pa pn pc ca cn cc ja jn jc R w) := by
  obtain ⟨hP, hC, hJ⟩ := h
  have hlp := Lib.hid hP.1
  have hk' := Lib.hid hk
  clear hk
  go_enter Tryz.func78, Tryz.ntmps78
  go_wp2_with fail
  go_loopw [4, 13] (fun s i wr => ∃ (k : Nat) (A : Option Addr) (c : Nat), k ≤ pn ∧ i = .int .i64 k ∧ s = .int .i64 (sumL (R.ps.take k)) ∧ BK wr (w.heap.size + 1) 197 #[.slice pa pn pc, .slice ca cn cc, .slice ja jn jc, .slice A k c] ∧
      OW iC 1 3 (w.heap.size + 2) wr A k c (bgk R.ps k) ∧ Below (w.heap.size + 1) (w.alloc (.cells #[.slice pa pn pc, .slice ca cn cc, .slice ja jn jc] 26)) wr)
    (fun _ i _ => pn - (intOf i).toNat)
  case atStart =>
    refine ⟨0, none, 0, Nat.zero_le _, rfl, rfl, ?_, OW.nil_, (Below.refl _ _).alloc (by simp) _⟩
    have := BK.new (w.alloc (.cells #[.slice pa pn pc, .slice ca cn cc, .slice ja jn jc] 26)) 197 #[.slice pa pn pc, .slice ca cn cc, .slice ja jn jc, .slice none 0 0]
    rw [World.size_alloc] at this
    exact this
  case round =>
    obtain ⟨k, A, c, hkn, rfl, rfl, hm, how, hb⟩ := hrel
    have hW0 : Below w.heap.size w (w.alloc (.cells #[.slice pa pn pc, .slice ca cn cc, .slice ja jn jc] 26)) := (Below.refl w.heap.size w).alloc (Nat.le_refl _) _
    have hBr : Below w.heap.size w wr := hW0.trans (hb.mono (by omega))
    have hsz := hm.lt
    have m3 : wr.cell? ⟨w.heap.size + 1, 3, none⟩ = some (.slice A k c) := hm.cell 3
    have f3 := hm.frozen 3
    have hbd0 : 0 ≤ sumL (R.ps.take k) ∧ sumL (R.ps.take k) ≤ 500000000 := by
      have h1 := sumL_bd (R.ps.take k) (fun p hp => hk'.out p (List.mem_of_mem_take hp))
      have h2 : (R.ps.take k).length ≤ k := List.length_take_le ..
      omega
    have hbd1 := hbd0.1
    have hbd2 := hbd0.2
    clear hbd0
    by_cases hlt : k < pn
    · have hkl : k < R.ps.length := by rw [← hlp.out]; exact hlt
      have hw := hP.grow hBr hBr.size
      obtain ⟨b, off, hA, hbB, c0, c1, c2, c3, c4⟩ := PS.at_ hw (k := k) hkl
      have hst := Lib.hid (sumL_take R.ps k hkl)
      have hpl := pOk_len (hk'.out _ (List.getElem_mem hkl))
      generalize R.ps[k]'hkl = p at c0 c1 c2 c3 c4 hst hpl
      have hp1 := hpl.1
      have hp2 := hpl.2
      clear hw hkl hpl
      subst hA
      go_wp2_with (at_builtin; refine wpList_app1 rfl _ _ 28 rfl (w.heap.size + 2) 3 _ 1 8 Tryz.underlying28 infoInt rfl (by decide) iC _ A k c (bgk R.ps k) rfl (how.alloc _) (sumL (R.ps.take k)) _ rfl rfl 3 _ rfl (by simp) (by simp [iC, Value.oneCell']) (by omega) (by omega) (by simp; omega) ?_; intro g c' w1 hown1 hbl hfar hlt1; have hcl : w1.cell? ⟨wr.heap.size, 0, none⟩ = some (.int .i64 p.len) := (World.cell?_of_block (hfar wr.heap.size (by simp) (fun g hg => by have := (how.lt hg).2; omega))).trans (by simp); have hm1 := hm.alloc (.cells #[.int .i64 p.len, .int .i64 p.turn, .int .i64 p.rad, .int .i64 p.wid, .int .i64 p.sur] 89) |>.same (hfar (w.heap.size + 1) (by simp; omega) (fun g hg => by have := (how.lt hg).1; omega)); have m31 := hm1.cell 3; have f31 := hm1.frozen 3; clear hfar)
      have hgl := (hown1.lt rfl).1
      have hb2 : Below (w.heap.size + 1) (w.alloc (.cells #[.slice (some ⟨b, off, none⟩) pn pc, .slice ca cn cc, .slice ja jn jc] 26)) w1 := (hb.alloc (by omega) _).trans (hbl.mono (by omega))
      go_roundw
      case rel => exact ⟨k + 1, _, _, by omega, by go_num, by rw [hst.out], hm1.set_ 3 _, by rw [bgk_succ]; exact hown1.setCell (fun g hg => by cases hg; simp; simp at hgl; omega) _, hb2.setCell (by simp) _⟩
      case measure => simp [intOf]; omega
    · obtain rfl : k = pn := by omega
      have HN := Lib.hid (show sumL (R.ps.take k) = sumL R.ps by rw [hlp.out, List.take_length])
      go_wp2_with (at_builtin; refine wpList_app1 rfl _ _ 28 rfl (w.heap.size + 2) 3 _ 1 8 Tryz.underlying28 infoInt rfl (by decide) iC _ A k c (bgk R.ps k) rfl how (sumL (R.ps.take k)) _ rfl rfl 3 _ rfl (by simp) (by simp [iC, Value.oneCell']) (by omega) (by omega) (by omega) ?_; intro g c' w1 hown1 hbl hfar hlt1; have hm1 := hm.same (hfar (w.heap.size + 1) (by omega) (fun g hg => by have := (how.lt hg).1; omega)); have m31 := hm1.cell 3; have f31 := hm1.frozen 3; clear hfar)
      have hm2 := hm1.set_ 3 (.slice (some ⟨g, 0, none⟩) (k + 1) c')
      have how2 : OW iC 1 3 (w.heap.size + 2) (w1.setCell ⟨w.heap.size + 1, 3, none⟩ (.slice (some ⟨g, 0, none⟩) (k + 1) c')) (some ⟨g, 0, none⟩) (k + 1) c' (bgk R.ps (k + 1)) := by
        have hgl := (hown1.lt rfl).1
        rw [bgk_succ]; exact hown1.setCell (fun g hg => by cases hg; simp; simp at hgl; omega) _
      have hb2 : Below w.heap.size w (w1.setCell ⟨w.heap.size + 1, 3, none⟩ (.slice (some ⟨g, 0, none⟩) (k + 1) c')) := (hBr.trans (hbl.mono (by omega))).setCell (by simp) _
      go_ret
      refine ⟨w.heap.size + 1, some ⟨g, 0, none⟩, c', rfl, ⟨hm2.lt, ?_, ?_, ?_, ?_, (RD.mk hP hC hJ).grow hb2 hb2.size, how2.sl iC_len⟩, by omega, hb2⟩
      · exact hm2.cell 0
      · exact hm2.cell 1
      · exact hm2.cell 2
      · exact hm2.cell 3
/-- (m *measured) length: the sum of all pieces. -/
theorem mlength_any (g : Nat) (pa : Option Addr) (pn pc : Nat) (ca : Option Addr) (cn cc : Nat) (ja : Option Addr) (jn jc : Nat) (ba : Option Addr) (bc : Nat) (R : Road) (w : World) (B : Nat)
    (h : MS w B g pa pn pc ca cn cc ja jn jc ba bc R) (hl : pn ≤ 100000) :
    Calls Tryz.prog 79 #[.pointer (some ⟨g, 0, none⟩)] w fun e w' => e = .returned (.int .i64 (sumL R.ps)) ∧ ∃ n, w' = w.drewN n := by
  have h0 := h.c0
  have h3 := h.c3
  have hpn := h.r.p.1
  obtain ⟨b, off, hA, hbB, hc⟩ := IS.at_ h.b (k := pn) (by rw [bgk_len]; omega)
  rw [bgk_at] at hc
  have e : sumL (R.ps.take pn) = sumL R.ps := by rw [hpn, List.take_length]
  rw [e] at hc
  have hlt : (pn : Int) < (pn : Int) + 1 := by omega
  have hge : (0 : Int) ≤ pn := by omega
  clear h e hpn
  subst hA
  go_enter Tryz.func79, Tryz.ntmps79
  go_wp2
  go_quiet (fail)
  go_wp2
  go_ret
  exact ⟨rfl, _, rfl⟩
end Go.Proofs.YtafclpmnpamipaaGreat
