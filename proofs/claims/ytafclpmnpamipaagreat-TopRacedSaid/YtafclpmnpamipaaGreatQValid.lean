/- The reference's Valid and Length, and small: which roads are as defined. -/
import Derived.Test.YtafclpmnpamipaaGreatQCheck
namespace Go.Proofs.YtafclpmnpamipaaGreat
open Go.RowKit Go.Proofs

theorem rLength_any (pa : Option Addr) (pn pc : Nat) (ca : Option Addr) (cn cc : Nat) (ja : Option Addr) (jn jc : Nat) (R : Road) (w : World)
    (h : RD w w.heap.size pa pn ca cn ja jn R) (hk : ∀ p ∈ R.ps, pOk p = true) (hl : pn ≤ 100000) :
    Calls Tryz.prog 74 #[.agg #[.slice pa pn pc, .slice ca cn cc, .slice ja jn jc]] w fun e w' => e = .returned (.int .i64 (sumL R.ps)) ∧ Below w.heap.size w w' := by
  obtain ⟨hP, hC, hJ⟩ := h
  have hlp := Lib.hid hP.1
  have hk' := Lib.hid hk
  clear hk
  have hW0 : Below w.heap.size w (w.alloc (.cells #[.slice pa pn pc, .slice ca cn cc, .slice ja jn jc] 26)) := (Below.refl w.heap.size w).alloc (Nat.le_refl _) _
  have hw := hP.grow hW0 (B' := w.heap.size + 1) (by omega)
  go_enter Tryz.func74, Tryz.ntmps74
  go_wp2_with fail
  obtain ⟨wr, hwr⟩ : ∃ wr, wr = w.alloc (.cells #[.slice pa pn pc, .slice ca cn cc, .slice ja jn jc] 26) := ⟨_, rfl⟩
  have d0 : wr.cell? ⟨w.heap.size, 0, none⟩ = some (.slice pa pn pc) := by rw [hwr]; simp
  rw [← hwr] at hW0 hw ⊢
  clear hwr
  go_loop [3, 4] (fun s i => ∃ k : Nat, k ≤ pn ∧ i = .int .i64 k ∧ s = .int .i64 (sumL (R.ps.take k)))
    (fun _ i => pn - (intOf i).toNat)
  case atStart => exact ⟨0, Nat.zero_le _, rfl, rfl⟩
  case round =>
    obtain ⟨k, hkn, rfl, rfl⟩ := hrel
    have hbd0 : 0 ≤ sumL (R.ps.take k) ∧ sumL (R.ps.take k) ≤ 500000000 := by
      have h1 := sumL_bd (R.ps.take k) (fun p hp => hk'.out p (List.mem_of_mem_take hp))
      have h2 : (R.ps.take k).length ≤ k := List.length_take_le ..
      omega
    have hbd1 := hbd0.1
    have hbd2 := hbd0.2
    clear hbd0
    by_cases hlt : k < pn
    · have hkl : k < R.ps.length := by rw [← hlp.out]; exact hlt
      obtain ⟨b, off, hA, hbB, c0, c1, c2, c3, c4⟩ := PS.at_ hw (k := k) hkl
      have hst := Lib.hid (sumL_take R.ps k hkl)
      have hpl := pOk_len (hk'.out _ (List.getElem_mem hkl))
      generalize R.ps[k]'hkl = p at c0 c1 c2 c3 c4 hst hpl
      have hp1 := hpl.1
      have hp2 := hpl.2
      clear hw hkl hpl c1 c2 c3 c4
      subst hA
      go_wp2
      go_round
      case rel => exact ⟨k + 1, by omega, by go_num, by rw [hst.out]⟩
      case measure => simp [intOf]; omega
    · obtain rfl : k = pn := by omega
      have HN := Lib.hid (show sumL (R.ps.take k) = sumL R.ps by rw [hlp.out, List.take_length])
      go_wp2
      go_ret
      exact ⟨ret_int HN.out, hW0⟩
set_option maxHeartbeats 4000000 in
theorem Valid_any (pa : Option Addr) (pn pc : Nat) (ca : Option Addr) (cn cc : Nat) (ja : Option Addr) (jn jc : Nat) (R : Road) (w : World)
    (h : RD w w.heap.size pa pn ca cn ja jn R) :
    Calls Tryz.prog 22 #[.agg #[.slice pa pn pc, .slice ca cn cc, .slice ja jn jc]] w fun e w' => e = .returned (.bool (val R)) ∧ Below w.heap.size w w' := by
  have hR := h
  obtain ⟨hP, hC, hJ⟩ := h
  have HP := Lib.hid hP.1
  have HC := Lib.hid hC.1
  have HJ := Lib.hid hJ.1
  have hW0 : Below w.heap.size w (w.alloc (.cells #[.slice pa pn pc, .slice ca cn cc, .slice ja jn jc] 26)) := (Below.refl w.heap.size w).alloc (Nat.le_refl _) _
  by_cases hs : 1 ≤ pn ∧ pn ≤ 2000 ∧ cn ≤ 1000 ∧ jn ≤ 200
  case neg =>
    have hbad : ¬ OK R := fun k => hs ⟨by rw [hP.1]; exact k.p1, by rw [hP.1]; exact k.p2, by rw [hC.1]; exact k.c1, by rw [hJ.1]; exact k.j1⟩
    rw [val_bad hbad]
    by_cases h1 : 1 ≤ pn ∧ pn ≤ 2000
    · have hin : inR (pn : Int) 1 2000 = true := by simp [inR]; omega
      go_enter Tryz.func22, Tryz.ntmps22
      go_wp2_with (go_at_call 72; refine (in_any _ _ _ _).mono ?_; rintro e w' ⟨rfl, rfl⟩)
      all_goals first | (go_ret; exact ⟨rfl, hW0⟩) | (exfalso; omega)
    · have hin : inR (pn : Int) 1 2000 = false := by
        rw [Bool.eq_false_iff]; simp [inR]; omega
      go_enter Tryz.func22, Tryz.ntmps22
      go_wp2_with (go_at_call 72; refine (in_any _ _ _ _).mono ?_; rintro e w' ⟨rfl, rfl⟩)
      go_ret
      exact ⟨rfl, hW0⟩
  obtain ⟨h1, h2, h3, h4⟩ := hs
  have hin : inR (pn : Int) 1 2000 = true := by simp [inR]; omega
  go_enter Tryz.func22, Tryz.ntmps22
  go_wp2_with (go_at_call 72; refine (in_any _ _ _ _).mono ?_; rintro e w' ⟨rfl, rfl⟩)
  clear hin
  obtain ⟨w0, hw0⟩ : ∃ wr, wr = w.alloc (.cells #[.slice pa pn pc, .slice ca cn cc, .slice ja jn jc] 26) := ⟨_, rfl⟩
  have e0 : w0.cell? ⟨w.heap.size, 0, none⟩ = some (.slice pa pn pc) := by rw [hw0]; simp
  have e1 : w0.cell? ⟨w.heap.size, 1, none⟩ = some (.slice ca cn cc) := by rw [hw0]; simp
  have e2 : w0.cell? ⟨w.heap.size, 2, none⟩ = some (.slice ja jn jc) := by rw [hw0]; simp
  have esz : w.heap.size < w0.heap.size := by rw [hw0]; simp
  rw [← hw0] at hW0 ⊢
  clear hw0
  go_loopw [3] (fun i wr => ∃ k : Nat, k ≤ pn ∧ i = .int .i64 k ∧ Below w0.heap.size w0 wr ∧ Hid (∀ p ∈ R.ps.take k, pOk p = true))
    (fun i _ => pn - (intOf i).toNat)
  case atStart => exact ⟨0, Nat.zero_le _, rfl, Below.refl _ _, by simp [Hid]⟩
  case round =>
    obtain ⟨k, hk, rfl, hb, hall⟩ := hrel
    have hBr : Below w.heap.size w wr := onto hW0 hb hW0.size
    have d0 := (bc hb esz).trans e0
    have d1 := (bc hb esz).trans e1
    have d2 := (bc hb esz).trans e2
    have hsz : w.heap.size < wr.heap.size := Nat.lt_of_lt_of_le esz hb.size
    by_cases hlt : k < pn
    · have hkl : k < R.ps.length := by rw [← HP.out]; exact hlt
      have hw := hP.grow hBr hBr.size
      obtain ⟨b, off, hA, hbB, c0, c1, c2, c3, c4⟩ := PS.at_ hw (k := k) hkl
      have htm := Lib.hid (fun x => take_mem (P := fun p => pOk p = true) hkl hall.out x)
      have hmem := Lib.hid (List.getElem_mem hkl)
      generalize R.ps[k]'hkl = p at c0 c1 c2 c3 c4 htm hmem
      clear hw hkl hall
      subst hA
      by_cases hp : pOk p = true
      · go_wp2_with (go_at_call 73; refine (Piece_any p _).mono ?_; rintro e w1 ⟨rfl, hb1⟩)
        go_roundw
        case rel => exact ⟨k + 1, by omega, by go_num, onto hb hb1 hb.size, htm.out hp⟩
        case measure => simp [intOf]; omega
      · have hp' : pOk p = false := by simpa using hp
        have hbad : ¬ OK R := fun q => hp (q.pk p hmem.out)
        have hc := Lib.hid (val_bad hbad)
        go_wp2_with (go_at_call 73; refine (Piece_any p _).mono ?_; rintro e w1 ⟨rfl, hb1⟩)
        go_ret
        exact ⟨ret_bool hc.out.symm, onto hBr hb1 hBr.size⟩
    · obtain rfl : k = pn := by omega
      have hall' : Hid (∀ p ∈ R.ps, pOk p = true) := by
        have := hall.out
        rw [HP.out, List.take_length] at this
        exact this
      clear hall
      have hbdN := sumL_bd R.ps hall'.out
      rw [← HP.out] at hbdN
      obtain ⟨N, hN⟩ : ∃ N, N = sumL R.ps := ⟨_, rfl⟩
      rw [← hN] at hbdN
      have hbN1 : 0 ≤ N := by omega
      have hbN2 : N ≤ 10000000 := by omega
      have HN := Lib.hid hN
      clear hN hbdN
      go_wp2_with (go_at_call 74; refine (rLength_any _ _ _ _ _ _ _ _ _ R _ (hR.grow hBr hBr.size) hall'.out (by omega)).mono ?_; rintro e w1 ⟨rfl, hb1⟩; rw [← HN.out])
      obtain ⟨wa, hwa⟩ : ∃ wa, wa = w1 := ⟨_, rfl⟩
      have hBa : Below w.heap.size w wa := by rw [hwa]; exact onto hBr hb1 hBr.size
      have a1 : wa.cell? ⟨w.heap.size, 1, none⟩ = some (.slice ca cn cc) := by rw [hwa]; exact (bc hb1 hsz).trans d1
      have a2 : wa.cell? ⟨w.heap.size, 2, none⟩ = some (.slice ja jn jc) := by rw [hwa]; exact (bc hb1 hsz).trans d2
      have asz : w.heap.size < wa.heap.size := by rw [hwa]; exact Nat.lt_of_lt_of_le hsz hb1.size
      rw [← hwa]
      clear hwa hb1 d0 d1 d2 hsz hb hBr
      go_loopw [5] (fun i wr => ∃ k : Nat, k ≤ cn ∧ i = .int .i64 k ∧ Below (wa.heap.size) wa wr ∧ Hid (∀ i, i < k → cAt N R.cs i))
        (fun i _ => cn - (intOf i).toNat)
      case atStart => exact ⟨0, Nat.zero_le _, rfl, Below.refl _ _, by simp [Hid]⟩
      case round =>
        obtain ⟨m, hm, rfl, hb3, hall2⟩ := hrel
        have hBr2 := onto hBa hb3 hBa.size
        have hsz : w.heap.size < wr.heap.size := Nat.lt_of_lt_of_le asz hb3.size
        have d1 := (bc hb3 asz).trans a1
        have d2 := (bc hb3 asz).trans a2
        by_cases hlt : m < cn
        · have hkl : m < R.cs.length := by rw [← HC.out]; exact hlt
          have hw := hC.grow hBr2 hBr2.size
          obtain ⟨b, off, hA, hbB, c0, c1⟩ := CS.at_ hw (k := m) hkl
          have hstep : Hid (∀ (hh : inR R.cs[m].pos 0 N = true ∧ inR R.cs[m].siz 1 3 = true ∧ ∀ d, 0 < m → R.cs[m-1]? = some d → d.pos < R.cs[m].pos), ∀ i, i < m + 1 → cAt N R.cs i) := by
            intro hh i hi
            rcases Nat.lt_or_ge i m with h | h
            · exact hall2.out i h
            · obtain rfl : i = m := by omega
              intro c hc
              rw [List.getElem?_eq_getElem hkl] at hc
              cases hc
              exact hh
          have hno : Hid (∀ (hh : ¬ (inR R.cs[m].pos 0 N = true ∧ inR R.cs[m].siz 1 3 = true ∧ ∀ d, 0 < m → R.cs[m-1]? = some d → d.pos < R.cs[m].pos)), val R = false) := by
            intro hh
            refine val_bad (fun q => hh ?_)
            have := q.ck m hkl _ (List.getElem?_eq_getElem hkl)
            rw [← HN.out] at this
            exact this
          have hprev : 0 < m → ∃ d, Hid (R.cs[m-1]? = some d) ∧ wr.cell? ⟨b, off + (m-1) * 2, none⟩ = some (.int .i64 d.pos) := by
            intro h0
            obtain ⟨b', off', hA', _, c0', _⟩ := CS.at_ hw (k := m - 1) (by omega)
            rw [hA] at hA'
            cases hA'
            exact ⟨R.cs[m-1], List.getElem?_eq_getElem (by omega), c0'⟩
          generalize R.cs[m]'hkl = c at c0 c1 hstep hno
          clear hw hkl hall2
          subst hA
          have hcl : ∀ X : World, Below wr.heap.size wr X → Below w.heap.size w X := fun X hX => onto hBr2 hX hBr2.size
          cases e1 : inR c.pos 0 N
          · have hc := Lib.hid (hno.out (by simp [e1]))
            clear hno hstep hprev
            go_wp2
            go_quiet ((go_at_call 72; exact Calls.quiet_of_same ((in_any _ _ _ _).mono fun _ _ ⟨a, b⟩ => ⟨a, b.symm⟩)))
            go_wp2
            go_ret
            exact ⟨ret_bool hc.out.symm, hcl _ (below_drewN ((Below.refl _ _).alloc (Nat.le_refl _) _) _)⟩
          cases e2 : inR c.siz 1 3
          · have hc := Lib.hid (hno.out (by simp [e2]))
            clear hno hstep hprev
            go_wp2
            go_quiet ((go_at_call 72; exact Calls.quiet_of_same ((in_any _ _ _ _).mono fun _ _ ⟨a, b⟩ => ⟨a, b.symm⟩)))
            go_wp2
            go_ret
            exact ⟨ret_bool hc.out.symm, hcl _ (below_drewN ((Below.refl _ _).alloc (Nat.le_refl _) _) _)⟩
          by_cases hm0 : 0 < m
          · obtain ⟨d, hd, cd⟩ := hprev hm0
            have hg : decide ((0 : Int) < (m : Int)) = true := by simp; omega
            by_cases hlt2 : d.pos < c.pos
            · have hs' := Lib.hid (hstep.out ⟨e1, e2, fun d' _ h' => by rw [hd.out] at h'; cases h'; exact hlt2⟩)
              clear hno hstep hprev
              go_wp2
              go_quiet ((go_at_call 72; exact Calls.quiet_of_same ((in_any _ _ _ _).mono fun _ _ ⟨a, b⟩ => ⟨a, b.symm⟩)))
              go_wp2
              go_roundw
              case rel => exact ⟨m + 1, by omega, by go_num, onto hb3 (below_drewN ((Below.refl _ _).alloc (Nat.le_refl _) _) _) hb3.size, hs'⟩
              case measure => simp [intOf]; omega
            · have hc := Lib.hid (hno.out (by rintro ⟨_, _, h⟩; exact hlt2 (h d hm0 hd.out)))
              clear hno hstep hprev
              go_wp2
              go_quiet ((go_at_call 72; exact Calls.quiet_of_same ((in_any _ _ _ _).mono fun _ _ ⟨a, b⟩ => ⟨a, b.symm⟩)))
              go_wp2
              go_ret
              exact ⟨ret_bool hc.out.symm, hcl _ (below_drewN ((Below.refl _ _).alloc (Nat.le_refl _) _) _)⟩
          · have hg : decide ((0 : Int) < (m : Int)) = false := by simp; omega
            have hs' := Lib.hid (hstep.out ⟨e1, e2, fun d' h0 h' => absurd h0 hm0⟩)
            clear hno hstep hprev
            go_wp2
            go_quiet ((go_at_call 72; exact Calls.quiet_of_same ((in_any _ _ _ _).mono fun _ _ ⟨a, b⟩ => ⟨a, b.symm⟩)))
            go_wp2
            go_roundw
            case rel => exact ⟨m + 1, by omega, by go_num, onto hb3 (below_drewN ((Below.refl _ _).alloc (Nat.le_refl _) _) _) hb3.size, hs'⟩
            case measure => simp [intOf]; omega
        · obtain rfl : m = cn := by omega
          have HCk := Lib.hid hall2.out
          clear hall2
          go_wp2_with fail
          obtain ⟨wc, hwc⟩ : ∃ wc, wc = wr := ⟨_, rfl⟩
          rw [← hwc] at hBr2 d1 d2 hsz ⊢
          clear hwc d1 hb3
          have a2' := d2
          have asz' := hsz
          have hBa' := hBr2
          clear d2 hsz hBr2
          go_loopw [7] (fun i wr => ∃ k : Nat, k ≤ jn ∧ i = .int .i64 k ∧ Below (wc.heap.size) wc wr ∧ Hid (∀ i, i < k → jAt N R.js i))
            (fun i _ => jn - (intOf i).toNat)
          case atStart => exact ⟨0, Nat.zero_le _, rfl, Below.refl _ _, by simp [Hid]⟩
          case round =>
            obtain ⟨m, hm, rfl, hb3, hall2⟩ := hrel
            have hBr3 := onto hBa' hb3 hBa'.size
            have hsz3 : w.heap.size < wr.heap.size := Nat.lt_of_lt_of_le asz' hb3.size
            have d2 := (bc hb3 asz').trans a2'
            by_cases hlt : m < jn
            · have hkl : m < R.js.length := by rw [← HJ.out]; exact hlt
              have hw := hJ.grow hBr3 hBr3.size
              obtain ⟨b, off, hA, hbB, c0, c1, c2⟩ := JS.at_ hw (k := m) hkl
              have hstep : Hid (∀ (hh : inR R.js[m].pos 0 N = true ∧ inR R.js[m].arms 2 6 = true ∧ inR R.js[m].way 1 R.js[m].arms = true ∧ ∀ d, 0 < m → R.js[m-1]? = some d → d.pos < R.js[m].pos), ∀ i, i < m + 1 → jAt N R.js i) := by
                intro hh i hi
                rcases Nat.lt_or_ge i m with h | h
                · exact hall2.out i h
                · obtain rfl : i = m := by omega
                  intro c hc
                  rw [List.getElem?_eq_getElem hkl] at hc
                  cases hc
                  exact hh
              have hno : Hid (∀ (hh : ¬ (inR R.js[m].pos 0 N = true ∧ inR R.js[m].arms 2 6 = true ∧ inR R.js[m].way 1 R.js[m].arms = true ∧ ∀ d, 0 < m → R.js[m-1]? = some d → d.pos < R.js[m].pos)), val R = false) := by
                intro hh
                refine val_bad (fun q => hh ?_)
                have := q.jk m hkl _ (List.getElem?_eq_getElem hkl)
                rw [← HN.out] at this
                exact this
              have hprev : 0 < m → ∃ d, Hid (R.js[m-1]? = some d) ∧ wr.cell? ⟨b, off + (m-1) * 3, none⟩ = some (.int .i64 d.pos) := by
                intro h0
                obtain ⟨b', off', hA', _, c0', _⟩ := JS.at_ hw (k := m - 1) (by omega)
                rw [hA] at hA'
                cases hA'
                exact ⟨R.js[m-1], List.getElem?_eq_getElem (by omega), c0'⟩
              generalize R.js[m]'hkl = c at c0 c1 c2 hstep hno
              clear hw hkl hall2
              subst hA
              have hcl : ∀ X : World, Below wr.heap.size wr X → Below w.heap.size w X := fun X hX => onto hBr3 hX hBr3.size
              cases e1 : inR c.pos 0 N
              · have hc := Lib.hid (hno.out (by simp [e1]))
                clear hno hstep hprev
                go_wp2
                go_quiet ((go_at_call 72; exact Calls.quiet_of_same ((in_any _ _ _ _).mono fun _ _ ⟨a, b⟩ => ⟨a, b.symm⟩)))
                go_wp2
                go_ret
                exact ⟨ret_bool hc.out.symm, hcl _ (below_drewN ((Below.refl _ _).alloc (Nat.le_refl _) _) _)⟩
              cases e2 : inR c.arms 2 6
              · have hc := Lib.hid (hno.out (by simp [e2]))
                clear hno hstep hprev
                go_wp2
                go_quiet ((go_at_call 72; exact Calls.quiet_of_same ((in_any _ _ _ _).mono fun _ _ ⟨a, b⟩ => ⟨a, b.symm⟩)))
                go_wp2
                go_ret
                exact ⟨ret_bool hc.out.symm, hcl _ (below_drewN ((Below.refl _ _).alloc (Nat.le_refl _) _) _)⟩
              cases e3 : inR c.way 1 c.arms
              · have hc := Lib.hid (hno.out (by simp [e3]))
                clear hno hstep hprev
                go_wp2
                go_quiet ((go_at_call 72; exact Calls.quiet_of_same ((in_any _ _ _ _).mono fun _ _ ⟨a, b⟩ => ⟨a, b.symm⟩)))
                go_wp2
                go_ret
                exact ⟨ret_bool hc.out.symm, hcl _ (below_drewN ((Below.refl _ _).alloc (Nat.le_refl _) _) _)⟩
              by_cases hm0 : 0 < m
              · obtain ⟨d, hd, cd⟩ := hprev hm0
                have hg : decide ((0 : Int) < (m : Int)) = true := by simp; omega
                by_cases hlt2 : d.pos < c.pos
                · have hs' := Lib.hid (hstep.out ⟨e1, e2, e3, fun d' _ h' => by rw [hd.out] at h'; cases h'; exact hlt2⟩)
                  clear hno hstep hprev
                  go_wp2
                  go_quiet ((go_at_call 72; exact Calls.quiet_of_same ((in_any _ _ _ _).mono fun _ _ ⟨a, b⟩ => ⟨a, b.symm⟩)))
                  go_wp2
                  go_roundw
                  case rel => exact ⟨m + 1, by omega, by go_num, onto hb3 (below_drewN ((Below.refl _ _).alloc (Nat.le_refl _) _) _) hb3.size, hs'⟩
                  case measure => simp [intOf]; omega
                · have hc := Lib.hid (hno.out (by rintro ⟨_, _, _, h⟩; exact hlt2 (h d hm0 hd.out)))
                  clear hno hstep hprev
                  go_wp2
                  go_quiet ((go_at_call 72; exact Calls.quiet_of_same ((in_any _ _ _ _).mono fun _ _ ⟨a, b⟩ => ⟨a, b.symm⟩)))
                  go_wp2
                  go_ret
                  exact ⟨ret_bool hc.out.symm, hcl _ (below_drewN ((Below.refl _ _).alloc (Nat.le_refl _) _) _)⟩
              · have hg : decide ((0 : Int) < (m : Int)) = false := by simp; omega
                have hs' := Lib.hid (hstep.out ⟨e1, e2, e3, fun d' h0 h' => absurd h0 hm0⟩)
                clear hno hstep hprev
                go_wp2
                go_quiet ((go_at_call 72; exact Calls.quiet_of_same ((in_any _ _ _ _).mono fun _ _ ⟨a, b⟩ => ⟨a, b.symm⟩)))
                go_wp2
                go_roundw
                case rel => exact ⟨m + 1, by omega, by go_num, onto hb3 (below_drewN ((Below.refl _ _).alloc (Nat.le_refl _) _) _) hb3.size, hs'⟩
                case measure => simp [intOf]; omega
            · obtain rfl : m = jn := by omega
              have hall3 := Lib.hid hall2.out
              clear hall2
              have hgood : N ≤ 100000 → OK R := fun hn => ⟨by rw [← HP.out]; exact h1, by rw [← HP.out]; exact h2, by rw [← HC.out]; exact h3, by rw [← HJ.out]; exact h4, hall'.out, by rw [← HN.out]; exact hn,
                fun i hi => by rw [← HN.out]; exact HCk.out i (by rw [HC.out]; exact hi), fun i hi => by rw [← HN.out]; exact hall3.out i (by rw [HJ.out]; exact hi)⟩
              have hc : Hid (decide (N ≤ 100000) = val R) := by
                by_cases hn : N ≤ 100000
                · rw [val_ok (hgood hn)]; exact decide_eq_true hn
                · rw [val_bad (fun q => hn (by rw [HN.out]; exact q.n1))]; exact decide_eq_false hn
              clear hgood
              go_wp2_with fail
              go_ret
              exact ⟨ret_bool hc.out, hBr3⟩
end Go.Proofs.YtafclpmnpamipaaGreat
