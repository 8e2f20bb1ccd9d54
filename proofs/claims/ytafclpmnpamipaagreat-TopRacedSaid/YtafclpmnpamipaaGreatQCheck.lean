/- road.Check and the reference's Valid: which roads are as defined. -/
import Derived.Test.YtafclpmnpamipaaGreatQLeaf
namespace Go.Proofs.YtafclpmnpamipaaGreat
open Go.RowKit Go.Proofs

theorem take_mem {α : Type} {l : List α} {k : Nat} (hk : k < l.length) {P : α → Prop} (h : ∀ p ∈ l.take k, P p) (hx : P l[k]) : ∀ p ∈ l.take (k + 1), P p := by
  rw [List.take_succ_eq_append_getElem hk]
  intro p hp
  rcases List.mem_append.1 hp with h1 | h1
  · exact h p h1
  · simp at h1; subst h1; exact hx
set_option maxHeartbeats 4000000 in
theorem Check_any (pa : Option Addr) (pn pc : Nat) (ca : Option Addr) (cn cc : Nat) (ja : Option Addr) (jn jc : Nat) (R : Road) (w : World)
    (h : RD w w.heap.size pa pn ca cn ja jn R) :
    Calls Tryz.prog 77 #[.agg #[.slice pa pn pc, .slice ca cn cc, .slice ja jn jc]] w fun e w' => e = .returned (.int .i64 (chk R)) ∧ Below w.heap.size w w' := by
  obtain ⟨hP, hC, hJ⟩ := h
  have hW0 : Below w.heap.size w (w.alloc (.cells #[.slice pa pn pc, .slice ca cn cc, .slice ja jn jc] 26)) := (Below.refl w.heap.size w).alloc (Nat.le_refl _) _
  by_cases hs : 1 ≤ pn ∧ pn ≤ 2000 ∧ cn ≤ 1000 ∧ jn ≤ 200
  case neg =>
    have hbad : ¬ OK R := fun k => hs ⟨by rw [hP.1]; exact k.p1, by rw [hP.1]; exact k.p2, by rw [hC.1]; exact k.c1, by rw [hJ.1]; exact k.j1⟩
    rw [chk_bad hbad]
    by_cases h1 : 1 ≤ pn ∧ pn ≤ 2000
    · have hin : inR (pn : Int) 1 2000 = true := by simp [inR]; omega
      go_enter Tryz.func77, Tryz.ntmps77
      go_wp2_with (go_at_call 125; refine (within_any _ _ _ _).mono ?_; rintro e w' ⟨rfl, rfl⟩)
      all_goals first | (go_ret; exact ⟨rfl, hW0⟩) | (exfalso; omega)
    · have hin : inR (pn : Int) 1 2000 = false := by
        rw [Bool.eq_false_iff]; simp [inR]; omega
      go_enter Tryz.func77, Tryz.ntmps77
      go_wp2_with (go_at_call 125; refine (within_any _ _ _ _).mono ?_; rintro e w' ⟨rfl, rfl⟩)
      go_ret
      exact ⟨rfl, hW0⟩
  obtain ⟨h1, h2, h3, h4⟩ := hs
  have hin : inR (pn : Int) 1 2000 = true := by simp [inR]; omega
  have hlp := hP.1
  have hlc := hC.1
  have hlj := hJ.1
  go_enter Tryz.func77, Tryz.ntmps77
  have HP := Lib.hid hlp
  have HC := Lib.hid hlc
  have HJ := Lib.hid hlj
  clear hlp hlc hlj
  go_wp2_with (go_at_call 125; refine (within_any _ _ _ _).mono ?_; rintro e w' ⟨rfl, rfl⟩)
  clear hin
  go_loopw [3, 30] (fun s i wr => ∃ k : Nat, k ≤ pn ∧ i = .int .i64 k ∧ s = .int .i64 (sumL (R.ps.take k)) ∧ Below (w.heap.size + 1) (w.alloc (.cells #[.slice pa pn pc, .slice ca cn cc, .slice ja jn jc] 26)) wr ∧ Hid (∀ p ∈ R.ps.take k, pOk p = true))
    (fun _ i _ => pn - (intOf i).toNat)
  case atStart => exact ⟨0, Nat.zero_le _, rfl, rfl, Below.refl _ _, by simp [Hid]⟩
  case round =>
    obtain ⟨k, hk, rfl, rfl, hb, hall⟩ := hrel
    have hbd := sumL_take_bd R.ps k hall.out (by rw [← HP.out]; exact h2)
    have hbd1 := hbd.1
    have hbd2 := hbd.2
    clear hbd
    by_cases hlt : k < pn
    · have hkl : k < R.ps.length := by rw [← HP.out]; exact hlt
      have hw := ((hP.below hW0).more (B' := w.heap.size + 1) (by omega)).below hb
      obtain ⟨b, off, hA, hbB, c0, c1, c2, c3, c4⟩ := PS.at_ hw (k := k) hkl
      have hst := Lib.hid (sumL_take R.ps k hkl)
      have htm := Lib.hid (fun x => take_mem (P := fun p => pOk p = true) hkl hall.out x)
      have hmem := Lib.hid (List.getElem_mem hkl)
      generalize R.ps[k]'hkl = p at c0 c1 c2 c3 c4 hst htm hmem
      clear hw hkl hall
      subst hA
      have hBr : Below w.heap.size w wr := hW0.trans (hb.mono (by omega))
      by_cases hp : pOk p = true
      · have hl1 := (pOk_len hp).1
        have hl2 := (pOk_len hp).2
        go_wp2_with (go_at_call 126; refine (piece_any p _).mono ?_; rintro e w1 ⟨rfl, hb1⟩; have d0 : w1.cell? ⟨wr.heap.size, 0, none⟩ = some (.int .i64 p.len) := (hb1.cell (p := ⟨wr.heap.size, 0, none⟩) (by simp)).trans (by simp))
        have hb2 : Below (w.heap.size + 1) (w.alloc (.cells #[.slice (some ⟨b, off, none⟩) pn pc, .slice ca cn cc, .slice ja jn jc] 26)) w1 := (hb.alloc (by have := hb.size; simpa using this) _).trans (hb1.mono (by have := hb.size; simp at *; omega))
        go_roundw
        case rel => exact ⟨k + 1, by omega, by go_num, by rw [hst.out], hb2, htm.out hp⟩
        case measure => simp [intOf]; omega
      · have hp' : pOk p = false := by simpa using hp
        have hbad : ¬ OK R := fun q => hp (q.pk p hmem.out)
        have hc := Lib.hid (chk_bad hbad)
        go_wp2_with (go_at_call 126; refine (piece_any p _).mono ?_; rintro e w1 ⟨rfl, hb1⟩)
        go_ret
        exact ⟨ret_int hc.out.symm, hBr.trans (((Below.refl _ _).alloc (Nat.le_refl _) _ |>.trans (hb1.mono (by simp))).mono hBr.size)⟩
    · obtain rfl : k = pn := by omega
      have hall' : Hid (∀ p ∈ R.ps, pOk p = true) := by
        have := hall.out
        rw [HP.out, List.take_length] at this
        exact this
      have HN := Lib.hid (show sumL (R.ps.take k) = sumL R.ps by rw [HP.out, List.take_length])
      have hBr : Below w.heap.size w wr := hW0.trans (hb.mono (by omega))
      have d1 : wr.cell? ⟨w.heap.size, 1, none⟩ = some (.slice ca cn cc) := (hb.cell (p := ⟨w.heap.size, 1, none⟩) (by simp)).trans (by simp)
      have d2 : wr.cell? ⟨w.heap.size, 2, none⟩ = some (.slice ja jn jc) := (hb.cell (p := ⟨w.heap.size, 2, none⟩) (by simp)).trans (by simp)
      clear hall
      by_cases hn : sumL (R.ps.take k) ≤ 100000
      case neg =>
        have hc := Lib.hid (chk_bad (fun q => hn (by rw [HN.out]; exact q.n1)))
        go_wp2_with fail
        go_ret
        exact ⟨ret_int hc.out.symm, hBr⟩
      go_wp2_with fail
      obtain ⟨N, hN⟩ : ∃ N, N = sumL (R.ps.take k) := ⟨_, rfl⟩
      rw [← hN] at hn HN hbd1 ⊢
      clear hbd2
      have HN2 := Lib.hid hN
      clear hN
      obtain ⟨wa, hwa⟩ : ∃ wa, wa = wr := ⟨_, rfl⟩
      rw [← hwa] at hBr d1 d2 hb ⊢
      clear hwa
      go_loopw [47] (fun i wr => ∃ k : Nat, k ≤ cn ∧ i = .int .i64 k ∧ Below (wa.heap.size) wa wr ∧ Hid (∀ i, i < k → cAt N R.cs i))
        (fun i _ => cn - (intOf i).toNat)
      case atStart => exact ⟨0, Nat.zero_le _, rfl, Below.refl _ _, by simp [Hid]⟩
      case round =>
        obtain ⟨m, hm, rfl, hb2, hall2⟩ := hrel
        have hBr2 := hBr.trans (hb2.mono hBr.size)
        have hsz : w.heap.size < wr.heap.size := by have h1 := hb.size; have h2 := hb2.size; simp at h1; omega
        have d1' : wr.cell? ⟨w.heap.size, 1, none⟩ = some (.slice ca cn cc) := (bc hb2 (by have := hb.size; simp at this; omega)).trans d1
        have d2' : wr.cell? ⟨w.heap.size, 2, none⟩ = some (.slice ja jn jc) := (bc hb2 (by have := hb.size; simp at this; omega)).trans d2
        by_cases hlt : m < cn
        · have hkl : m < R.cs.length := by rw [← HC.out]; exact hlt
          have hw := hC.grow hBr2 hBr2.size
          obtain ⟨b, off, hA, hbB, c0, c1⟩ := CS.at_ hw (k := m) hkl
          have hstep : Hid (∀ (hh : inR R.cs[m].pos 0 N = true ∧ inR R.cs[m].siz 1 3 = true ∧ ∀ d, 0 < m → R.cs[m-1]? = some d → d.pos < R.cs[m].pos), ∀ i, i < m + 1 → cAt N R.cs i) := by
            intro hh i hi
            rcases Nat.lt_or_ge i m with h | h
            · exact hall2.out i h
            · obtain rfl : i = m := by omega
              intro c hc
              rw [List.getElem?_eq_getElem hkl] at hc
              cases hc
              exact hh
          have hno : Hid (∀ (hh : ¬ (inR R.cs[m].pos 0 N = true ∧ inR R.cs[m].siz 1 3 = true ∧ ∀ d, 0 < m → R.cs[m-1]? = some d → d.pos < R.cs[m].pos)), chk R = 2) := by
            intro hh
            refine chk_bad (fun q => hh ?_)
            have := q.ck m hkl _ (List.getElem?_eq_getElem hkl)
            rw [← HN.out] at this
            exact this
          have hprev : 0 < m → ∃ d, Hid (R.cs[m-1]? = some d) ∧ wr.cell? ⟨b, off + (m-1) * 2, none⟩ = some (.int .i64 d.pos) := by
            intro h0
            obtain ⟨b', off', hA', _, c0', _⟩ := CS.at_ hw (k := m - 1) (by omega)
            rw [hA] at hA'
            cases hA'
            exact ⟨R.cs[m-1], List.getElem?_eq_getElem (by omega), c0'⟩
          generalize R.cs[m]'hkl = c at c0 c1 hstep hno
          clear hw hkl hall2
          subst hA
          have hcl : ∀ X : World, Below wr.heap.size wr X → Below w.heap.size w X := fun X hX => onto hBr2 hX hBr2.size
          cases e1 : inR c.pos 0 N
          · have hc := Lib.hid (hno.out (by simp [e1]))
            clear hno hstep hprev
            go_wp2
            go_quiet ((go_at_call 125; exact Calls.quiet_of_same ((within_any _ _ _ _).mono fun _ _ ⟨a, b⟩ => ⟨a, b.symm⟩)))
            go_wp2
            go_ret
            exact ⟨ret_int hc.out.symm, hcl _ (below_drewN ((Below.refl _ _).alloc (Nat.le_refl _) _) _)⟩
          cases e2 : inR c.siz 1 3
          · have hc := Lib.hid (hno.out (by simp [e2]))
            clear hno hstep hprev
            go_wp2
            go_quiet ((go_at_call 125; exact Calls.quiet_of_same ((within_any _ _ _ _).mono fun _ _ ⟨a, b⟩ => ⟨a, b.symm⟩)))
            go_wp2
            go_ret
            exact ⟨ret_int hc.out.symm, hcl _ (below_drewN ((Below.refl _ _).alloc (Nat.le_refl _) _) _)⟩
          by_cases hm0 : 0 < m
          · obtain ⟨d, hd, cd⟩ := hprev hm0
            have hg : decide ((0 : Int) < (m : Int)) = true := by simp; omega
            by_cases hlt2 : d.pos < c.pos
            · have hs' := Lib.hid (hstep.out ⟨e1, e2, fun d' _ h' => by rw [hd.out] at h'; cases h'; exact hlt2⟩)
              clear hno hstep hprev
              go_wp2
              go_quiet ((go_at_call 125; exact Calls.quiet_of_same ((within_any _ _ _ _).mono fun _ _ ⟨a, b⟩ => ⟨a, b.symm⟩)))
              go_wp2
              go_roundw
              case rel => exact ⟨m + 1, by omega, by go_num, onto hb2 (below_drewN ((Below.refl _ _).alloc (Nat.le_refl _) _) _) hb2.size, hs'⟩
              case measure => simp [intOf]; omega
            · have hc := Lib.hid (hno.out (by rintro ⟨_, _, h⟩; exact hlt2 (h d hm0 hd.out)))
              clear hno hstep hprev
              go_wp2
              go_quiet ((go_at_call 125; exact Calls.quiet_of_same ((within_any _ _ _ _).mono fun _ _ ⟨a, b⟩ => ⟨a, b.symm⟩)))
              go_wp2
              go_ret
              exact ⟨ret_int hc.out.symm, hcl _ (below_drewN ((Below.refl _ _).alloc (Nat.le_refl _) _) _)⟩
          · have hg : decide ((0 : Int) < (m : Int)) = false := by simp; omega
            have hs' := Lib.hid (hstep.out ⟨e1, e2, fun d' h0 h' => absurd h0 hm0⟩)
            clear hno hstep hprev
            go_wp2
            go_quiet ((go_at_call 125; exact Calls.quiet_of_same ((within_any _ _ _ _).mono fun _ _ ⟨a, b⟩ => ⟨a, b.symm⟩)))
            go_wp2
            go_roundw
            case rel => exact ⟨m + 1, by omega, by go_num, onto hb2 (below_drewN ((Below.refl _ _).alloc (Nat.le_refl _) _) _) hb2.size, hs'⟩
            case measure => simp [intOf]; omega
        · obtain rfl : m = cn := by omega
          have HCk := Lib.hid hall2.out
          clear hall2
          go_wp2_with fail
          obtain ⟨wc, hwc⟩ : ∃ wc, wc = wr := ⟨_, rfl⟩
          rw [← hwc] at hBr2 d1' d2' hb2 hsz ⊢
          clear hwc d1'
          go_loopw [83] (fun i wr => ∃ k : Nat, k ≤ jn ∧ i = .int .i64 k ∧ Below (wc.heap.size) wc wr ∧ Hid (∀ i, i < k → jAt N R.js i))
            (fun i _ => jn - (intOf i).toNat)
          case atStart => exact ⟨0, Nat.zero_le _, rfl, Below.refl _ _, by simp [Hid]⟩
          case round =>
            obtain ⟨m, hm, rfl, hb3, hall2⟩ := hrel
            have hBr3 := hBr2.trans (hb3.mono hBr2.size)
            have hsz3 : w.heap.size < wr.heap.size := by have h2 := hb3.size; omega
            have d2 : wr.cell? ⟨w.heap.size, 2, none⟩ = some (.slice ja jn jc) := (bc hb3 (by omega)).trans d2'
            by_cases hlt : m < jn
            · have hkl : m < R.js.length := by rw [← HJ.out]; exact hlt
              have hw := hJ.grow hBr3 hBr3.size
              obtain ⟨b, off, hA, hbB, c0, c1, c2⟩ := JS.at_ hw (k := m) hkl
              have hstep : Hid (∀ (hh : inR R.js[m].pos 0 N = true ∧ inR R.js[m].arms 2 6 = true ∧ inR R.js[m].way 1 R.js[m].arms = true ∧ ∀ d, 0 < m → R.js[m-1]? = some d → d.pos < R.js[m].pos), ∀ i, i < m + 1 → jAt N R.js i) := by
                intro hh i hi
                rcases Nat.lt_or_ge i m with h | h
                · exact hall2.out i h
                · obtain rfl : i = m := by omega
                  intro c hc
                  rw [List.getElem?_eq_getElem hkl] at hc
                  cases hc
                  exact hh
              have hno : Hid (∀ (hh : ¬ (inR R.js[m].pos 0 N = true ∧ inR R.js[m].arms 2 6 = true ∧ inR R.js[m].way 1 R.js[m].arms = true ∧ ∀ d, 0 < m → R.js[m-1]? = some d → d.pos < R.js[m].pos)), chk R = 2) := by
                intro hh
                refine chk_bad (fun q => hh ?_)
                have := q.jk m hkl _ (List.getElem?_eq_getElem hkl)
                rw [← HN.out] at this
                exact this
              have hprev : 0 < m → ∃ d, Hid (R.js[m-1]? = some d) ∧ wr.cell? ⟨b, off + (m-1) * 3, none⟩ = some (.int .i64 d.pos) := by
                intro h0
                obtain ⟨b', off', hA', _, c0', _⟩ := JS.at_ hw (k := m - 1) (by omega)
                rw [hA] at hA'
                cases hA'
                exact ⟨R.js[m-1], List.getElem?_eq_getElem (by omega), c0'⟩
              generalize R.js[m]'hkl = c at c0 c1 c2 hstep hno
              clear hw hkl hall2
              subst hA
              have hcl : ∀ X : World, Below wr.heap.size wr X → Below w.heap.size w X := fun X hX => onto hBr3 hX hBr3.size
              cases e1 : inR c.pos 0 N
              · have hc := Lib.hid (hno.out (by simp [e1]))
                clear hno hstep hprev
                go_wp2
                go_quiet ((go_at_call 125; exact Calls.quiet_of_same ((within_any _ _ _ _).mono fun _ _ ⟨a, b⟩ => ⟨a, b.symm⟩)))
                go_wp2
                go_ret
                exact ⟨ret_int hc.out.symm, hcl _ (below_drewN ((Below.refl _ _).alloc (Nat.le_refl _) _) _)⟩
              cases e2 : inR c.arms 2 6
              · have hc := Lib.hid (hno.out (by simp [e2]))
                clear hno hstep hprev
                go_wp2
                go_quiet ((go_at_call 125; exact Calls.quiet_of_same ((within_any _ _ _ _).mono fun _ _ ⟨a, b⟩ => ⟨a, b.symm⟩)))
                go_wp2
                go_ret
                exact ⟨ret_int hc.out.symm, hcl _ (below_drewN ((Below.refl _ _).alloc (Nat.le_refl _) _) _)⟩
              cases e3 : inR c.way 1 c.arms
              · have hc := Lib.hid (hno.out (by simp [e3]))
                clear hno hstep hprev
                go_wp2
                go_quiet ((go_at_call 125; exact Calls.quiet_of_same ((within_any _ _ _ _).mono fun _ _ ⟨a, b⟩ => ⟨a, b.symm⟩)))
                go_wp2
                go_ret
                exact ⟨ret_int hc.out.symm, hcl _ (below_drewN ((Below.refl _ _).alloc (Nat.le_refl _) _) _)⟩
              by_cases hm0 : 0 < m
              · obtain ⟨d, hd, cd⟩ := hprev hm0
                have hg : decide ((0 : Int) < (m : Int)) = true := by simp; omega
                by_cases hlt2 : d.pos < c.pos
                · have hs' := Lib.hid (hstep.out ⟨e1, e2, e3, fun d' _ h' => by rw [hd.out] at h'; cases h'; exact hlt2⟩)
                  clear hno hstep hprev
                  go_wp2
                  go_quiet ((go_at_call 125; exact Calls.quiet_of_same ((within_any _ _ _ _).mono fun _ _ ⟨a, b⟩ => ⟨a, b.symm⟩)))
                  go_wp2
                  go_roundw
                  case rel => exact ⟨m + 1, by omega, by go_num, onto hb3 (below_drewN ((Below.refl _ _).alloc (Nat.le_refl _) _) _) hb3.size, hs'⟩
                  case measure => simp [intOf]; omega
                · have hc := Lib.hid (hno.out (by rintro ⟨_, _, _, h⟩; exact hlt2 (h d hm0 hd.out)))
                  clear hno hstep hprev
                  go_wp2
                  go_quiet ((go_at_call 125; exact Calls.quiet_of_same ((within_any _ _ _ _).mono fun _ _ ⟨a, b⟩ => ⟨a, b.symm⟩)))
                  go_wp2
                  go_ret
                  exact ⟨ret_int hc.out.symm, hcl _ (below_drewN ((Below.refl _ _).alloc (Nat.le_refl _) _) _)⟩
              · have hg : decide ((0 : Int) < (m : Int)) = false := by simp; omega
                have hs' := Lib.hid (hstep.out ⟨e1, e2, e3, fun d' h0 h' => absurd h0 hm0⟩)
                clear hno hstep hprev
                go_wp2
                go_quiet ((go_at_call 125; exact Calls.quiet_of_same ((within_any _ _ _ _).mono fun _ _ ⟨a, b⟩ => ⟨a, b.symm⟩)))
                go_wp2
                go_roundw
                case rel => exact ⟨m + 1, by omega, by go_num, onto hb3 (below_drewN ((Below.refl _ _).alloc (Nat.le_refl _) _) _) hb3.size, hs'⟩
                case measure => simp [intOf]; omega
            · obtain rfl : m = jn := by omega
              have hgood : OK R := ⟨by rw [← HP.out]; exact h1, by rw [← HP.out]; exact h2, by rw [← HC.out]; exact h3, by rw [← HJ.out]; exact h4, hall'.out, by rw [← HN.out]; exact hn,
                fun i hi => by rw [← HN.out]; exact HCk.out i (by rw [HC.out]; exact hi), fun i hi => by rw [← HN.out]; exact hall2.out i (by rw [HJ.out]; exact hi)⟩
              have hc := Lib.hid (chk_ok hgood)
              clear hgood hall2
              go_wp2_with fail
              go_ret
              exact ⟨ret_int hc.out.symm, hBr3⟩
end Go.Proofs.YtafclpmnpamipaaGreat
