/- The grid of costs of note.mended: cells, rows. Printed by genmend.py. -/
import Derived.Test.YtnmipejpjeakbaaGreatDoorPNList
import Derived.Test.YtnmipejpjeakbaaGreatDoorPMake
namespace Go.Proofs.YtnmipejpjeakbaaGreatDoor
open Go.RowKit Go.Shelf Go.Sort Go.Proofs

/-- Rows from i on lie there; rows beyond i are full, row i is full from column j on. -/
structure GR (a b : List NoteR) (n m : Nat) (w : World) (cb rb i j : Nat) : Prop where
  c : ∃ cs, BK w cb 3 cs ∧ cs.size = (n + 1) * (m + 1) ∧ ∀ r j', r ≤ n → j' ≤ m → (i < r ∨ r = i ∧ j ≤ j') → cs[r * (m + 1) + j']? = some (.int .i64 (cst (a.drop r) (b.drop j') : Nat))
  r : ∃ rs, BK w rb 46 rs ∧ rs.size = n + 1 ∧ ∀ r, r ≤ n → i ≤ r → rs[r]? = some (.slice (some ⟨cb, r * (m + 1), none⟩) (m + 1) (m + 1))
theorem ix_lt {n m r j : Nat} (hr : r ≤ n) (hj : j ≤ m) : r * (m + 1) + j < (n + 1) * (m + 1) := by
  have h1 : r * (m + 1) ≤ n * (m + 1) := Nat.mul_le_mul_right _ hr
  rw [Nat.succ_mul]
  omega
theorem ix_inj {m r j r' j' : Nat} (hj : j ≤ m) (hj' : j' ≤ m) (h : r * (m + 1) + j = r' * (m + 1) + j') : r = r' ∧ j = j' := by
  have h1 : (r * (m + 1) + j) / (m + 1) = r := by rw [Nat.add_comm, Nat.add_mul_div_right _ _ (by omega), Nat.div_eq_of_lt (by omega), Nat.zero_add]
  have h2 : (r' * (m + 1) + j') / (m + 1) = r' := by rw [Nat.add_comm, Nat.add_mul_div_right _ _ (by omega), Nat.div_eq_of_lt (by omega), Nat.zero_add]
  rw [h, h2] at h1
  subst h1
  exact ⟨rfl, by omega⟩
section
variable {a b : List NoteR} {n m : Nat} {w w' : World} {cb rb i j : Nat}
theorem GR.same (h : GR a b n m w cb rb i j) (h1 : w'.heap[cb]? = w.heap[cb]?) (h2 : w'.heap[rb]? = w.heap[rb]?) : GR a b n m w' cb rb i j := by
  obtain ⟨⟨cs, hc, hc1, hc2⟩, ⟨rs, hr, hr1, hr2⟩⟩ := h
  exact ⟨⟨cs, hc.same h1, hc1, hc2⟩, ⟨rs, hr.same h2, hr1, hr2⟩⟩
theorem GR.row (h : GR a b n m w cb rb i j) {r : Nat} (hr : r ≤ n) (hi : i ≤ r) : w.cell? ⟨rb, r, none⟩ = some (.slice (some ⟨cb, r * (m + 1), none⟩) (m + 1) (m + 1)) := by
  obtain ⟨-, ⟨rs, h1, -, h2⟩⟩ := h
  rw [h1.cell r, h2 r hr hi]
theorem GR.at_ (h : GR a b n m w cb rb i j) {r j' : Nat} (hr : r ≤ n) (hj : j' ≤ m) (hi : i < r ∨ r = i ∧ j ≤ j') : w.cell? ⟨cb, r * (m + 1) + j', none⟩ = some (.int .i64 (cst (a.drop r) (b.drop j') : Nat)) := by
  obtain ⟨⟨cs, h1, -, h2⟩, -⟩ := h
  rw [h1.cell _, h2 r j' hr hj hi]
theorem GR.some_ (h : GR a b n m w cb rb i j) {r j' : Nat} (hr : r ≤ n) (hj : j' ≤ m) : ∃ v, w.cell? ⟨cb, r * (m + 1) + j', none⟩ = some v := by
  obtain ⟨⟨cs, h1, h2, -⟩, -⟩ := h
  rw [h1.cell _]
  exact ⟨_, Array.getElem?_eq_getElem (by rw [h2]; exact ix_lt hr hj)⟩
theorem GR.put (h : GR a b n m w cb rb i (j + 1)) (hne : cb ≠ rb) (hi : i ≤ n) (hj : j ≤ m) (v : Int) (hv : v = (cst (a.drop i) (b.drop j) : Nat)) : GR a b n m (w.setCell ⟨cb, i * (m + 1) + j, none⟩ (.int .i64 v)) cb rb i j := by
  subst hv
  obtain ⟨⟨cs, hc, hc1, hc2⟩, ⟨rs, hr, hr1, hr2⟩⟩ := h
  refine ⟨⟨_, hc.set_ _ _, by simpa using hc1, fun r j' h1 h2 h3 => ?_⟩, ⟨rs, hr.far (p := ⟨cb, _, none⟩) (by simpa using Ne.symm hne) _, hr1, hr2⟩⟩
  by_cases e : r * (m + 1) + j' = i * (m + 1) + j
  · obtain ⟨rfl, rfl⟩ := ix_inj h2 hj e
    rw [Array.getElem?_setIfInBounds, if_pos rfl, if_pos (by rw [hc1]; exact ix_lt hi hj)]
  · rw [Array.getElem?_setIfInBounds, if_neg (fun q => e q.symm)]
    refine hc2 r j' h1 h2 ?_
    rcases h3 with h3 | ⟨rfl, h3⟩
    · exact .inl h3
    · refine .inr ⟨rfl, ?_⟩
      rcases Nat.lt_or_ge j j' with h4 | h4
      · exact h4
      · exact absurd (by rw [show j' = j by omega]) e
theorem GR.scr (h : GR a b n m w cb rb i (j + 1)) (hne : cb ≠ rb) (hi : i ≤ n) (hj : j ≤ m) (u : Value) : GR a b n m (w.setCell ⟨cb, i * (m + 1) + j, none⟩ u) cb rb i (j + 1) ∧ (w.setCell ⟨cb, i * (m + 1) + j, none⟩ u).cell? ⟨cb, i * (m + 1) + j, none⟩ = some u := by
  obtain ⟨⟨cs, hc, hc1, hc2⟩, ⟨rs, hr, hr1, hr2⟩⟩ := h
  refine ⟨⟨⟨_, hc.set_ _ _, by simpa using hc1, fun r j' h1 h2 h3 => ?_⟩, ⟨rs, hr.far (p := ⟨cb, _, none⟩) (by simpa using Ne.symm hne) _, hr1, hr2⟩⟩, ?_⟩
  · by_cases e : r * (m + 1) + j' = i * (m + 1) + j
    · obtain ⟨rfl, rfl⟩ := ix_inj h2 hj e
      rcases h3 with h3 | ⟨-, h3⟩ <;> omega
    · rw [Array.getElem?_setIfInBounds, if_neg (fun q => e q.symm)]
      exact hc2 r j' h1 h2 h3
  · rw [(hc.set_ _ u).cell, Array.getElem?_setIfInBounds, if_pos rfl, if_pos (by rw [hc1]; exact ix_lt hi hj)]
theorem GR.fz (h : GR a b n m w cb rb i j) (k : Nat) : w.frozen? ⟨cb, k, none⟩ = false ∧ w.frozen? ⟨rb, k, none⟩ = false := by
  obtain ⟨⟨cs, hc, hc1, hc2⟩, ⟨rs, hr, hr1, hr2⟩⟩ := h
  exact ⟨hc.frozen k, hr.frozen k⟩
theorem GR.row_some (h : GR a b n m w cb rb i j) {r : Nat} (hr : r ≤ n) : ∃ v, w.cell? ⟨rb, r, none⟩ = some v := by
  obtain ⟨-, ⟨rs, h1, h2, -⟩⟩ := h
  rw [h1.cell _]
  exact ⟨_, Array.getElem?_eq_getElem (by rw [h2]; omega)⟩
theorem GR.lt (h : GR a b n m w cb rb i j) : cb < w.heap.size ∧ rb < w.heap.size := by
  obtain ⟨⟨cs, hc, -⟩, ⟨rs, hr, -⟩⟩ := h
  exact ⟨hc.lt, hr.lt⟩
theorem GR.below (h : GR a b n m w cb rb i j) (hb : Below w.heap.size w w') : GR a b n m w' cb rb i j := h.same (hb.block _ h.lt.1) (hb.block _ h.lt.2)
theorem GR.app {f : EdR → List Value} {base A k c g c' xs w1 y} (h : GR a b n m w cb rb i j) (hO : OW f 12 83 base w A k c xs) {o : Obj} (hap : App1 f 12 83 base (w.alloc o) A k c xs y g c' w1) : GR a b n m w1 cb rb i j := by
  obtain ⟨⟨cs, hc, hc1, hc2⟩, ⟨rs, hr, hr1, hr2⟩⟩ := h
  have f1 := (hap.far cb (by have := hc.lt; rw [World.size_alloc]; omega) (fun q hq e => OW.bk_ne hO hc (by decide) hq e)).trans (Below.heap_alloc w o cb hc.lt)
  have f2 := (hap.far rb (by have := hr.lt; rw [World.size_alloc]; omega) (fun q hq e => OW.bk_ne hO hr (by decide) hq e)).trans (Below.heap_alloc w o rb hr.lt)
  exact ⟨⟨cs, hc.same f1, hc1, hc2⟩, ⟨rs, hr.same f2, hr1, hr2⟩⟩
theorem GR.putRow (h : GR a b n m w cb rb (i + 1) 0) (hne : cb ≠ rb) (hi : i ≤ n) : GR a b n m (w.setCell ⟨rb, i, none⟩ (.slice (some ⟨cb, i * (m + 1), none⟩) (m + 1) (m + 1))) cb rb i (m + 1) := by
  obtain ⟨⟨cs, hc, hc1, hc2⟩, ⟨rs, hr, hr1, hr2⟩⟩ := h
  refine ⟨⟨cs, hc.far (p := ⟨rb, _, none⟩) (by simpa using hne) _, hc1, fun r j' h1 h2 h3 => hc2 r j' h1 h2 ?_⟩, ⟨_, hr.set_ _ _, by simpa using hr1, fun r h1 h2 => ?_⟩⟩
  · rcases h3 with h3 | ⟨rfl, h3⟩
    · rcases Nat.lt_or_ge (i + 1) r with h4 | h4
      · exact .inl h4
      · exact .inr ⟨by omega, Nat.zero_le _⟩
    · omega
  · by_cases e : i = r
    · subst e
      rw [Array.getElem?_setIfInBounds, if_pos rfl, if_pos (by omega)]
    · rw [Array.getElem?_setIfInBounds, if_neg e]
      exact hr2 r h1 (by omega)
end
end Go.Proofs.YtnmipejpjeakbaaGreatDoor
