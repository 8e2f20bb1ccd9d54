/- note.Read of any text. -/
import Derived.Test.YtcniibngfnkobaaGreatDoorPNAll
namespace Go.Proofs.YtcniibngfnkobaaGreatDoor
open Go.RowKit Go.Shelf Go.Sort Go.Proofs

theorem nall_any (s : List UInt8) (hl : s.length ≤ 100000) (w : World) : Calls Tryz.prog 37 #[.string (nbs s)] w (RA w s) := callsIn_wide.1 (all_in s hl w)
/-- The notes that note.Read gives, or its error. -/
def noteRd (s : List UInt8) : Except Int (List NoteR) :=
  if 40000 < s.length then .error 4 else match readB s with
  | none => .error 3
  | some L => if 2000 < L.length then .error 4 else .ok L
/-- What note.Read leaves. -/
def RR (w : World) (s : List UInt8) (e : Ending) (w' : World) : Prop :=
  Below w.heap.size w w' ∧ ((∃ k, noteRd s = .error k ∧ e = .returned (.tuple #[.slice none 0 0, .int .i64 k])) ∨
    (∃ L A c, noteRd s = .ok L ∧ e = .returned (.tuple #[.slice A L.length c, .int .i64 0]) ∧ OW nC 10 48 w.heap.size w' A L.length c L))
set_option maxRecDepth 100000 in
set_option maxHeartbeats 4000000 in
theorem nread_any (s : List UInt8) (w : World) : Calls Tryz.prog 10 #[.string (nbs s)] w (RR w s) := by
  have hz : (nbs s).size = s.length := nbs_size s
  go_enter Tryz.func10, Tryz.ntmps10
  go_wp2_with (go_at_call 37; refine (nall_any s (by omega) _).mono ?_; rintro e w' hR; have HR := Lib.hid hR; clear hR; rcases HR.out with ⟨L, A, c, hs, rfl, hO, hB⟩ | ⟨hs, rfl, hB⟩)
  all_goals go_ret2
  · exact ⟨Below.refl _ _, .inl ⟨4, by unfold noteRd; rw [if_pos (by omega)], rfl⟩⟩
  · exact ⟨hB, .inl ⟨4, by unfold noteRd; rw [if_neg (by omega), hs]; simp only; rw [if_pos (by omega)], rfl⟩⟩
  · exact ⟨hB, .inr ⟨L, A, c, by unfold noteRd; rw [if_neg (by omega), hs]; simp only; rw [if_neg (by omega)], rfl, hO⟩⟩
  · exact ⟨hB, .inl ⟨3, by unfold noteRd; rw [if_neg (by omega), hs], rfl⟩⟩
end Go.Proofs.YtcniibngfnkobaaGreatDoor
