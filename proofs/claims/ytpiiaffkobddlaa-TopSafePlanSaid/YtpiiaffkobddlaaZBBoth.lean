/- The closures of road.Safer that make one element of two, and what merging makes of a sorted list. -/
import Derived.Test.YtpiiaffkobddlaaZBDel
namespace Go.Proofs.Ytpiiaffkobddlaa
open Go.RowKit Go.Shelf Go.Sort Go.Proofs

def bothC (x y : Crest) : Crest := ⟨x.pos, if x.siz < y.siz then y.siz else x.siz⟩
def bothJ (x _ : Junc) : Junc := x
def okC (_ _ : Crest) : Bool := true
def okJ (x y : Junc) : Bool := decide (x.pos = y.pos) && (decide (x.arms = y.arms) && decide (x.way = y.way))
section
variable {α : Type} (key : α → Int) (both : α → α → α) (ok : α → α → Bool)
/-- Neighbours with equal keys become one; the list x :: R. -/
def ded : α → List α → List α
  | x, [] => [x]
  | x, y :: r => if key x = key y then ded (both x y) r else x :: ded y r
/-- No two neighbours that cannot be one. -/
def good : α → List α → Bool
  | _, [] => true
  | x, y :: r => if key x = key y then (ok x y && good (both x y) r) else good y r
def mgd (l : List α) : List α := match l with | [] => [] | x :: r => ded key both x r
def mgood (l : List α) : Bool := match l with | [] => true | x :: r => good key both ok x r
end
set_option maxRecDepth 100000 in
theorem bothC_any (x y : Crest) (w : World) : Calls Try.prog 25 #[.agg #[.int .i64 x.pos, .int .i64 x.siz], .agg #[.int .i64 y.pos, .int .i64 y.siz]] w fun e w' =>
    e = .returned (.tuple #[.agg #[.int .i64 (bothC x y).pos, .int .i64 (bothC x y).siz], .bool (okC x y)]) ∧ Below w.heap.size w w' := by
  obtain ⟨M, hM⟩ : ∃ M, M = (bothC x y).siz := ⟨_, rfl⟩
  have hite : (if x.siz < y.siz then y.siz else x.siz) = M := hM.symm
  rw [← hM]
  have hz : BK (((w.alloc (.cells #[.int .i64 x.pos, .int .i64 x.siz] 80)).alloc (.cells #[.int .i64 y.pos, .int .i64 y.siz] 80)).alloc (.cells #[.int .i64 x.pos, .int .i64 M] 80)) (w.heap.size + 1 + 1) 80 #[.int .i64 x.pos, .int .i64 M] := by
    have := BK.new ((w.alloc (.cells #[.int .i64 x.pos, .int .i64 x.siz] 80)).alloc (.cells #[.int .i64 y.pos, .int .i64 y.siz] 80)) 80 #[.int .i64 x.pos, .int .i64 M]
    rw [World.size_alloc, World.size_alloc] at this
    exact this
  have hb : Below w.heap.size w (((w.alloc (.cells #[.int .i64 x.pos, .int .i64 x.siz] 80)).alloc (.cells #[.int .i64 y.pos, .int .i64 y.siz] 80)).alloc (.cells #[.int .i64 x.pos, .int .i64 M] 80)) := (((Below.refl _ _).alloc (Nat.le_refl _) _).alloc (by simp) _).alloc (by simp <;> omega) _
  have HZ := Lib.hid hz
  have HB := Lib.hid hb
  clear hM hz hb
  go_enter Try.func25, Try.ntmps25
  go_wp2_with fail
  refine bodyPost_ret (v := .tuple #[.agg #[.int .i64 x.pos, .int .i64 M], .bool true]) (by simp [results, Try.results25, go_sem]) rfl ⟨rfl, HB.out⟩
set_option maxRecDepth 100000 in
theorem bothJ_any (x y : Junc) (w : World) : Calls Try.prog 28 #[.agg #[.int .i64 x.pos, .int .i64 x.arms, .int .i64 x.way], .agg #[.int .i64 y.pos, .int .i64 y.arms, .int .i64 y.way]] w fun e w' =>
    e = .returned (.tuple #[.agg #[.int .i64 (bothJ x y).pos, .int .i64 (bothJ x y).arms, .int .i64 (bothJ x y).way], .bool (okJ x y)]) ∧ Below w.heap.size w w' := by
  simp only [bothJ]
  go_enter Try.func28, Try.ntmps28
  by_cases h1 : x.pos = y.pos
  · by_cases h2 : x.arms = y.arms
    · by_cases h3 : x.way = y.way
      · have e : x = y := by cases x; cases y; simp at h1 h2 h3; simp [h1, h2, h3]
        subst e
        clear h1 h2 h3
        go_wp2_with fail
        go_region
        go_wp2_with fail
        refine bodyPost_ret (v := .tuple #[.agg #[.int .i64 x.pos, .int .i64 x.arms, .int .i64 x.way], .bool true]) (by simp [results, Try.results28, go_sem]) rfl ⟨by simp [okJ], below_drewN ((((Below.refl _ _).alloc (Nat.le_refl _) _).alloc (by simp) _).alloc (by simp <;> omega) _) 1⟩
      · have h3' : (x.way == y.way) = false := by simpa using h3
        go_wp2_with fail
        go_region
        go_wp2_with fail
        refine bodyPost_ret (v := .tuple #[.agg #[.int .i64 x.pos, .int .i64 x.arms, .int .i64 x.way], .bool false]) (by simp [results, Try.results28, go_sem, h1, h2]) rfl ⟨by simp [okJ, h3], below_drewN ((((Below.refl _ _).alloc (Nat.le_refl _) _).alloc (by simp) _).alloc (by simp <;> omega) _) 1⟩
    · have h2' : (x.arms == y.arms) = false := by simpa using h2
      go_wp2_with fail
      go_region
      go_wp2_with fail
      refine bodyPost_ret (v := .tuple #[.agg #[.int .i64 x.pos, .int .i64 x.arms, .int .i64 x.way], .bool false]) (by simp [results, Try.results28, go_sem, h1]) rfl ⟨by simp [okJ, h2], below_drewN ((((Below.refl _ _).alloc (Nat.le_refl _) _).alloc (by simp) _).alloc (by simp <;> omega) _) 1⟩
  · have h1' : (x.pos == y.pos) = false := by simpa using h1
    go_wp2_with fail
    go_region
    go_wp2_with fail
    refine bodyPost_ret (v := .tuple #[.agg #[.int .i64 x.pos, .int .i64 x.arms, .int .i64 x.way], .bool false]) (by simp [results, Try.results28, go_sem]) rfl ⟨by simp [okJ, h1], below_drewN ((((Below.refl _ _).alloc (Nat.le_refl _) _).alloc (by simp) _).alloc (by simp <;> omega) _) 1⟩
end Go.Proofs.Ytpiiaffkobddlaa
