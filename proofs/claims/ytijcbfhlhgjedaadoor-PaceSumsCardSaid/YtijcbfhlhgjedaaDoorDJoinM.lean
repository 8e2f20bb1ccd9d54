/- Two roads joined, plainly; and a road that a call builds in a box: its three rows, and what becomes of them when one grows. -/
import Derived.Test.YtijcbfhlhgjedaaDoorCAll
import Derived.Test.YtijcbfhlhgjedaaDoorDRevR
namespace Go.Proofs.YtijcbfhlhgjedaaDoor
open Go.RowKit Go.Shelf Go.Sort Go.Proofs

def joinC (n : Int) (l : List Crest) (c : Crest) : List Crest :=
  match l.getLast? with
  | some d => if d.pos = c.pos + n then l.dropLast ++ [⟨d.pos, max d.siz c.siz⟩] else l ++ [⟨c.pos + n, c.siz⟩]
  | none => l ++ [⟨c.pos + n, c.siz⟩]
def joinJ (n : Int) (l : List Junc) (j : Junc) : List Junc :=
  match l.getLast? with
  | some d => if d.pos = j.pos + n then l else l ++ [⟨j.pos + n, j.arms, j.way⟩]
  | none => l ++ [⟨j.pos + n, j.arms, j.way⟩]
theorem joinC_nil (n : Int) (c : Crest) : joinC n [] c = [⟨c.pos + n, c.siz⟩] := rfl
theorem joinC_at (n : Int) (l : List Crest) (d c : Crest) : joinC n (l ++ [d]) c = if d.pos = c.pos + n then l ++ [⟨d.pos, max d.siz c.siz⟩] else l ++ [d] ++ [⟨c.pos + n, c.siz⟩] := by simp [joinC]
theorem joinJ_nil (n : Int) (c : Junc) : joinJ n [] c = [⟨c.pos + n, c.arms, c.way⟩] := rfl
theorem joinJ_at (n : Int) (l : List Junc) (d c : Junc) : joinJ n (l ++ [d]) c = if d.pos = c.pos + n then l ++ [d] else l ++ [d] ++ [⟨c.pos + n, c.arms, c.way⟩] := by simp [joinJ]
def joinR (a b : Road) : Road := ⟨a.ps ++ b.ps, b.cs.foldl (joinC (sumL a.ps)) a.cs, b.js.foldl (joinJ (sumL a.ps)) a.js⟩
theorem joinC_len (n : Int) (l : List Crest) (c : Crest) : (joinC n l c).length ≤ l.length + 1 := by
  rcases nil_or_snoc l with rfl | ⟨ds, y, rfl⟩
  · rw [joinC_nil]; simp
  · rw [joinC_at]; split <;> simp
theorem joinJ_len (n : Int) (l : List Junc) (c : Junc) : (joinJ n l c).length ≤ l.length + 1 := by
  rcases nil_or_snoc l with rfl | ⟨ds, y, rfl⟩
  · rw [joinJ_nil]; simp
  · rw [joinJ_at]; split <;> simp
theorem foldC_len (n : Int) : ∀ (l : List Crest) (o : List Crest), (l.foldl (joinC n) o).length ≤ o.length + l.length
  | [], o => by simp
  | c :: l, o => by
    have := foldC_len n l (joinC n o c)
    have h2 := joinC_len n o c
    simp only [List.foldl_cons, List.length_cons]
    omega
theorem foldJ_len (n : Int) : ∀ (l : List Junc) (o : List Junc), (l.foldl (joinJ n) o).length ≤ o.length + l.length
  | [], o => by simp
  | c :: l, o => by
    have := foldJ_len n l (joinJ n o c)
    have h2 := joinJ_len n o c
    simp only [List.foldl_cons, List.length_cons]
    omega
/-- The sizes of crests stay in range. -/
theorem foldC_siz (n : Int) : ∀ (l : List Crest) (o : List Crest), (∀ c ∈ l, 1 ≤ c.siz ∧ c.siz ≤ 3) → (∀ c ∈ o, 1 ≤ c.siz ∧ c.siz ≤ 3) → ∀ c ∈ l.foldl (joinC n) o, 1 ≤ c.siz ∧ c.siz ≤ 3
  | [], o, _, ho => ho
  | c :: l, o, hl, ho => by
    rw [List.foldl_cons]
    refine foldC_siz n l _ (fun x hx => hl x (List.mem_cons_of_mem _ hx)) (fun x hx => ?_)
    have hc := hl c (List.mem_cons_self ..)
    rcases nil_or_snoc o with rfl | ⟨ds, y, rfl⟩
    · rw [joinC_nil] at hx
      simp only [List.mem_singleton] at hx
      subst hx
      exact hc
    · rw [joinC_at] at hx
      have hy := ho y (by simp)
      split at hx
      · rcases List.mem_append.1 hx with h | h
        · exact ho x (by simp [h])
        · simp only [List.mem_singleton] at h
          subst h
          simp only
          omega
      · rcases List.mem_append.1 hx with h | h
        · exact ho x h
        · simp only [List.mem_singleton] at h
          subst h
          exact hc
/-! ### A road in a box -/
section
variable {tR tP tC tJ : TypeId} {base : Nat} {w w' : World} {tb : Nat} {A1 : Option Addr} {n1 c1 : Nat} {ps : List Piece} {A2 : Option Addr} {n2 c2 : Nat} {cs : List Crest} {A3 : Option Addr} {n3 c3 : Nat} {js : List Junc}
/-- A store into a block that was made later. -/
theorem JB.later (h : JB tR tP tC tJ base w tb A1 n1 c1 ps A2 n2 c2 cs A3 n3 c3 js) (hb : Below w.heap.size w w') {p : Addr} (hp : w.heap.size ≤ p.block) (v : Value) : JB tR tP tC tJ base (w'.setCell p v) tb A1 n1 c1 ps A2 n2 c2 cs A3 n3 c3 js :=
  h.call (hb.setCell hp v)
variable (h : JB tR tP tC tJ base w tb A1 n1 c1 ps A2 n2 c2 cs A3 n3 c3 js)
include h
theorem JB.appC (hRC : tC ≠ tR) (hPC : tC ≠ tP) (hJC : tC ≠ tJ) (hPR : tP ≠ tR) (hJR : tJ ≠ tR) {y : Crest} {g c' : Nat} (hap : App1 cC 2 tC base w A2 n2 c2 cs y g c' w') :
    JB tR tP tC tJ base (w'.setCell ⟨tb, 1, none⟩ (.slice (some ⟨g, 0, none⟩) (n2 + 1) c')) tb A1 n1 c1 ps (some ⟨g, 0, none⟩) (n2 + 1) c' (cs ++ [y]) A3 n3 c3 js := by
  have hb1 : BK w' tb tR #[.slice A1 n1 c1, .slice A2 n2 c2, .slice A3 n3 c3] := h.b.same (hap.far tb h.b.lt (fun b hb => BK.ne_row (.inr ⟨_, h.b⟩) h.c hRC hb))
  have hp1 : OW pC 5 tP base w' A1 n1 c1 ps := h.p.keep fun a ha => hap.far _ (h.p.lt ha).2 (fun b hb e => h.c.ne h.p hPC hb ha e)
  have hj1 : OW jC 3 tJ base w' A3 n3 c3 js := h.j.keep fun a ha => hap.far _ (h.j.lt ha).2 (fun b hb e => h.c.ne h.j hJC hb ha e)
  exact ⟨hb1.set_ 1 _, hp1.setCell (fun a ha => BK.ne_row (.inr ⟨_, hb1⟩) hp1 hPR ha) _, hap.own.setCell (fun a ha => BK.ne_row (.inr ⟨_, hb1⟩) hap.own hRC ha) _, hj1.setCell (fun a ha => BK.ne_row (.inr ⟨_, hb1⟩) hj1 hJR ha) _⟩
theorem JB.appJ (hRJ : tJ ≠ tR) (hPJ : tJ ≠ tP) (hCJ : tJ ≠ tC) (hPR : tP ≠ tR) (hCR : tC ≠ tR) {y : Junc} {g c' : Nat} (hap : App1 jC 3 tJ base w A3 n3 c3 js y g c' w') :
    JB tR tP tC tJ base (w'.setCell ⟨tb, 2, none⟩ (.slice (some ⟨g, 0, none⟩) (n3 + 1) c')) tb A1 n1 c1 ps A2 n2 c2 cs (some ⟨g, 0, none⟩) (n3 + 1) c' (js ++ [y]) := by
  have hb1 : BK w' tb tR #[.slice A1 n1 c1, .slice A2 n2 c2, .slice A3 n3 c3] := h.b.same (hap.far tb h.b.lt (fun b hb => BK.ne_row (.inr ⟨_, h.b⟩) h.j hRJ hb))
  have hp1 : OW pC 5 tP base w' A1 n1 c1 ps := h.p.keep fun a ha => hap.far _ (h.p.lt ha).2 (fun b hb e => h.j.ne h.p hPJ hb ha e)
  have hc1 : OW cC 2 tC base w' A2 n2 c2 cs := h.c.keep fun a ha => hap.far _ (h.c.lt ha).2 (fun b hb e => h.j.ne h.c hCJ hb ha e)
  exact ⟨hb1.set_ 2 _, hp1.setCell (fun a ha => BK.ne_row (.inr ⟨_, hb1⟩) hp1 hPR ha) _, hc1.setCell (fun a ha => BK.ne_row (.inr ⟨_, hb1⟩) hc1 hCR ha) _, hap.own.setCell (fun a ha => BK.ne_row (.inr ⟨_, hb1⟩) hap.own hRJ ha) _⟩
theorem JB.appP (hRP : tP ≠ tR) (hCP : tP ≠ tC) (hJP : tP ≠ tJ) (hCR : tC ≠ tR) (hJR : tJ ≠ tR) {y : Piece} {g c' : Nat} (hap : App1 pC 5 tP base w A1 n1 c1 ps y g c' w') :
    JB tR tP tC tJ base (w'.setCell ⟨tb, 0, none⟩ (.slice (some ⟨g, 0, none⟩) (n1 + 1) c')) tb (some ⟨g, 0, none⟩) (n1 + 1) c' (ps ++ [y]) A2 n2 c2 cs A3 n3 c3 js := by
  have hb1 : BK w' tb tR #[.slice A1 n1 c1, .slice A2 n2 c2, .slice A3 n3 c3] := h.b.same (hap.far tb h.b.lt (fun b hb => BK.ne_row (.inr ⟨_, h.b⟩) h.p hRP hb))
  have hc1 : OW cC 2 tC base w' A2 n2 c2 cs := h.c.keep fun a ha => hap.far _ (h.c.lt ha).2 (fun b hb e => h.p.ne h.c hCP hb ha e)
  have hj1 : OW jC 3 tJ base w' A3 n3 c3 js := h.j.keep fun a ha => hap.far _ (h.j.lt ha).2 (fun b hb e => h.p.ne h.j hJP hb ha e)
  exact ⟨hb1.set_ 0 _, hap.own.setCell (fun a ha => BK.ne_row (.inr ⟨_, hb1⟩) hap.own hRP ha) _, hc1.setCell (fun a ha => BK.ne_row (.inr ⟨_, hb1⟩) hc1 hCR ha) _, hj1.setCell (fun a ha => BK.ne_row (.inr ⟨_, hb1⟩) hj1 hJR ha) _⟩
/-- One cell of the crests' row is stored anew. -/
theorem JB.setC (hRC : tC ≠ tR) (hPC : tC ≠ tP) (hJC : tC ≠ tJ) {bo : Nat} (hA : A2 = some ⟨bo, 0, none⟩) (i j : Nat) {x y : Crest} {v : Value} (hx : cs[i]? = some x) (hj : j < 2) (hy : cC y = (cC x).set j v) :
    JB tR tP tC tJ base (w.setCell ⟨bo, i * 2 + j, none⟩ v) tb A1 n1 c1 ps A2 n2 c2 (cs.set i y) A3 n3 c3 js := by
  subst hA
  have q1 := h.b.far (p := ⟨bo, i * 2 + j, none⟩) (fun e => BK.ne_row (.inr ⟨_, h.b⟩) h.c hRC rfl e.symm) v
  have q2 := h.p.setCell (p := ⟨bo, i * 2 + j, none⟩) (fun a ha e => h.c.ne h.p hPC rfl ha e.symm) v
  have q3 := h.j.setCell (p := ⟨bo, i * 2 + j, none⟩) (fun a ha e => h.c.ne h.j hJC rfl ha e.symm) v
  exact ⟨q1, q2, h.c.setF cC_len i j hx hj hy, q3⟩
end
end Go.Proofs.YtijcbfhlhgjedaaDoor
