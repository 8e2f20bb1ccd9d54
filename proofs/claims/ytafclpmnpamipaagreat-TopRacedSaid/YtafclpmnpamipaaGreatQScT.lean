/- Two rows and two boxes that are made in any order (a drawn region of package score): what is known on the way. Printed by gensct.py. -/
import Derived.Test.YtafclpmnpamipaaGreatQScI
import Derived.Test.YtafclpmnpamipaaGreatQReg11
namespace Go.Proofs.YtafclpmnpamipaaGreat
open Go.RowKit Go.Shelf Go.Sort Go.Proofs

theorem put_ne {a : Act} {r k : Nat} (v : Value) (h : k ≠ r) : (a.put (some r) v).tmps[k]? = a.tmps[k]? := by
  unfold Act.put
  exact Array.getElem?_setIfInBounds_ne (Ne.symm h)
theorem put_same {a : Act} {r : Nat} (v : Value) (h : r < a.tmps.size) : (a.put (some r) v).tmps[r]? = some v := by
  unfold Act.put
  exact Array.getElem?_setIfInBounds_self_of_lt h
theorem upd_of {L : Nat → Bool} {i j : Nat} (h : L j = true) : upd L i j = true := by simp [upd, h]
theorem eval_tmp {a : Act} {t : Nat} {v : Value} (h : a.tmps[t]? = some v) : a.eval (.tmp t) = v := by
  unfold Act.eval
  simp [h]
structure I5 (a0 : Act) (w1 : World) (S : Value) (n : Nat) (T T2 : TypeId) (L : Nat → Bool) (a : Act) (W : World) (B1 B2 X1 X2 : Nat) : Prop where
  d : a.defers = a0.defers
  s : a.tmps.size = a0.tmps.size
  o : ∀ j, j ∉ [35, 36, 37, 38, 39, 40, 10, 11] → a.tmps[j]? = a0.tmps[j]?
  r0 : L 0 = true → a.tmps[35]? = some S
  r1 : L 1 = true → a.tmps[36]? = some (.int .i64 n)
  r3 : L 3 = true → a.tmps[38]? = some S
  r4 : L 4 = true → a.tmps[39]? = some (.int .i64 n)
  r2 : L 2 = true → a.tmps[37]? = some (.slice (some ⟨B1, 0, none⟩) n n) ∧ BK W B1 T (Array.replicate n (.int .i64 0)) ∧ w1.heap.size ≤ B1
  r5 : L 5 = true → a.tmps[40]? = some (.slice (some ⟨B2, 0, none⟩) n n) ∧ BK W B2 T (Array.replicate n (.int .i64 0)) ∧ w1.heap.size ≤ B2
  r6 : L 6 = true → a.tmps[10]? = some (.pointer (some ⟨X1, 0, none⟩)) ∧ BK W X1 T2 #[if L 8 = true then .slice (some ⟨B1, 0, none⟩) n n else .slice none 0 0] ∧ w1.heap.size ≤ X1
  r7 : L 7 = true → a.tmps[11]? = some (.pointer (some ⟨X2, 0, none⟩)) ∧ BK W X2 T2 #[if L 9 = true then .slice (some ⟨B2, 0, none⟩) n n else .slice none 0 0] ∧ w1.heap.size ≤ X2
  n25 : L 2 = true → L 5 = true → B1 ≠ B2
  n26 : L 2 = true → L 6 = true → B1 ≠ X1
  n27 : L 2 = true → L 7 = true → B1 ≠ X2
  n56 : L 5 = true → L 6 = true → B2 ≠ X1
  n57 : L 5 = true → L 7 = true → B2 ≠ X2
  n67 : L 6 = true → L 7 = true → X1 ≠ X2
  c8 : L 8 = true → L 2 = true ∧ L 6 = true
  c9 : L 9 = true → L 5 = true ∧ L 7 = true
  b : Below w1.heap.size w1 W
section
variable {a0 : Act} {w1 : World} {S : Value} {n : Nat} {T T2 : TypeId} {L : Nat → Bool} {a : Act} {W : World} {B1 B2 X1 X2 : Nat}
theorem I5.s0 (h : I5 a0 w1 S n T T2 L a W B1 B2 X1 X2) (hz : 41 ≤ a0.tmps.size) : I5 a0 w1 S n T T2 (upd L 0) (a.put (some 35) (S)) (W) B1 B2 X1 X2 where
  d := h.d
  s := (put_size _ _ _).trans h.s
  o j hj := (put_ne _ (fun e => hj (by rw [e]; simp))).trans (h.o j hj)
  r0 _ := put_same _ (by rw [h.s]; omega)
  r1 hl := (put_ne _ (by decide)).trans (h.r1 (by simpa [upd] using hl))
  r3 hl := (put_ne _ (by decide)).trans (h.r3 (by simpa [upd] using hl))
  r4 hl := (put_ne _ (by decide)).trans (h.r4 (by simpa [upd] using hl))
  r2 hl := let q := h.r2 (by simpa [upd] using hl); ⟨(put_ne _ (by decide)).trans q.1, q.2⟩
  r5 hl := let q := h.r5 (by simpa [upd] using hl); ⟨(put_ne _ (by decide)).trans q.1, q.2⟩
  r6 hl := let q := h.r6 (by simpa [upd] using hl); ⟨(put_ne _ (by decide)).trans q.1, by rw [upd_ne L (by decide)]; exact q.2.1, q.2.2⟩
  r7 hl := let q := h.r7 (by simpa [upd] using hl); ⟨(put_ne _ (by decide)).trans q.1, by rw [upd_ne L (by decide)]; exact q.2.1, q.2.2⟩
  n25 hi hj := h.n25 (by simpa [upd] using hi) (by simpa [upd] using hj)
  n26 hi hj := h.n26 (by simpa [upd] using hi) (by simpa [upd] using hj)
  n27 hi hj := h.n27 (by simpa [upd] using hi) (by simpa [upd] using hj)
  n56 hi hj := h.n56 (by simpa [upd] using hi) (by simpa [upd] using hj)
  n57 hi hj := h.n57 (by simpa [upd] using hi) (by simpa [upd] using hj)
  n67 hi hj := h.n67 (by simpa [upd] using hi) (by simpa [upd] using hj)
  c8 hl := let q := h.c8 (by simpa [upd] using hl); ⟨upd_of q.1, upd_of q.2⟩
  c9 hl := let q := h.c9 (by simpa [upd] using hl); ⟨upd_of q.1, upd_of q.2⟩
  b := h.b
theorem I5.s1 (h : I5 a0 w1 S n T T2 L a W B1 B2 X1 X2) (hz : 41 ≤ a0.tmps.size) : I5 a0 w1 S n T T2 (upd L 1) (a.put (some 36) (.int .i64 n)) (W) B1 B2 X1 X2 where
  d := h.d
  s := (put_size _ _ _).trans h.s
  o j hj := (put_ne _ (fun e => hj (by rw [e]; simp))).trans (h.o j hj)
  r0 hl := (put_ne _ (by decide)).trans (h.r0 (by simpa [upd] using hl))
  r1 _ := put_same _ (by rw [h.s]; omega)
  r3 hl := (put_ne _ (by decide)).trans (h.r3 (by simpa [upd] using hl))
  r4 hl := (put_ne _ (by decide)).trans (h.r4 (by simpa [upd] using hl))
  r2 hl := let q := h.r2 (by simpa [upd] using hl); ⟨(put_ne _ (by decide)).trans q.1, q.2⟩
  r5 hl := let q := h.r5 (by simpa [upd] using hl); ⟨(put_ne _ (by decide)).trans q.1, q.2⟩
  r6 hl := let q := h.r6 (by simpa [upd] using hl); ⟨(put_ne _ (by decide)).trans q.1, by rw [upd_ne L (by decide)]; exact q.2.1, q.2.2⟩
  r7 hl := let q := h.r7 (by simpa [upd] using hl); ⟨(put_ne _ (by decide)).trans q.1, by rw [upd_ne L (by decide)]; exact q.2.1, q.2.2⟩
  n25 hi hj := h.n25 (by simpa [upd] using hi) (by simpa [upd] using hj)
  n26 hi hj := h.n26 (by simpa [upd] using hi) (by simpa [upd] using hj)
  n27 hi hj := h.n27 (by simpa [upd] using hi) (by simpa [upd] using hj)
  n56 hi hj := h.n56 (by simpa [upd] using hi) (by simpa [upd] using hj)
  n57 hi hj := h.n57 (by simpa [upd] using hi) (by simpa [upd] using hj)
  n67 hi hj := h.n67 (by simpa [upd] using hi) (by simpa [upd] using hj)
  c8 hl := let q := h.c8 (by simpa [upd] using hl); ⟨upd_of q.1, upd_of q.2⟩
  c9 hl := let q := h.c9 (by simpa [upd] using hl); ⟨upd_of q.1, upd_of q.2⟩
  b := h.b
theorem I5.s3 (h : I5 a0 w1 S n T T2 L a W B1 B2 X1 X2) (hz : 41 ≤ a0.tmps.size) : I5 a0 w1 S n T T2 (upd L 3) (a.put (some 38) (S)) (W) B1 B2 X1 X2 where
  d := h.d
  s := (put_size _ _ _).trans h.s
  o j hj := (put_ne _ (fun e => hj (by rw [e]; simp))).trans (h.o j hj)
  r0 hl := (put_ne _ (by decide)).trans (h.r0 (by simpa [upd] using hl))
  r1 hl := (put_ne _ (by decide)).trans (h.r1 (by simpa [upd] using hl))
  r3 _ := put_same _ (by rw [h.s]; omega)
  r4 hl := (put_ne _ (by decide)).trans (h.r4 (by simpa [upd] using hl))
  r2 hl := let q := h.r2 (by simpa [upd] using hl); ⟨(put_ne _ (by decide)).trans q.1, q.2⟩
  r5 hl := let q := h.r5 (by simpa [upd] using hl); ⟨(put_ne _ (by decide)).trans q.1, q.2⟩
  r6 hl := let q := h.r6 (by simpa [upd] using hl); ⟨(put_ne _ (by decide)).trans q.1, by rw [upd_ne L (by decide)]; exact q.2.1, q.2.2⟩
  r7 hl := let q := h.r7 (by simpa [upd] using hl); ⟨(put_ne _ (by decide)).trans q.1, by rw [upd_ne L (by decide)]; exact q.2.1, q.2.2⟩
  n25 hi hj := h.n25 (by simpa [upd] using hi) (by simpa [upd] using hj)
  n26 hi hj := h.n26 (by simpa [upd] using hi) (by simpa [upd] using hj)
  n27 hi hj := h.n27 (by simpa [upd] using hi) (by simpa [upd] using hj)
  n56 hi hj := h.n56 (by simpa [upd] using hi) (by simpa [upd] using hj)
  n57 hi hj := h.n57 (by simpa [upd] using hi) (by simpa [upd] using hj)
  n67 hi hj := h.n67 (by simpa [upd] using hi) (by simpa [upd] using hj)
  c8 hl := let q := h.c8 (by simpa [upd] using hl); ⟨upd_of q.1, upd_of q.2⟩
  c9 hl := let q := h.c9 (by simpa [upd] using hl); ⟨upd_of q.1, upd_of q.2⟩
  b := h.b
theorem I5.s4 (h : I5 a0 w1 S n T T2 L a W B1 B2 X1 X2) (hz : 41 ≤ a0.tmps.size) : I5 a0 w1 S n T T2 (upd L 4) (a.put (some 39) (.int .i64 n)) (W) B1 B2 X1 X2 where
  d := h.d
  s := (put_size _ _ _).trans h.s
  o j hj := (put_ne _ (fun e => hj (by rw [e]; simp))).trans (h.o j hj)
  r0 hl := (put_ne _ (by decide)).trans (h.r0 (by simpa [upd] using hl))
  r1 hl := (put_ne _ (by decide)).trans (h.r1 (by simpa [upd] using hl))
  r3 hl := (put_ne _ (by decide)).trans (h.r3 (by simpa [upd] using hl))
  r4 _ := put_same _ (by rw [h.s]; omega)
  r2 hl := let q := h.r2 (by simpa [upd] using hl); ⟨(put_ne _ (by decide)).trans q.1, q.2⟩
  r5 hl := let q := h.r5 (by simpa [upd] using hl); ⟨(put_ne _ (by decide)).trans q.1, q.2⟩
  r6 hl := let q := h.r6 (by simpa [upd] using hl); ⟨(put_ne _ (by decide)).trans q.1, by rw [upd_ne L (by decide)]; exact q.2.1, q.2.2⟩
  r7 hl := let q := h.r7 (by simpa [upd] using hl); ⟨(put_ne _ (by decide)).trans q.1, by rw [upd_ne L (by decide)]; exact q.2.1, q.2.2⟩
  n25 hi hj := h.n25 (by simpa [upd] using hi) (by simpa [upd] using hj)
  n26 hi hj := h.n26 (by simpa [upd] using hi) (by simpa [upd] using hj)
  n27 hi hj := h.n27 (by simpa [upd] using hi) (by simpa [upd] using hj)
  n56 hi hj := h.n56 (by simpa [upd] using hi) (by simpa [upd] using hj)
  n57 hi hj := h.n57 (by simpa [upd] using hi) (by simpa [upd] using hj)
  n67 hi hj := h.n67 (by simpa [upd] using hi) (by simpa [upd] using hj)
  c8 hl := let q := h.c8 (by simpa [upd] using hl); ⟨upd_of q.1, upd_of q.2⟩
  c9 hl := let q := h.c9 (by simpa [upd] using hl); ⟨upd_of q.1, upd_of q.2⟩
  b := h.b
theorem I5.s2 (h : I5 a0 w1 S n T T2 L a W B1 B2 X1 X2) (hz : 41 ≤ a0.tmps.size) (h8 : L 8 = false) : I5 a0 w1 S n T T2 (upd L 2) (a.put (some 37) (.slice (some ⟨W.heap.size, 0, none⟩) n n)) (W.alloc (.cells (Array.replicate n (.int .i64 0)) T)) W.heap.size B2 X1 X2 where
  d := h.d
  s := (put_size _ _ _).trans h.s
  o j hj := (put_ne _ (fun e => hj (by rw [e]; simp))).trans (h.o j hj)
  r0 hl := (put_ne _ (by decide)).trans (h.r0 (by simpa [upd] using hl))
  r1 hl := (put_ne _ (by decide)).trans (h.r1 (by simpa [upd] using hl))
  r3 hl := (put_ne _ (by decide)).trans (h.r3 (by simpa [upd] using hl))
  r4 hl := (put_ne _ (by decide)).trans (h.r4 (by simpa [upd] using hl))
  r2 _ := ⟨put_same _ (by rw [h.s]; omega), BK.new W T _, h.b.size⟩
  r5 hl := let q := h.r5 (by simpa [upd] using hl); ⟨(put_ne _ (by decide)).trans q.1, q.2.1.alloc _, q.2.2⟩
  r6 hl := let q := h.r6 (by simpa [upd] using hl); ⟨(put_ne _ (by decide)).trans q.1, by have q2 := q.2.1; rw [upd_ne L (by decide), h8]; rw [h8] at q2; exact BK.alloc q2 _, q.2.2⟩
  r7 hl := let q := h.r7 (by simpa [upd] using hl); ⟨(put_ne _ (by decide)).trans q.1, by rw [upd_ne L (by decide)]; exact q.2.1.alloc _, q.2.2⟩
  n25 _ hj := by have := (h.r5 (by simpa [upd] using hj)).2.1.lt; omega
  n26 _ hj := by have := (h.r6 (by simpa [upd] using hj)).2.1.lt; omega
  n27 _ hj := by have := (h.r7 (by simpa [upd] using hj)).2.1.lt; omega
  n56 hi hj := h.n56 (by simpa [upd] using hi) (by simpa [upd] using hj)
  n57 hi hj := h.n57 (by simpa [upd] using hi) (by simpa [upd] using hj)
  n67 hi hj := h.n67 (by simpa [upd] using hi) (by simpa [upd] using hj)
  c8 hl := let q := h.c8 (by simpa [upd] using hl); ⟨upd_of q.1, upd_of q.2⟩
  c9 hl := let q := h.c9 (by simpa [upd] using hl); ⟨upd_of q.1, upd_of q.2⟩
  b := h.b.alloc h.b.size _
theorem I5.s5 (h : I5 a0 w1 S n T T2 L a W B1 B2 X1 X2) (hz : 41 ≤ a0.tmps.size) (h8 : L 9 = false) : I5 a0 w1 S n T T2 (upd L 5) (a.put (some 40) (.slice (some ⟨W.heap.size, 0, none⟩) n n)) (W.alloc (.cells (Array.replicate n (.int .i64 0)) T)) B1 W.heap.size X1 X2 where
  d := h.d
  s := (put_size _ _ _).trans h.s
  o j hj := (put_ne _ (fun e => hj (by rw [e]; simp))).trans (h.o j hj)
  r0 hl := (put_ne _ (by decide)).trans (h.r0 (by simpa [upd] using hl))
  r1 hl := (put_ne _ (by decide)).trans (h.r1 (by simpa [upd] using hl))
  r3 hl := (put_ne _ (by decide)).trans (h.r3 (by simpa [upd] using hl))
  r4 hl := (put_ne _ (by decide)).trans (h.r4 (by simpa [upd] using hl))
  r2 hl := let q := h.r2 (by simpa [upd] using hl); ⟨(put_ne _ (by decide)).trans q.1, q.2.1.alloc _, q.2.2⟩
  r5 _ := ⟨put_same _ (by rw [h.s]; omega), BK.new W T _, h.b.size⟩
  r6 hl := let q := h.r6 (by simpa [upd] using hl); ⟨(put_ne _ (by decide)).trans q.1, by rw [upd_ne L (by decide)]; exact q.2.1.alloc _, q.2.2⟩
  r7 hl := let q := h.r7 (by simpa [upd] using hl); ⟨(put_ne _ (by decide)).trans q.1, by have q2 := q.2.1; rw [upd_ne L (by decide), h8]; rw [h8] at q2; exact BK.alloc q2 _, q.2.2⟩
  n25 hi _ := by have := (h.r2 (by simpa [upd] using hi)).2.1.lt; omega
  n26 hi hj := h.n26 (by simpa [upd] using hi) (by simpa [upd] using hj)
  n27 hi hj := h.n27 (by simpa [upd] using hi) (by simpa [upd] using hj)
  n56 _ hj := by have := (h.r6 (by simpa [upd] using hj)).2.1.lt; omega
  n57 _ hj := by have := (h.r7 (by simpa [upd] using hj)).2.1.lt; omega
  n67 hi hj := h.n67 (by simpa [upd] using hi) (by simpa [upd] using hj)
  c8 hl := let q := h.c8 (by simpa [upd] using hl); ⟨upd_of q.1, upd_of q.2⟩
  c9 hl := let q := h.c9 (by simpa [upd] using hl); ⟨upd_of q.1, upd_of q.2⟩
  b := h.b.alloc h.b.size _
theorem I5.s6 (h : I5 a0 w1 S n T T2 L a W B1 B2 X1 X2) (hz : 41 ≤ a0.tmps.size) (h8 : L 8 = false) : I5 a0 w1 S n T T2 (upd L 6) (a.put (some 10) (.pointer (some ⟨W.heap.size, 0, none⟩))) (W.alloc (.cells #[.slice none 0 0] T2)) B1 B2 W.heap.size X2 where
  d := h.d
  s := (put_size _ _ _).trans h.s
  o j hj := (put_ne _ (fun e => hj (by rw [e]; simp))).trans (h.o j hj)
  r0 hl := (put_ne _ (by decide)).trans (h.r0 (by simpa [upd] using hl))
  r1 hl := (put_ne _ (by decide)).trans (h.r1 (by simpa [upd] using hl))
  r3 hl := (put_ne _ (by decide)).trans (h.r3 (by simpa [upd] using hl))
  r4 hl := (put_ne _ (by decide)).trans (h.r4 (by simpa [upd] using hl))
  r2 hl := let q := h.r2 (by simpa [upd] using hl); ⟨(put_ne _ (by decide)).trans q.1, q.2.1.alloc _, q.2.2⟩
  r5 hl := let q := h.r5 (by simpa [upd] using hl); ⟨(put_ne _ (by decide)).trans q.1, q.2.1.alloc _, q.2.2⟩
  r6 _ := ⟨put_same _ (by rw [h.s]; omega), by rw [upd_ne L (by decide), h8]; exact BK.new W T2 _, h.b.size⟩
  r7 hl := let q := h.r7 (by simpa [upd] using hl); ⟨(put_ne _ (by decide)).trans q.1, by rw [upd_ne L (by decide)]; exact q.2.1.alloc _, q.2.2⟩
  n25 hi hj := h.n25 (by simpa [upd] using hi) (by simpa [upd] using hj)
  n26 hi _ := by have := (h.r2 (by simpa [upd] using hi)).2.1.lt; omega
  n27 hi hj := h.n27 (by simpa [upd] using hi) (by simpa [upd] using hj)
  n56 hi _ := by have := (h.r5 (by simpa [upd] using hi)).2.1.lt; omega
  n57 hi hj := h.n57 (by simpa [upd] using hi) (by simpa [upd] using hj)
  n67 _ hj := by have := (h.r7 (by simpa [upd] using hj)).2.1.lt; omega
  c8 hl := let q := h.c8 (by simpa [upd] using hl); ⟨upd_of q.1, upd_of q.2⟩
  c9 hl := let q := h.c9 (by simpa [upd] using hl); ⟨upd_of q.1, upd_of q.2⟩
  b := h.b.alloc h.b.size _
theorem I5.s7 (h : I5 a0 w1 S n T T2 L a W B1 B2 X1 X2) (hz : 41 ≤ a0.tmps.size) (h8 : L 9 = false) : I5 a0 w1 S n T T2 (upd L 7) (a.put (some 11) (.pointer (some ⟨W.heap.size, 0, none⟩))) (W.alloc (.cells #[.slice none 0 0] T2)) B1 B2 X1 W.heap.size where
  d := h.d
  s := (put_size _ _ _).trans h.s
  o j hj := (put_ne _ (fun e => hj (by rw [e]; simp))).trans (h.o j hj)
  r0 hl := (put_ne _ (by decide)).trans (h.r0 (by simpa [upd] using hl))
  r1 hl := (put_ne _ (by decide)).trans (h.r1 (by simpa [upd] using hl))
  r3 hl := (put_ne _ (by decide)).trans (h.r3 (by simpa [upd] using hl))
  r4 hl := (put_ne _ (by decide)).trans (h.r4 (by simpa [upd] using hl))
  r2 hl := let q := h.r2 (by simpa [upd] using hl); ⟨(put_ne _ (by decide)).trans q.1, q.2.1.alloc _, q.2.2⟩
  r5 hl := let q := h.r5 (by simpa [upd] using hl); ⟨(put_ne _ (by decide)).trans q.1, q.2.1.alloc _, q.2.2⟩
  r6 hl := let q := h.r6 (by simpa [upd] using hl); ⟨(put_ne _ (by decide)).trans q.1, by rw [upd_ne L (by decide)]; exact q.2.1.alloc _, q.2.2⟩
  r7 _ := ⟨put_same _ (by rw [h.s]; omega), by rw [upd_ne L (by decide), h8]; exact BK.new W T2 _, h.b.size⟩
  n25 hi hj := h.n25 (by simpa [upd] using hi) (by simpa [upd] using hj)
  n26 hi hj := h.n26 (by simpa [upd] using hi) (by simpa [upd] using hj)
  n27 hi _ := by have := (h.r2 (by simpa [upd] using hi)).2.1.lt; omega
  n56 hi hj := h.n56 (by simpa [upd] using hi) (by simpa [upd] using hj)
  n57 hi _ := by have := (h.r5 (by simpa [upd] using hi)).2.1.lt; omega
  n67 hi _ := by have := (h.r6 (by simpa [upd] using hi)).2.1.lt; omega
  c8 hl := let q := h.c8 (by simpa [upd] using hl); ⟨upd_of q.1, upd_of q.2⟩
  c9 hl := let q := h.c9 (by simpa [upd] using hl); ⟨upd_of q.1, upd_of q.2⟩
  b := h.b.alloc h.b.size _
theorem I5.s8 (h : I5 a0 w1 S n T T2 L a W B1 B2 X1 X2) (hb : L 6 = true) (hr : L 2 = true) : I5 a0 w1 S n T T2 (upd L 8) (a.put none undef) (W.setCell ⟨X1, 0, none⟩ (.slice (some ⟨B1, 0, none⟩) n n)) B1 B2 X1 X2 where
  d := h.d
  s := h.s
  o := h.o
  r0 hl := h.r0 (by simpa [upd] using hl)
  r1 hl := h.r1 (by simpa [upd] using hl)
  r3 hl := h.r3 (by simpa [upd] using hl)
  r4 hl := h.r4 (by simpa [upd] using hl)
  r2 hl := by
    have hl2 : L 2 = true := by simpa [upd] using hl
    have q := h.r2 hl2
    exact ⟨q.1, q.2.1.far (p := ⟨X1, 0, none⟩) (h.n26 hl2 hb) _, q.2.2⟩
  r5 hl := by
    have hl2 : L 5 = true := by simpa [upd] using hl
    have q := h.r5 hl2
    exact ⟨q.1, q.2.1.far (p := ⟨X1, 0, none⟩) (h.n56 hl2 hb) _, q.2.2⟩
  r6 hl := by
    have q := h.r6 hb
    refine ⟨q.1, ?_, q.2.2⟩
    have q2 := q.2.1.set_ 0 (.slice (some ⟨B1, 0, none⟩) n n)
    rw [upd_same]
    exact q2
  r7 hl := by
    have hl2 : L 7 = true := by simpa [upd] using hl
    have q := h.r7 hl2
    refine ⟨q.1, ?_, q.2.2⟩
    rw [upd_ne L (by decide)]
    exact q.2.1.far (p := ⟨X1, 0, none⟩) (Ne.symm (h.n67 hb hl2)) _
  n25 hi hj := h.n25 (by simpa [upd] using hi) (by simpa [upd] using hj)
  n26 hi hj := h.n26 (by simpa [upd] using hi) (by simpa [upd] using hj)
  n27 hi hj := h.n27 (by simpa [upd] using hi) (by simpa [upd] using hj)
  n56 hi hj := h.n56 (by simpa [upd] using hi) (by simpa [upd] using hj)
  n57 hi hj := h.n57 (by simpa [upd] using hi) (by simpa [upd] using hj)
  n67 hi hj := h.n67 (by simpa [upd] using hi) (by simpa [upd] using hj)
  c8 _ := ⟨upd_of hr, upd_of hb⟩
  c9 hl := let q := h.c9 (by simpa [upd] using hl); ⟨upd_of q.1, upd_of q.2⟩
  b := h.b.setCell (p := ⟨X1, 0, none⟩) (h.r6 hb).2.2 _
theorem I5.s9 (h : I5 a0 w1 S n T T2 L a W B1 B2 X1 X2) (hb : L 7 = true) (hr : L 5 = true) : I5 a0 w1 S n T T2 (upd L 9) (a.put none undef) (W.setCell ⟨X2, 0, none⟩ (.slice (some ⟨B2, 0, none⟩) n n)) B1 B2 X1 X2 where
  d := h.d
  s := h.s
  o := h.o
  r0 hl := h.r0 (by simpa [upd] using hl)
  r1 hl := h.r1 (by simpa [upd] using hl)
  r3 hl := h.r3 (by simpa [upd] using hl)
  r4 hl := h.r4 (by simpa [upd] using hl)
  r2 hl := by
    have hl2 : L 2 = true := by simpa [upd] using hl
    have q := h.r2 hl2
    exact ⟨q.1, q.2.1.far (p := ⟨X2, 0, none⟩) (h.n27 hl2 hb) _, q.2.2⟩
  r5 hl := by
    have hl2 : L 5 = true := by simpa [upd] using hl
    have q := h.r5 hl2
    exact ⟨q.1, q.2.1.far (p := ⟨X2, 0, none⟩) (h.n57 hl2 hb) _, q.2.2⟩
  r6 hl := by
    have hl2 : L 6 = true := by simpa [upd] using hl
    have q := h.r6 hl2
    refine ⟨q.1, ?_, q.2.2⟩
    rw [upd_ne L (by decide)]
    exact q.2.1.far (p := ⟨X2, 0, none⟩) (h.n67 hl2 hb) _
  r7 hl := by
    have q := h.r7 hb
    refine ⟨q.1, ?_, q.2.2⟩
    have q2 := q.2.1.set_ 0 (.slice (some ⟨B2, 0, none⟩) n n)
    rw [upd_same]
    exact q2
  n25 hi hj := h.n25 (by simpa [upd] using hi) (by simpa [upd] using hj)
  n26 hi hj := h.n26 (by simpa [upd] using hi) (by simpa [upd] using hj)
  n27 hi hj := h.n27 (by simpa [upd] using hi) (by simpa [upd] using hj)
  n56 hi hj := h.n56 (by simpa [upd] using hi) (by simpa [upd] using hj)
  n57 hi hj := h.n57 (by simpa [upd] using hi) (by simpa [upd] using hj)
  n67 hi hj := h.n67 (by simpa [upd] using hi) (by simpa [upd] using hj)
  c8 hl := let q := h.c8 (by simpa [upd] using hl); ⟨upd_of q.1, upd_of q.2⟩
  c9 _ := ⟨upd_of hr, upd_of hb⟩
  b := h.b.setCell (p := ⟨X2, 0, none⟩) (h.r7 hb).2.2 _
/-- Behind the last: the frame. -/
theorem I5.frame (h : I5 a0 w1 S n T T2 L a W B1 B2 X1 X2) (hl : ∀ i, i < 10 → L i = true) (hz : 41 ≤ a0.tmps.size) : a = { tmps := (((((((a0.tmps.setIfInBounds 35 S).setIfInBounds 36 (.int .i64 n)).setIfInBounds 37 (.slice (some ⟨B1, 0, none⟩) n n)).setIfInBounds 38 S).setIfInBounds 39 (.int .i64 n)).setIfInBounds 40 (.slice (some ⟨B2, 0, none⟩) n n)).setIfInBounds 10 (.pointer (some ⟨X1, 0, none⟩))).setIfInBounds 11 (.pointer (some ⟨X2, 0, none⟩)), defers := a0.defers } := by
  suffices key : a.tmps = (((((((a0.tmps.setIfInBounds 35 S).setIfInBounds 36 (.int .i64 n)).setIfInBounds 37 (.slice (some ⟨B1, 0, none⟩) n n)).setIfInBounds 38 S).setIfInBounds 39 (.int .i64 n)).setIfInBounds 40 (.slice (some ⟨B2, 0, none⟩) n n)).setIfInBounds 10 (.pointer (some ⟨X1, 0, none⟩))).setIfInBounds 11 (.pointer (some ⟨X2, 0, none⟩)) by
    rw [← key, ← h.d]
  have h0 := h.r0 (hl 0 (by decide))
  have h1 := h.r1 (hl 1 (by decide))
  have h2 := (h.r2 (hl 2 (by decide))).1
  have h3 := h.r3 (hl 3 (by decide))
  have h4 := h.r4 (hl 4 (by decide))
  have h5 := (h.r5 (hl 5 (by decide))).1
  have h6 := (h.r6 (hl 6 (by decide))).1
  have h7 := (h.r7 (hl 7 (by decide))).1
  have ho := h.o
  have hs := h.s
  clear h hl
  generalize a0.tmps = am at *
  generalize a.tmps = tm at *
  refine Array.ext_getElem? fun j => ?_
  simp only [Array.getElem?_setIfInBounds, Array.size_setIfInBounds]
  by_cases e7 : 11 = j
  · subst e7; rw [if_pos rfl, if_pos (by omega)]; exact h7
  rw [if_neg e7]
  by_cases e6 : 10 = j
  · subst e6; rw [if_pos rfl, if_pos (by omega)]; exact h6
  rw [if_neg e6]
  by_cases e5 : 40 = j
  · subst e5; rw [if_pos rfl, if_pos (by omega)]; exact h5
  rw [if_neg e5]
  by_cases e4 : 39 = j
  · subst e4; rw [if_pos rfl, if_pos (by omega)]; exact h4
  rw [if_neg e4]
  by_cases e3 : 38 = j
  · subst e3; rw [if_pos rfl, if_pos (by omega)]; exact h3
  rw [if_neg e3]
  by_cases e2 : 37 = j
  · subst e2; rw [if_pos rfl, if_pos (by omega)]; exact h2
  rw [if_neg e2]
  by_cases e1 : 36 = j
  · subst e1; rw [if_pos rfl, if_pos (by omega)]; exact h1
  rw [if_neg e1]
  by_cases e0 : 35 = j
  · subst e0; rw [if_pos rfl, if_pos (by omega)]; exact h0
  rw [if_neg e0]
  exact ho j (by simp only [List.mem_cons, List.not_mem_nil, or_false, not_or]; exact ⟨Ne.symm e0, Ne.symm e1, Ne.symm e2, Ne.symm e3, Ne.symm e4, Ne.symm e5, Ne.symm e6, Ne.symm e7⟩)
end
end Go.Proofs.YtafclpmnpamipaaGreat
