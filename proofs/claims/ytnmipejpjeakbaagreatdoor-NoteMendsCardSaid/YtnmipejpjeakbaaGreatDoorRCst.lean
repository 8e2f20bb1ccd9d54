/- The document's costs: a grid whose rows are blocks of their own. Printed by genrcst.py. -/
import Derived.Test.YtnmipejpjeakbaaGreatDoorPAll
namespace Go.Proofs.YtnmipejpjeakbaaGreatDoor
open Go.RowKit Go.Shelf Go.Sort Go.Proofs

/-- The grid of costs, from row i on; row i is full from column j on. Row r lies in block cb r. -/
structure GC (a b : List NoteR) (n m : Nat) (w : World) (rb : Nat) (cb : Nat → Nat) (i j : Nat) : Prop where
  r : ∃ rs, BK w rb 46 rs ∧ rs.size = n + 1 ∧ ∀ r, r ≤ n → i ≤ r → rs[r]? = some (.slice (some ⟨cb r, 0, none⟩) (m + 1) (m + 1))
  c : ∀ r, r ≤ n → i ≤ r → ∃ cs, BK w (cb r) 3 cs ∧ cs.size = m + 1 ∧ ∀ j', j' ≤ m → (i < r ∨ j ≤ j') → cs[j']? = some (.int .i64 (cst (a.drop r) (b.drop j') : Nat))
  ne : ∀ r, r ≤ n → i ≤ r → rb < cb r
  inj : ∀ r r', r ≤ n → r' ≤ n → i ≤ r → i ≤ r' → cb r = cb r' → r = r'
section
variable {a b : List NoteR} {n m : Nat} {w w' : World} {rb i j : Nat} {cb : Nat → Nat}
theorem GC.same (h : GC a b n m w rb cb i j) (h2 : w'.heap[rb]? = w.heap[rb]?) (h1 : ∀ r, r ≤ n → i ≤ r → w'.heap[cb r]? = w.heap[cb r]?) : GC a b n m w' rb cb i j := by
  obtain ⟨⟨rs, hr, hr1, hr2⟩, hc, hne, hin⟩ := h
  refine ⟨⟨rs, hr.same h2, hr1, hr2⟩, fun r q1 q2 => ?_, hne, hin⟩
  obtain ⟨cs, c0, c1, c2⟩ := hc r q1 q2
  exact ⟨cs, c0.same (h1 r q1 q2), c1, c2⟩
theorem GC.lt (h : GC a b n m w rb cb i j) : rb < w.heap.size := by
  obtain ⟨⟨rs, hr, -⟩, -⟩ := h
  exact hr.lt
theorem GC.ltc (h : GC a b n m w rb cb i j) {r : Nat} (hr : r ≤ n) (hi : i ≤ r) : cb r < w.heap.size := by
  obtain ⟨cs, c0, -⟩ := h.c r hr hi
  exact c0.lt
theorem GC.below (h : GC a b n m w rb cb i j) (hb : Below w.heap.size w w') : GC a b n m w' rb cb i j := h.same (hb.block _ h.lt) (fun _ q1 q2 => hb.block _ (h.ltc q1 q2))
theorem GC.drewN (h : GC a b n m w rb cb i j) (k : Nat) : GC a b n m (w.drewN k) rb cb i j := h.same rfl (fun _ _ _ => rfl)
theorem GC.row (h : GC a b n m w rb cb i j) {r : Nat} (hr : r ≤ n) (hi : i ≤ r) : w.cell? ⟨rb, r, none⟩ = some (.slice (some ⟨cb r, 0, none⟩) (m + 1) (m + 1)) := by
  obtain ⟨⟨rs, h1, -, h2⟩, -⟩ := h
  rw [h1.cell r, h2 r hr hi]
theorem GC.row_some (h : GC a b n m w rb cb i j) {r : Nat} (hr : r ≤ n) : ∃ v, w.cell? ⟨rb, r, none⟩ = some v := by
  obtain ⟨⟨rs, h1, h2, -⟩, -⟩ := h
  rw [h1.cell _]
  exact ⟨_, Array.getElem?_eq_getElem (by rw [h2]; omega)⟩
theorem GC.at_ (h : GC a b n m w rb cb i j) {r j' : Nat} (hr : r ≤ n) (hj : j' ≤ m) (hi : i ≤ r) (hij : i < r ∨ j ≤ j') : w.cell? ⟨cb r, j', none⟩ = some (.int .i64 (cst (a.drop r) (b.drop j') : Nat)) := by
  obtain ⟨cs, h1, -, h2⟩ := h.c r hr hi
  rw [h1.cell _, h2 j' hj hij]
theorem GC.some_ (h : GC a b n m w rb cb i j) {r j' : Nat} (hr : r ≤ n) (hj : j' ≤ m) (hi : i ≤ r) : ∃ v, w.cell? ⟨cb r, j', none⟩ = some v := by
  obtain ⟨cs, h1, h2, -⟩ := h.c r hr hi
  rw [h1.cell _]
  exact ⟨_, Array.getElem?_eq_getElem (by rw [h2]; omega)⟩
theorem GC.fz (h : GC a b n m w rb cb i j) (k : Nat) : w.frozen? ⟨rb, k, none⟩ = false := by
  obtain ⟨⟨rs, hr, -⟩, -⟩ := h
  exact hr.frozen k
theorem GC.fzc (h : GC a b n m w rb cb i j) {r : Nat} (hr : r ≤ n) (hi : i ≤ r) (k : Nat) : w.frozen? ⟨cb r, k, none⟩ = false := by
  obtain ⟨cs, c0, -⟩ := h.c r hr hi
  exact c0.frozen k
theorem GC.put (h : GC a b n m w rb cb i (j + 1)) (hi : i ≤ n) (hj : j ≤ m) (v : Int) (hv : v = (cst (a.drop i) (b.drop j) : Nat)) : GC a b n m (w.setCell ⟨cb i, j, none⟩ (.int .i64 v)) rb cb i j := by
  subst hv
  have hni := h.ne i hi (Nat.le_refl _)
  have hinj := h.inj
  obtain ⟨⟨rs, hr, hr1, hr2⟩, hc, hne, hin⟩ := h
  refine ⟨⟨rs, hr.far (p := ⟨cb i, _, none⟩) (by show rb ≠ cb i; omega) _, hr1, hr2⟩, fun r q1 q2 => ?_, hne, hin⟩
  obtain ⟨cs, c0, c1, c2⟩ := hc r q1 q2
  by_cases e : r = i
  · subst e
    refine ⟨_, c0.set_ j _, by simpa using c1, fun j' k1 k2 => ?_⟩
    by_cases e2 : j = j'
    · subst e2
      rw [Array.getElem?_setIfInBounds, if_pos rfl, if_pos (by omega)]
    · rw [Array.getElem?_setIfInBounds, if_neg e2]
      exact c2 j' k1 (by omega)
  · refine ⟨cs, c0.far (p := ⟨cb i, _, none⟩) (fun q => e (hinj r i q1 hi q2 (Nat.le_refl _) q)) _, c1, fun j' k1 k2 => c2 j' k1 (.inl (by omega))⟩
theorem GC.row_some_alloc (h : GC a b n m w rb cb i j) {o : Obj} {r : Nat} (hr : r ≤ n) : ∃ v, (w.alloc o).cell? ⟨rb, r, none⟩ = some v := by
  obtain ⟨⟨rs, h1, h2, -⟩, -⟩ := h
  rw [(h1.alloc o).cell _]
  exact ⟨_, Array.getElem?_eq_getElem (by rw [h2]; omega)⟩
theorem GC.fz_alloc (h : GC a b n m w rb cb i j) (o : Obj) (k : Nat) : (w.alloc o).frozen? ⟨rb, k, none⟩ = false := by
  obtain ⟨⟨rs, hr, -⟩, -⟩ := h
  exact (hr.alloc o).frozen k
/-- A new row. -/
theorem GC.new (h : GC a b n m w rb cb (i + 1) 0) (hi : i ≤ n) {cs : Array Value} (hs : cs.size = m + 1) : GC a b n m ((w.setCell ⟨rb, i, none⟩ (.slice (some ⟨w.heap.size, 0, none⟩) (m + 1) (m + 1))).alloc (.cells cs 3)) rb (fun r => if r = i then w.heap.size else cb r) i (m + 1) := by
  have hlt := h.lt
  have hltc := fun r q1 q2 => h.ltc (r := r) q1 q2
  obtain ⟨⟨rs, hr, hr1, hr2⟩, hc, hne, hin⟩ := h
  refine ⟨⟨_, (hr.set_ i _).alloc _, by simpa using hr1, fun r q1 q2 => ?_⟩, fun r q1 q2 => ?_, fun r q1 q2 => ?_, fun r r' q1 q2 q3 q4 q5 => ?_⟩
  · by_cases e : i = r
    · subst e
      rw [Array.getElem?_setIfInBounds, if_pos rfl, if_pos (by omega), if_pos rfl]
    · rw [Array.getElem?_setIfInBounds, if_neg e, if_neg (fun q => e q.symm)]
      exact hr2 r q1 (by omega)
  · by_cases e : r = i
    · subst e
      refine ⟨cs, ?_, hs, fun j' k1 k2 => by omega⟩
      rw [if_pos rfl]
      have := BK.new (w.setCell ⟨rb, r, none⟩ (.slice (some ⟨w.heap.size, 0, none⟩) (m + 1) (m + 1))) 3 cs
      rwa [World.size_setCell] at this
    · obtain ⟨cs', c0, c1, c2⟩ := hc r q1 (by omega)
      refine ⟨cs', ?_, c1, fun j' k1 k2 => c2 j' k1 ?_⟩
      · rw [if_neg e]
        exact (c0.far (p := ⟨rb, _, none⟩) (by have := hne r q1 (by omega); show cb r ≠ rb; omega) _).alloc _
      · exact .inr (Nat.zero_le _)
  · by_cases e : r = i
    · simp only [if_pos e]; exact hlt
    · simp only [if_neg e]; exact hne r q1 (by omega)
  · by_cases e : r = i <;> by_cases e' : r' = i
    · omega
    · simp only [if_pos e, if_neg e'] at q5
      have := hltc r' q2 (by omega)
      omega
    · simp only [if_neg e, if_pos e'] at q5
      have := hltc r q1 (by omega)
      omega
    · simp only [if_neg e, if_neg e'] at q5
      exact hin r r' q1 q2 (by omega) (by omega) q5
theorem GC.app {f : EdR → List Value} {base A k c g c' xs w1 y} (h : GC a b n m w rb cb i j) (hO : OW f 12 83 base w A k c xs) {o : Obj} (hap : App1 f 12 83 base (w.alloc o) A k c xs y g c' w1) : GC a b n m w1 rb cb i j := by
  have key : ∀ {g0 : Nat} {t : TypeId} {cs : Array Value}, BK w g0 t cs → 83 ≠ t → w1.heap[g0]? = w.heap[g0]? := fun {g0 t cs} hb hne =>
    (hap.far g0 (by have := hb.lt; rw [World.size_alloc]; omega) (fun q hq e => OW.bk_ne hO hb hne hq e)).trans (Below.heap_alloc w o g0 hb.lt)
  obtain ⟨rs, hr, -⟩ := h.r
  refine h.same (key hr (by decide)) (fun r q1 q2 => ?_)
  obtain ⟨cs, c0, -⟩ := h.c r q1 q2
  exact key c0 (by decide)
end
set_option maxRecDepth 100000 in
set_option maxHeartbeats 8000000 in
theorem rcosts_any (a b : List NoteR) (aa : Option Addr) (n ac : Nat) (ba : Option Addr) (m bc : Nat) (w : World) (ha : SL nC 10 w w.heap.size aa n a) (hb : SL nC 10 w w.heap.size ba m b) (hn : n ≤ 300) (hm : m ≤ 300) :
    Calls Tryz.prog 54 #[.slice aa n ac, .slice ba m bc] w fun e w' => ∃ rb cb, e = .returned (.slice (some ⟨rb, 0, none⟩) (n + 1) (n + 1)) ∧ GC a b n m w' rb cb 0 0 ∧ w.heap.size ≤ rb ∧ Below w.heap.size w w' := by
  have hmo : Tryz.prog.follows .mixedOrders = true := by kernel_rfl
  have hmk2 : ∀ w, (Instr.makeSlice 99 (.int .i64 ((n : Int) + 1)) (.int .i64 ((n : Int) + 1))).run Tryz.prog w = .ok (.slice (some ⟨w.heap.size, 0, none⟩) (n + 1) (n + 1)) (w.alloc (.cells (madeCells #[.slice none 0 0] (n + 1)) 46)) := mk_rows (n + 1) (by omega)
  have hmk1 : ∀ w, (Instr.makeSlice 46 (.int .i64 ((m : Int) + 1)) (.int .i64 ((m : Int) + 1))).run Tryz.prog w = .ok (.slice (some ⟨w.heap.size, 0, none⟩) (m + 1) (m + 1)) (w.alloc (.cells (madeCells #[.int .i64 0] (m + 1)) 3)) := mk_ints (m + 1) (by omega)
  obtain ⟨w0, hw0⟩ : ∃ w0, w0 = w.alloc (.cells (madeCells #[.slice none 0 0] (n + 1)) 46) := ⟨_, rfl⟩
  have hR0 : BK w0 w.heap.size 46 (madeCells #[.slice none 0 0] (n + 1)) := by rw [hw0]; exact BK.new w _ _
  have hB0 : Below w.heap.size w w0 := by rw [hw0]; exact (Below.refl _ w).alloc (Nat.le_refl _) _
  have hG0 : GC a b n m w0 w.heap.size (fun _ => 0) (n + 1) 0 := ⟨⟨_, hR0, by rw [made_size], fun r h1 h2 => by omega⟩, fun r h1 h2 => by omega, fun r h1 h2 => by omega, fun r r' h1 h2 h3 => by omega⟩
  have HLA := Lib.hid ha.1
  have HLB := Lib.hid hb.1
  have hc600 := cst_bd (a := a) (b := b) (by rw [← HLA.out]; exact hn) (by rw [← HLB.out]; exact hm)
  have HC6 := Lib.hid hc600
  have HG0 := Lib.hid hG0
  have HB0 := Lib.hid hB0
  have HA := Lib.hid ha
  have HB := Lib.hid hb
  have HMK := Lib.hid hmk1
  clear ha hb hR0 hB0 hG0 hc600 hmk1
  go_enter Tryz.func54, Tryz.ntmps54
  go_wp2_with fail
  rw [← hw0]
  clear hw0 hmk2
  go_loopw [6, 7, 64, 79, 94] (fun iv _ _ _ _ wr => ∃ (i' : Nat) (cb : Nat → Nat), i' ≤ n + 1 ∧ iv = .int .i64 ((i' : Int) - 1) ∧ GC a b n m wr w.heap.size cb i' 0 ∧ Below w.heap.size w wr) (fun iv _ _ _ _ _ => (intOf iv + 1).toNat)
  case atStart => exact ⟨n + 1, _, Nat.le_refl _, by congr 1; omega, HG0.out, HB0.out⟩
  case round =>
    obtain ⟨i', cb, hi', rfl, hG, hbr⟩ := hrel
    cases i' with
    | zero =>
      have e : ((0 : Nat) : Int) - 1 = -1 := by omega
      rw [e]
      clear e
      go_wp2_with fail
      go_ret
      exact ⟨_, cb, rfl, hG, Nat.le_refl _, hbr⟩
    | succ i =>
      as_aux_lemma =>
        have e : ((i + 1 : Nat) : Int) - 1 = (i : Int) := by omega
        rw [e]
        clear e
        have hin : i ≤ n := by omega
        have hi0 : (0 : Int) ≤ (i : Int) := by omega
        have hi1 : (i : Int) < (n : Int) + 1 := by omega
        have hlt := hG.lt
        obtain ⟨rv, hrv⟩ := hG.row_some_alloc (o := .cells (madeCells #[.int .i64 0] (m + 1)) 3) hin
        have hfr := hG.fz_alloc (.cells (madeCells #[.int .i64 0] (m + 1)) 3) i
        have HG := Lib.hid hG
        have HBR := Lib.hid hbr
        have hmk1 := HMK.out
        clear hG hbr hi'
        go_wp2_with fail
        clear hrv hfr hmk1
        obtain ⟨w1, hw1⟩ : ∃ w1, w1 = (wr.setCell ⟨w.heap.size, i, none⟩ (.slice (some ⟨wr.heap.size, 0, none⟩) (m + 1) (m + 1))).alloc (.cells (madeCells #[.int .i64 0] (m + 1)) 3) := ⟨_, rfl⟩
        obtain ⟨cb1, hcb1⟩ : ∃ cb1 : Nat → Nat, cb1 = fun r => if r = i then wr.heap.size else cb r := ⟨_, rfl⟩
        have hG1 : GC a b n m w1 w.heap.size cb1 i (m + 1) := by rw [hw1, hcb1]; exact HG.out.new hin (made_size _ _)
        have hb1 : Below w.heap.size w w1 := by rw [hw1]; exact (HBR.out.setCell (p := ⟨w.heap.size, i, none⟩) (by simp) _).alloc (by rw [World.size_setCell]; omega) _
        rw [← hw1]
        clear hw1 hcb1 HG HBR hlt
        have HG1 := Lib.hid hG1
        have HB1 := Lib.hid hb1
        clear hG1 hb1
        go_loopw [7, 64, 79, 94] (fun jv _ _ _ wq => ∃ j' : Nat, j' ≤ m + 1 ∧ jv = .int .i64 ((j' : Int) - 1) ∧ GC a b n m wq w.heap.size cb1 i j' ∧ Below w.heap.size w wq) (fun jv _ _ _ _ => (intOf jv + 1).toNat)
        case atStart => exact ⟨m + 1, Nat.le_refl _, by congr 1; omega, HG1.out, HB1.out⟩
        case round =>
          obtain ⟨j', hj', rfl, hG, hbr⟩ := hrel
          cases j' with
          | zero =>
            have e : ((0 : Nat) : Int) - 1 = -1 := by omega
            rw [e]
            clear e
            go_wp2_with fail
            go_roundw
            case rel => exact ⟨i, cb1, by omega, by go_num, hG, hbr⟩
            case measure => simp [intOf]
          | succ j =>
            have e : ((j + 1 : Nat) : Int) - 1 = (j : Int) := by omega
            rw [e]
            clear e
            have hjm : j ≤ m := by omega
            have hj0 : (0 : Int) ≤ (j : Int) := by omega
            have hj1 : (j : Int) < (m : Int) + 1 := by omega
            have r0 := hG.row hin (Nat.le_refl i)
            have f0 := fun k => hG.fzc hin (Nat.le_refl i) k
            have hcbB : w.heap.size ≤ cb1 i := by have := hG.ne i hin (Nat.le_refl i); omega
            obtain ⟨cv, hcv⟩ := hG.some_ hin hjm (Nat.le_refl i)
            have HG := Lib.hid hG
            have HBR := Lib.hid hbr
            have hput := fun (v : Int) (hv : v = (cst (a.drop i) (b.drop j) : Nat)) => hG.put hin hjm v hv
            have HPUT := Lib.hid hput
            have hbelow := fun u : Value => hbr.setCell (p := ⟨cb1 i, j, none⟩) hcbB u
            have HBEL := Lib.hid hbelow
            clear hG hbr hput hbelow hj'
            obtain ⟨K, hK⟩ : ∃ K, cb1 i = K := ⟨_, rfl⟩
            have HK := Lib.hid hK
            rw [hK] at r0 f0 hcbB hcv HPUT HBEL
            clear hK
            by_cases hni : i = n
            · have g1 : ((i : Int) == (n : Int)) = true := by simp; omega
              have g1N : (i == n) = true := by simp; omega
              have hval : (m : Int) - (j : Int) = (cst (a.drop i) (b.drop j) : Nat) := by rw [hni, cst_end HLA.out, ← HLB.out]; omega
              have HV := Lib.hid hval
              clear hval hni
              go_wp2_with fail
              go_roundw
              case rel => exact ⟨j, by omega, by go_num, HPUT.out _ HV.out, HBEL.out _⟩
              case measure => simp [intOf]
            · have g1 : ((i : Int) == (n : Int)) = false := by simp; omega
              have g1N : (i == n) = false := by simp; omega
              by_cases hmj : j = m
              · have g2 : ((j : Int) == (m : Int)) = true := by simp; omega
                have g2N : (j == m) = true := by simp; omega
                have hval : (n : Int) - (i : Int) = (cst (a.drop i) (b.drop j) : Nat) := by rw [hmj, cst_end' HLB.out, ← HLA.out]; omega
                have HV := Lib.hid hval
                clear hval hmj hni
                go_wp2_with fail
                go_roundw
                case rel => exact ⟨j, by omega, by go_num, HPUT.out _ HV.out, HBEL.out _⟩
                case measure => simp [intOf]
              · have g2 : ((j : Int) == (m : Int)) = false := by simp; omega
                have g2N : (j == m) = false := by simp; omega
                have hin2 : i + 1 ≤ n := by omega
                have hjm2 : j + 1 ≤ m := by omega
                have r1 := HG.out.row hin2 (by omega)
                have c11 := HG.out.at_ (r := i + 1) (j' := j + 1) hin2 hjm2 (by omega) (.inl (by omega))
                have c10 := HG.out.at_ (r := i + 1) (j' := j) hin2 hjm (by omega) (.inl (by omega))
                have c01 := HG.out.at_ (r := i) (j' := j + 1) hin hjm2 (by omega) (.inr (by omega))
                rw [HK.out] at c01
                obtain ⟨K2, hK2⟩ : ∃ K2, cb1 (i + 1) = K2 := ⟨_, rfl⟩
                rw [hK2] at r1 c11 c10
                clear hK2
                have k1 := HC6.out (i + 1) (j + 1)
                have k2 := HC6.out (i + 1) j
                have k3 := HC6.out i (j + 1)
                have hia : i < a.length := by rw [← HLA.out]; omega
                have hjb : j < b.length := by rw [← HLB.out]; omega
                have HCM : Hid (cst (a.drop i) (b.drop j) = if a[i] = b[j] then cst (a.drop (i + 1)) (b.drop (j + 1)) else 1 + min (cst (a.drop (i + 1)) (b.drop (j + 1))) (min (cst (a.drop (i + 1)) (b.drop j)) (cst (a.drop i) (b.drop (j + 1))))) := by
                  show _ = _
                  rw [drop_cons hia, drop_cons hjb]
                  exact cst_cons _ _ _ _
                generalize cst (a.drop (i + 1)) (b.drop (j + 1)) = x11 at *
                generalize cst (a.drop (i + 1)) (b.drop j) = x10 at *
                generalize cst (a.drop i) (b.drop (j + 1)) = x01 at *
                obtain ⟨M1, hM1⟩ : ∃ M1 : Nat, M1 = min x11 x10 := ⟨_, rfl⟩
                obtain ⟨M, hM⟩ : ∃ M : Nat, M = min M1 x01 := ⟨_, rfl⟩
                have hMM : min x11 (min x10 x01) = M := by rw [hM, hM1]; omega
                have t1 : (if (x10 : Int) < (x11 : Int) then (x10 : Int) else (x11 : Int)) = (M1 : Int) := by rw [hM1]; split <;> omega
                have t1N : (if x10 < x11 then (x10 : Int) else (x11 : Int)) = (M1 : Int) := by rw [hM1]; split <;> omega
                have t2 : (if (x01 : Int) < (M1 : Int) then (x01 : Int) else (M1 : Int)) = (M : Int) := by rw [hM]; split <;> omega
                have t2N : (if x01 < M1 then (x01 : Int) else (M1 : Int)) = (M : Int) := by rw [hM]; split <;> omega
                have hM600 : M ≤ 600 := by omega
                rw [hMM] at HCM
                clear hM hM1 hMM k1 k2 k3
                have u1 : IntKind.i64.wrap ((i : Int) + 1) = (i : Int) + 1 := IntWalk.i64_in _ (by omega)
                have u2 : IntKind.i64.wrap ((j : Int) + 1) = (j : Int) + 1 := IntWalk.i64_in _ (by omega)
                have u3 : IntKind.i64.wrap (1 + (M : Int)) = 1 + (M : Int) := IntWalk.i64_in _ (by omega)
                have b1 : (i : Int) < (n : Int) + 1 := by omega
                have b9 : i < n := by omega
                have b10 : j < m := by omega
                have b2 : (i : Int) + 1 < (n : Int) + 1 := by omega
                have b3 : (j : Int) < (m : Int) + 1 := by omega
                have b4 : (j : Int) + 1 < (m : Int) + 1 := by omega
                have b5 : ((i : Int) + 1).toNat = i + 1 := by omega
                have b6 : ((j : Int) + 1).toNat = j + 1 := by omega
                have b7 : (0 : Int) ≤ (i : Int) + 1 := by omega
                have b8 : (0 : Int) ≤ (j : Int) + 1 := by omega
                have hia0 : (i : Int) < (n : Int) := by omega
                have hjb0 : (j : Int) < (m : Int) := by omega
                obtain ⟨xb, xo, hxa, hxB, c0', c1', c2', c3', c4', c5', c6', c7', c8', c9'⟩ := NS.at_ (HA.out.below HBR.out) hia
                obtain ⟨yb, yo, hya, hyB, d0', d1', d2', d3', d4', d5', d6', d7', d8', d9'⟩ := NS.at_ (HB.out.below HBR.out) hjb
                generalize a[i]'hia = x at *
                generalize b[j]'hjb = y at *
                clear hia hjb
                rw [hxa, hya]
                by_cases exy : x = y
                · subst exy
                  have HCV : Hid (cst (a.drop i) (b.drop j) = x11) := by have := HCM.out; rwa [if_pos rfl] at this
                  clear HCM
                  go_wp2_with fail
                  go_quiet (fail)
                  go_wp2_with fail
                  obtain ⟨w4, hw4⟩ : ∃ w4, w4 = wr.drewN nq := ⟨_, rfl⟩
                  have hb4 : Below w.heap.size w w4 := by rw [hw4]; exact below_drewN HBR.out _
                  have hG4 : GC a b n m w4 w.heap.size cb1 i (j + 1) := by rw [hw4]; exact HG.out.drewN _
                  have r0 : w4.cell? ⟨w.heap.size, i, none⟩ = some (.slice (some ⟨K, 0, none⟩) (m + 1) (m + 1)) := by rw [hw4]; exact r0
                  have r1 : w4.cell? ⟨w.heap.size, i + 1, none⟩ = some (.slice (some ⟨K2, 0, none⟩) (m + 1) (m + 1)) := by rw [hw4]; exact r1
                  have c11 : w4.cell? ⟨K2, j + 1, none⟩ = some (.int .i64 (x11 : Nat)) := by rw [hw4]; exact c11
                  have c10 : w4.cell? ⟨K2, j, none⟩ = some (.int .i64 (x10 : Nat)) := by rw [hw4]; exact c10
                  have c01 : w4.cell? ⟨K, j + 1, none⟩ = some (.int .i64 (x01 : Nat)) := by rw [hw4]; exact c01
                  rw [← hw4]
                  clear hw4 HG HBR HPUT HBEL hcv f0 hxa hya c0' c1' c2' c3' c4' c5' c6' c7' c8' c9' d0' d1' d2' d3' d4' d5' d6' d7' d8' d9'
                  have HG4 := Lib.hid hG4
                  have HB4 := Lib.hid hb4
                  clear hG4 hb4
                  have r0' := fun d os => cell_regrown r0 d os
                  have r1' := fun d os => cell_regrown r1 d os
                  have c11' := fun d os => cell_regrown c11 d os
                  refine wp_region_qt 14 hmo (by kernel_rfl) ?_
                  simp only [List.take_succ_cons, List.take_zero, List.drop_succ_cons, List.drop_zero]
                  repeat (quiet_step (fail))
                  refine wpQuiet_nil ?_
                  intro w5 hbw
                  have hb5 : Below w.heap.size w w5 := HB4.out.trans (hbw.mono HB4.out.size)
                  have hG5 := HG4.out.below hbw
                  obtain ⟨cv2, hcv2⟩ := hG5.some_ hin hjm (Nat.le_refl i)
                  have f2 := fun k => hG5.fzc hin (Nat.le_refl i) k
                  have HV : Hid ((x11 : Int) = (cst (a.drop i) (b.drop j) : Nat)) := by show _ = _; rw [HCV.out]
                  have hput := hG5.put hin hjm _ HV.out
                  have hbel2 := hb5.setCell (p := ⟨cb1 i, j, none⟩) (by rw [HK.out]; exact hcbB) (.int .i64 (x11 : Int))
                  rw [HK.out] at hcv2 hput hbel2 f2
                  have HPUT2 := Lib.hid hput
                  have HBEL2 := Lib.hid hbel2
                  clear r0 r1 c11 c10 c01 r0' r1' c11' hbw hb5 hG5 hput hbel2
                  go_wp2_with fail
                  go_roundw
                  case rel => exact ⟨j, by omega, by go_num, HPUT2.out, HBEL2.out⟩
                  case measure => simp [intOf]
                · have HCV : Hid (cst (a.drop i) (b.drop j) = 1 + M) := by have := HCM.out; rwa [if_neg exy] at this
                  have hq : ∀ w, (Go.binOp .eql 36 (.agg #[.int .i64 x.k, .int .i64 x.tu, .int .i64 x.gr, .int .i64 x.lo, .int .i64 x.ch, .int .i64 x.ton, .int .i64 x.me, .int .i64 x.si, .int .i64 x.wa, .int .i64 x.ar]) (.agg #[.int .i64 y.k, .int .i64 y.tu, .int .i64 y.gr, .int .i64 y.lo, .int .i64 y.ch, .int .i64 y.ton, .int .i64 y.me, .int .i64 y.si, .int .i64 y.wa, .int .i64 y.ar])).run Tryz.prog w = .ok (.bool false) w := fun w => by rw [eqN, decide_eq_false exy]
                  clear HCM
                  go_wp2_with fail
                  go_quiet (fail)
                  go_wp2_with fail
                  obtain ⟨w4, hw4⟩ : ∃ w4, w4 = wr.drewN nq := ⟨_, rfl⟩
                  have hb4 : Below w.heap.size w w4 := by rw [hw4]; exact below_drewN HBR.out _
                  have hG4 : GC a b n m w4 w.heap.size cb1 i (j + 1) := by rw [hw4]; exact HG.out.drewN _
                  have r0 : w4.cell? ⟨w.heap.size, i, none⟩ = some (.slice (some ⟨K, 0, none⟩) (m + 1) (m + 1)) := by rw [hw4]; exact r0
                  have r1 : w4.cell? ⟨w.heap.size, i + 1, none⟩ = some (.slice (some ⟨K2, 0, none⟩) (m + 1) (m + 1)) := by rw [hw4]; exact r1
                  have c11 : w4.cell? ⟨K2, j + 1, none⟩ = some (.int .i64 (x11 : Nat)) := by rw [hw4]; exact c11
                  have c10 : w4.cell? ⟨K2, j, none⟩ = some (.int .i64 (x10 : Nat)) := by rw [hw4]; exact c10
                  have c01 : w4.cell? ⟨K, j + 1, none⟩ = some (.int .i64 (x01 : Nat)) := by rw [hw4]; exact c01
                  rw [← hw4]
                  clear hw4 HG HBR HPUT HBEL hcv f0 hxa hya c0' c1' c2' c3' c4' c5' c6' c7' c8' c9' d0' d1' d2' d3' d4' d5' d6' d7' d8' d9'
                  have HG4 := Lib.hid hG4
                  have HB4 := Lib.hid hb4
                  clear hG4 hb4
                  have r0' := fun d os => cell_regrown r0 d os
                  have r1' := fun d os => cell_regrown r1 d os
                  have c11' := fun d os => cell_regrown c11 d os
                  have c10' := fun d os => cell_regrown c10 d os
                  have c01' := fun d os => cell_regrown c01 d os
                  refine wp_region_qt 32 hmo (by kernel_rfl) ?_
                  simp only [List.take_succ_cons, List.take_zero, List.drop_succ_cons, List.drop_zero]
                  repeat (quiet_step (fail))
                  refine wpQuiet_nil ?_
                  intro w5 hbw
                  have hb5 : Below w.heap.size w w5 := HB4.out.trans (hbw.mono HB4.out.size)
                  have hG5 := HG4.out.below hbw
                  obtain ⟨cv2, hcv2⟩ := hG5.some_ hin hjm (Nat.le_refl i)
                  have f2 := fun k => hG5.fzc hin (Nat.le_refl i) k
                  have HV : Hid (1 + (M : Int) = (cst (a.drop i) (b.drop j) : Nat)) := by show _ = _; rw [HCV.out]; omega
                  have hput := hG5.put hin hjm _ HV.out
                  have hbel2 := hb5.setCell (p := ⟨cb1 i, j, none⟩) (by rw [HK.out]; exact hcbB) (.int .i64 (1 + (M : Int)))
                  rw [HK.out] at hcv2 hput hbel2 f2
                  have HPUT2 := Lib.hid hput
                  have HBEL2 := Lib.hid hbel2
                  clear r0 r1 c11 c10 c01 r0' r1' c11' c10' c01' t1 t1N t2 t2N hbw hb5 hG5 hput hbel2
                  go_wp2_with fail
                  go_roundw
                  case rel => exact ⟨j, by omega, by go_num, HPUT2.out, HBEL2.out⟩
                  case measure => simp [intOf]
end Go.Proofs.YtnmipejpjeakbaaGreatDoor
