/- Package score: how two cars are compared: by their totals, their wins, their times, their numbers. Printed by gensch.py. -/
import Derived.Test.YtafclpmnpamipaaGreatQScF
import Derived.Test.YtafclpmnpamipaaGreatQStr1
import Derived.Test.YtafclpmnpamipaaGreatQRegV
namespace Go.Proofs.YtafclpmnpamipaaGreat
open Go.RowKit Go.Shelf Go.Sort Go.Proofs

/-- Block b is not blk, lies in the world, and holds the cells cs (at least). -/
def CN (w : World) (blk b : Nat) (cs : List Value) : Prop := b ≠ blk ∧ b < w.heap.size ∧ ∀ (j : Nat) (v : Value), cs[j]? = some v → w.cell? ⟨b, j, none⟩ = some v
theorem CN.keep {w w' : World} {blk b : Nat} {cs : List Value} (h : CN w blk b cs) (hs : w.heap.size ≤ w'.heap.size) (hk : ∀ q, q < w.heap.size → q ≠ blk → w'.heap[q]? = w.heap[q]?) : CN w' blk b cs :=
  ⟨h.1, Nat.lt_of_lt_of_le h.2.1 hs, fun j v hv => (World.cell?_of_block (hk b h.2.1 h.1)).trans (h.2.2 j v hv)⟩
theorem CN.of_bk {w : World} {blk b : Nat} {t : TypeId} {cs : Array Value} (h : BK w b t cs) (hne : b ≠ blk) : CN w blk b cs.toList := ⟨hne, h.lt, h.cx.2⟩
theorem CN.ints {w : World} {blk b k : Nat} {xs : List Int} (h : CN w blk b (xs.map fun x => .int .i64 x)) (hk : k < xs.length) : w.cell? ⟨b, k, none⟩ = some (.int .i64 (xs.getD k 0)) :=
  h.2.2 k _ (by rw [List.getElem?_map, List.getElem?_eq_getElem hk, List.getD_eq_getElem?_getD, List.getElem?_eq_getElem hk]; rfl)
set_option maxRecDepth 100000 in
theorem resC1 (W : World) (blk tb TA n : Nat) (ts : List Int) (hl : ts.length = n) (h1 : CN W blk tb [.slice (some ⟨TA, 0, none⟩) n n]) (h2 : CN W blk TA (ts.map fun x => .int .i64 x)) (a b : Nat) (ha : a < n) (hb : b < n) :
    Calls Tryz.prog 47 #[.int .i64 a, .int .i64 b, .pointer (some ⟨tb, 0, none⟩)] W fun e w' => e = .returned (.int .i64 (cmpI (ts.getD a 0) (ts.getD b 0))) ∧ ∃ q, w' = W.drewN q := by
  have c0 := h1.2.2 0 _ rfl
  have ca := h2.ints (hl.symm ▸ ha)
  have cb := h2.ints (hl.symm ▸ hb)
  have ha1 : (0 : Int) ≤ (a : Int) := by omega
  have ha2 : (a : Int) < (n : Int) := by omega
  have hb1 : (0 : Int) ≤ (b : Int) := by omega
  have hb2 : (b : Int) < (n : Int) := by omega
  generalize ts.getD a 0 = x at *
  generalize ts.getD b 0 = y at *
  clear h1 h2 ha hb hl
  go_enter Tryz.func47, Tryz.ntmps47
  go_wp2_with fail
  go_quiet ((go_at_call 48; exact Calls.quiet_of_same ((Compare_int _ _ _).mono fun _ _ ⟨a, b⟩ => ⟨a, b⟩)))
  go_wp2_with fail
  go_ret
  exact ⟨rfl, _, rfl⟩
set_option maxRecDepth 100000 in
theorem resC2 (W : World) (blk wb WA n : Nat) (wn : List Int) (hl : wn.length = n) (h1 : CN W blk wb [.slice (some ⟨WA, 0, none⟩) n n]) (h2 : CN W blk WA (wn.map fun x => .int .i64 x)) (a b : Nat) (ha : a < n) (hb : b < n) :
    Calls Tryz.prog 49 #[.int .i64 a, .int .i64 b, .pointer (some ⟨wb, 0, none⟩)] W fun e w' => e = .returned (.int .i64 (cmpI (wn.getD b 0) (wn.getD a 0))) ∧ ∃ q, w' = W.drewN q := by
  have c0 := h1.2.2 0 _ rfl
  have ca := h2.ints (hl.symm ▸ ha)
  have cb := h2.ints (hl.symm ▸ hb)
  have ha1 : (0 : Int) ≤ (a : Int) := by omega
  have ha2 : (a : Int) < (n : Int) := by omega
  have hb1 : (0 : Int) ≤ (b : Int) := by omega
  have hb2 : (b : Int) < (n : Int) := by omega
  generalize wn.getD a 0 = x at *
  generalize wn.getD b 0 = y at *
  clear h1 h2 ha hb hl
  go_enter Tryz.func49, Tryz.ntmps49
  go_wp2_with fail
  go_quiet ((go_at_call 48; exact Calls.quiet_of_same ((Compare_int _ _ _).mono fun _ _ ⟨a, b⟩ => ⟨a, b⟩)))
  go_wp2_with fail
  go_ret
  exact ⟨rfl, _, rfl⟩
set_option maxRecDepth 100000 in
theorem slCmp1 (W : World) (p q : Nat) (c d : Nat) (x y : Int) (h1 : W.cell? ⟨p, 0, none⟩ = some (.int .i64 x)) (h2 : W.cell? ⟨q, 0, none⟩ = some (.int .i64 y)) :
    Calls Tryz.prog 51 #[.slice (some ⟨p, 0, none⟩) 1 c, .slice (some ⟨q, 0, none⟩) 1 d] W fun e w' => e = .returned (.int .i64 (cmpI x y)) ∧ w' = W := by
  go_enter Tryz.func51, Tryz.ntmps51
  go_wp2_with fail
  refine wp_loop_rounds 2 ?_
  rw [rounds_succ]
  by_cases h : cmpI x y = 0
  · have hd : ((0 : Int) != 0) = false := by decide
    go_wp2_with (go_at_call 48; refine (Compare_int _ _ _).mono ?_; rintro e w' ⟨rfl, rfl⟩; rw [h])
    rw [rounds_succ]
    go_wp2_with fail
    go_ret
    exact ⟨ret_int h.symm, rfl⟩
  · have hd : (cmpI x y != 0) = true := by simpa using h
    go_wp2_with (go_at_call 48; refine (Compare_int _ _ _).mono ?_; rintro e w' ⟨rfl, rfl⟩)
    go_ret
    exact ⟨rfl, rfl⟩
def slV (p : Nat × Nat) : Value := .slice (some ⟨p.1, 0, none⟩) 1 p.2
set_option maxRecDepth 100000 in
theorem resC3 (W : World) (blk sb SA n : Nat) (ts : List Int) (sg : List (Nat × Nat)) (hl : sg.length = n) (hl2 : ts.length = n) (h1 : CN W blk sb [.slice (some ⟨SA, 0, none⟩) n n]) (h2 : CN W blk SA (sg.map slV)) (h3 : ∀ (j : Nat) (p : Nat × Nat) (t : Int), sg[j]? = some p → ts[j]? = some t → CN W blk p.1 [.int .i64 t])
    (a b : Nat) (ha : a < n) (hb : b < n) :
    Calls Tryz.prog 50 #[.int .i64 a, .int .i64 b, .pointer (some ⟨sb, 0, none⟩)] W fun e w' => e = .returned (.int .i64 (cmpI (ts.getD a 0) (ts.getD b 0))) ∧ ∃ q, w' = W.drewN q := by
  have c0 := h1.2.2 0 _ rfl
  obtain ⟨pa, hpa⟩ : ∃ p, sg[a]? = some p := ⟨_, List.getElem?_eq_getElem (by omega)⟩
  obtain ⟨pb, hpb⟩ : ∃ p, sg[b]? = some p := ⟨_, List.getElem?_eq_getElem (by omega)⟩
  obtain ⟨x, hx⟩ : ∃ x, ts[a]? = some x := ⟨_, List.getElem?_eq_getElem (by omega)⟩
  obtain ⟨y, hy⟩ : ∃ x, ts[b]? = some x := ⟨_, List.getElem?_eq_getElem (by omega)⟩
  have ca := h2.2.2 a (slV pa) (by rw [List.getElem?_map, hpa]; rfl)
  have cb := h2.2.2 b (slV pb) (by rw [List.getElem?_map, hpb]; rfl)
  unfold slV at ca cb
  have da := (h3 a pa x hpa hx).2.2 0 _ rfl
  have db := (h3 b pb y hpb hy).2.2 0 _ rfl
  rw [show ts.getD a 0 = x by rw [List.getD_eq_getElem?_getD, hx]; rfl, show ts.getD b 0 = y by rw [List.getD_eq_getElem?_getD, hy]; rfl]
  have ha1 : (0 : Int) ≤ (a : Int) := by omega
  have ha2 : (a : Int) < (n : Int) := by omega
  have hb1 : (0 : Int) ≤ (b : Int) := by omega
  have hb2 : (b : Int) < (n : Int) := by omega
  have DA := Lib.hid da
  have DB := Lib.hid db
  clear h1 h2 h3 ha hb hl hl2 da db hpa hpb hx hy
  go_enter Tryz.func50, Tryz.ntmps50
  go_wp2_with fail
  go_quiet ((go_at_call 51; exact Calls.quiet_of_same ((slCmp1 _ pa.1 pb.1 pa.2 pb.2 x y (by exact DA.out) (by exact DB.out)).mono fun _ _ ⟨a, b⟩ => ⟨a, b⟩)))
  go_wp2_with fail
  go_ret
  exact ⟨rfl, _, rfl⟩
theorem resC4 (a b : Int) (W : World) :
    Calls Tryz.prog 52 #[.int .i64 a, .int .i64 b] W fun e w' => e = .returned (.int .i64 (cmpI a b)) ∧ w' = W := by
  go_enter Tryz.func52, Tryz.ntmps52
  go_wp2_with (go_at_call 48; refine (Compare_int _ _ _).mono ?_; rintro e w' ⟨rfl, rfl⟩)
  go_ret
  exact ⟨rfl, rfl⟩
theorem cmpI_self (x : Int) : cmpI x x = 0 := by simp [cmpI]
theorem cmpI_zero {x y : Int} (h : cmpI x y = 0) : x = y := by
  unfold cmpI at h
  split at h
  · cases h
  · split at h
    · cases h
    · omega
/-- How Results orders two cars: by their totals, then by their numbers (what lies between does not tell cars of equal totals apart). -/
def cfT (ts : List Int) (a b : Nat) : Int := if cmpI (ts.getD a 0) (ts.getD b 0) ≠ 0 then cmpI (ts.getD a 0) (ts.getD b 0) else cmpI a b
/-- What the comparison has captured, as it lies. -/
structure RK (W : World) (blk ob fb tb TA wb WA sb SA n : Nat) (ts wn : List Int) (sg : List (Nat × Nat)) : Prop where
  fo : CN W blk ob [.slice (some ⟨fb, 0, none⟩) 4 4]
  ff : CN W blk fb [.func (.func 47) #[] #[.pointer (some ⟨tb, 0, none⟩)], .func (.func 49) #[] #[.pointer (some ⟨wb, 0, none⟩)], .func (.func 50) #[] #[.pointer (some ⟨sb, 0, none⟩)], .func (.func 52) #[] #[]]
  ft : CN W blk tb [.slice (some ⟨TA, 0, none⟩) n n]
  fT : CN W blk TA (ts.map fun x => .int .i64 x)
  fw : CN W blk wb [.slice (some ⟨WA, 0, none⟩) n n]
  fW : CN W blk WA (wn.map fun x => .int .i64 x)
  fs : CN W blk sb [.slice (some ⟨SA, 0, none⟩) n n]
  fS : CN W blk SA (sg.map slV)
  fg : ∀ (j : Nat) (p : Nat × Nat) (t : Int), sg[j]? = some p → ts[j]? = some t → CN W blk p.1 [.int .i64 t]
  lt : ts.length = n
  lw : wn.length = n
  ls : sg.length = n
  eq : ∀ a b, a < n → b < n → ts.getD a 0 = ts.getD b 0 → wn.getD a 0 = wn.getD b 0
theorem RK.keep {W W' : World} {blk ob fb tb TA wb WA sb SA n : Nat} {ts wn : List Int} {sg : List (Nat × Nat)} (h : RK W blk ob fb tb TA wb WA sb SA n ts wn sg) (hs : W.heap.size ≤ W'.heap.size) (hk : ∀ q, q < W.heap.size → q ≠ blk → W'.heap[q]? = W.heap[q]?) :
    RK W' blk ob fb tb TA wb WA sb SA n ts wn sg :=
  ⟨h.fo.keep hs hk, h.ff.keep hs hk, h.ft.keep hs hk, h.fT.keep hs hk, h.fw.keep hs hk, h.fW.keep hs hk, h.fs.keep hs hk, h.fS.keep hs hk, fun j p t h1 h2 => (h.fg j p t h1 h2).keep hs hk, h.lt, h.lw, h.ls, h.eq⟩
theorem drewN_drewN (W : World) (a b : Nat) : (W.drewN a).drewN b = W.drewN (a + b) := by simp [World.drewN, Nat.add_assoc]
set_option maxRecDepth 100000 in
set_option maxHeartbeats 8000000 in
theorem ord_any (W : World) (blk ob fb tb TA wb WA sb SA n : Nat) (ts wn : List Int) (sg : List (Nat × Nat)) (h : RK W blk ob fb tb TA wb WA sb SA n ts wn sg) (a b : Nat) (ha : a < n) (hb : b < n) :
    Calls Tryz.prog 103 #[.int .i64 a, .int .i64 b, .pointer (some ⟨ob, 0, none⟩)] W fun e w' => e = .returned (.int .i64 (cfT ts a b)) ∧ ∃ q, w' = W.drewN q := by
  have hK : ∀ q, RK (W.drewN q) blk ob fb tb TA wb WA sb SA n ts wn sg := fun q => h.keep (Nat.le_refl _) (fun _ _ _ => rfl)
  have o0 := h.fo.2.2 0 _ rfl
  have f0 := h.ff.2.2 0 _ rfl
  have f1 := h.ff.2.2 1 _ rfl
  have f2 := h.ff.2.2 2 _ rfl
  have f3 := h.ff.2.2 3 _ rfl
  obtain ⟨C1, hC1⟩ : ∃ c, c = cmpI (ts.getD a 0) (ts.getD b 0) := ⟨_, rfl⟩
  obtain ⟨C2, hC2⟩ : ∃ c, c = cmpI (wn.getD b 0) (wn.getD a 0) := ⟨_, rfl⟩
  obtain ⟨C4, hC4⟩ : ∃ c, c = cmpI (a : Int) (b : Int) := ⟨_, rfl⟩
  have hz : C1 = 0 → C2 = 0 := fun q => by rw [hC2, h.eq a b ha hb (cmpI_zero (hC1 ▸ q))]; exact cmpI_self _
  have H1 := Lib.hid (resC1 W blk tb TA n ts h.lt h.ft h.fT a b ha hb)
  have H2 := Lib.hid (fun q => resC2 (W.drewN q) blk wb WA n wn h.lw (hK q).fw (hK q).fW a b ha hb)
  have H3 := Lib.hid (fun q => resC3 (W.drewN q) blk sb SA n ts sg h.ls h.lt (hK q).fs (hK q).fS (hK q).fg a b ha hb)
  have H4 := Lib.hid (fun W' => resC4 a b W')
  rw [← hC1] at H1 H3
  rw [← hC2] at H2
  rw [← hC4] at H4
  obtain ⟨R, hR⟩ : ∃ R, R = cfT ts a b := ⟨_, rfl⟩
  have HR : Hid (R = if C1 ≠ 0 then C1 else C4) := by show _ = _; rw [hR, hC1, hC4]; rfl
  rw [← hR]
  have HZ := Lib.hid hz
  clear h hK hR hC1 hC2 hC4 hz
  go_enter Tryz.func103, Tryz.ntmps103
  go_wp2_with fail
  refine wp_loop_rounds 5 ?_
  rw [rounds_succ]
  go_wp2_with fail
  refine H1.out.mono ?_
  rintro e w1 ⟨rfl, q1, rfl⟩
  by_cases c1 : C1 = 0
  case neg =>
    have hd : (C1 != 0) = true := by simpa using c1
    have hr : Hid (R = C1) := by show _ = _; rw [HR.out, if_pos c1]
    clear c1
    go_wp2_with fail
    go_ret
    exact ⟨ret_int hr.out.symm, q1, rfl⟩
  have hr : Hid (R = C4) := by show _ = _; rw [HR.out, if_neg (by simpa using c1)]
  have c2 := HZ.out c1
  have hd : ((0 : Int) != 0) = false := by decide
  rw [c1] at H3 ⊢
  rw [c2] at H2
  clear HR c1 c2 HZ
  go_wp2_with fail
  rw [rounds_succ]
  go_wp2_with fail
  refine (H2.out q1).mono ?_
  rintro e w2 ⟨rfl, q2, rfl⟩
  rw [drewN_drewN]
  go_wp2_with fail
  rw [rounds_succ]
  go_wp2_with fail
  refine (H3.out (q1 + q2)).mono ?_
  rintro e w3 ⟨rfl, q3, rfl⟩
  rw [drewN_drewN]
  go_wp2_with fail
  rw [rounds_succ]
  go_wp2_with fail
  refine (H4.out _).mono ?_
  rintro e w4 ⟨rfl, rfl⟩
  by_cases c4 : C4 = 0
  · rw [c4]
    have hr4 : Hid (R = 0) := by show _ = _; rw [hr.out, c4]
    clear c4
    go_wp2_with fail
    rw [rounds_succ]
    go_wp2_with fail
    go_ret
    exact ⟨ret_int hr4.out.symm, _, rfl⟩
  · have hd4 : (C4 != 0) = true := by simpa using c4
    clear c4
    go_wp2_with fail
    go_ret
    exact ⟨ret_int hr.out.symm, _, rfl⟩
end Go.Proofs.YtafclpmnpamipaaGreat
