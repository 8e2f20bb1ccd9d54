/- The turning up to a place: the plain function, and the road package's loop over its iterator. -/
import Derived.Test.YtomloklckpcaiaaZIter
import Derived.Test.YtomloklckpcaiaaZFind
import Derived.Test.YtomloklckpcaiaaZReg
import Derived.BigQuiet
import Derived.Test.YtomloklckpcaiaaZValid
namespace Go.Proofs.Ytomloklckpcaiaa
open Go.RowKit Go.Shelf Go.Sort Go.Proofs

attribute [local go_sem] Oper.semAt_some

/-- The turning up to the place x. -/
def upt : List Piece → Int → Int
  | [], _ => 0
  | p :: ps, x => if x ≤ 0 then 0 else trn p (min x p.len) + upt ps (x - p.len)
theorem upt_neg (ps : List Piece) (x : Int) (h : x ≤ 0) : upt ps x = 0 := by
  cases ps with
  | nil => rfl
  | cons p ps => simp [upt, h]
theorem upt_append : ∀ (l m : List Piece) (x : Int), (∀ p ∈ l, pOk p = true) → upt (l ++ m) x = upt l x + upt m (x - sumL l)
  | [], m, x, _ => by simp [upt, sumL]
  | p :: l, m, x, h => by
    have hp := (pOk_len (h p (List.mem_cons_self ..))).1
    have ih := upt_append l m (x - p.len) (fun q hq => h q (List.mem_cons_of_mem _ hq))
    have e : sumL (p :: l) = p.len + sumL l := by simp [sumL]
    have hs := (sumL_bd l (fun q hq => h q (List.mem_cons_of_mem _ hq))).1
    rw [List.cons_append, upt, upt, ih, e]
    split
    · rw [upt_neg m _ (by omega)]; rfl
    · rw [show x - p.len - sumL l = x - (p.len + sumL l) by omega]; omega
/-- What the loop has gathered when pre has come. -/
def utS (x : Int) (pre : List (Int × Piece)) : Int := (pre.map fun e => trn e.2 (min e.2.len (x - e.1))).sum
theorem utS_snoc (x : Int) (pre : List (Int × Piece)) (e : Int × Piece) : utS x (pre ++ [e]) = utS x pre + trn e.2 (min e.2.len (x - e.1)) := by simp [utS]
theorem utS_its : ∀ (ps : List Piece) (b x : Int), (∀ e ∈ its b ps, e.1 < x) → utS x (its b ps) = upt ps (x - b)
  | [], b, x, _ => rfl
  | p :: ps, b, x, h => by
    have h0 := h (b, p) (by simp [its])
    have ih := utS_its ps (b + p.len) x (fun e he => h e (by simp [its, he]))
    simp only [its, utS, List.map_cons, List.sum_cons] at ih ⊢
    rw [ih, upt, if_neg (by simp at h0; omega), show x - (b + p.len) = x - b - p.len by omega, Int.min_comm]
theorem its_take_its : ∀ (ps : List Piece) (b : Int) (k : Nat), (its b ps).take k = its b (ps.take k)
  | [], _, _ => by simp [its]
  | _ :: _, _, 0 => by simp [its]
  | p :: ps, b, k + 1 => by simp [its, its_take_its ps (b + p.len) k]
theorem utS_bd (x : Int) : ∀ (pre : List BP), (∀ e ∈ pre, e.1.1 < x) → -(200000000 * (pre.length : Int)) ≤ utS x (pre.map (·.1)) ∧ utS x (pre.map (·.1)) ≤ 200000000 * (pre.length : Int)
  | [], _ => by simp [utS]
  | e :: pre, h => by
    have ih := utS_bd x pre (fun q hq => h q (List.mem_cons_of_mem _ hq))
    have hp := pOk_len e.2.1
    have h0 := h e (List.mem_cons_self ..)
    have ht := trn_bd e.1.2 (min e.1.2.len (x - e.1.1)) (by omega) (by omega) (pOk_tOk e.2.1)
    simp only [utS, List.map_cons, List.sum_cons, List.length_cons] at *
    omega
set_option maxRecDepth 100000 in
set_option maxHeartbeats 4000000 in
theorem upTo_in (x : Int) (g : Nat) (pa : Option Addr) (pn pc : Nat) (ca : Option Addr) (cn cc : Nat) (ja : Option Addr) (jn jc : Nat) (ba : Option Addr) (bq : Nat) (R : Road) (w : World)
    (h : MS w w.heap.size g pa pn pc ca cn cc ja jn jc ba bq R) (hk : ∀ p ∈ R.ps, pOk p = true) (hl : pn ≤ 100000) (hx : x ≤ 1000000000) (hx0 : -1000000000 ≤ x) :
    CallsIn Fence.wide 5 Try.prog 59 #[.pointer (some ⟨g, 0, none⟩), .int .i64 x] w fun e w' => e = .returned (.int .i64 (upt R.ps x)) ∧ Below w.heap.size w w' := by
  have hM := Lib.hid h
  have hk' := Lib.hid hk
  have hg := h.lt
  have hpn := Lib.hid h.r.p.1
  clear h hk
  refine callsIn_of_wp_marks Try.func59 rfl trivial ?_ rfl
  simp only [Try.ntmps59, List.size_toArray, List.length_cons, List.length_nil, Nat.reduceAdd, Nat.reduceSub, Array.replicate_succ, Array.replicate_zero, List.push_toArray, List.append_toArray, List.nil_append, List.cons_append]
  gi_wp2_with fail
  refine cin ((all_any g _).mono ?_)
  rintro e w' ⟨rfl, rfl⟩
  gi_wp2_with fail
  obtain ⟨W0, hW0⟩ : ∃ W0, W0 = ((w.alloc (.cells #[.int .i64 x] 3)).alloc (.cells #[.int .i64 0] 3)).alloc (.cells #[.pointer (some ⟨g, 0, none⟩)] 90) := ⟨_, rfl⟩
  have b1 : BK W0 w.heap.size 3 #[.int .i64 x] := by rw [hW0]; exact ((BK.new w _ _).alloc _).alloc _
  have b2 : BK W0 (w.heap.size + 1) 3 #[.int .i64 0] := by rw [hW0]; have := (BK.new (w.alloc (.cells #[.int .i64 x] 3)) 3 #[.int .i64 0]); rw [World.size_alloc] at this; exact this.alloc _
  have b3 : BK W0 (w.heap.size + 2) 90 #[.pointer (some ⟨g, 0, none⟩)] := by rw [hW0]; have := (BK.new ((w.alloc (.cells #[.int .i64 x] 3)).alloc (.cells #[.int .i64 0] 3)) 90 #[.pointer (some ⟨g, 0, none⟩)]); rw [World.size_alloc, World.size_alloc] at this; exact this
  have hsz : W0.heap.size = w.heap.size + 3 := by rw [hW0]; simp
  have hB0 : Below w.heap.size w W0 := by rw [hW0]; exact (((Below.refl _ w).alloc (Nat.le_refl _) _).alloc (by simp) _).alloc (by simp; omega) _
  rw [← hW0]
  have HS := Lib.hid hsz
  clear hW0 hsz
  refine wpIn_rangeFunc_ownH (α := BP) rfl (by omega) (gf := 91) (lb := #[.pointer (some ⟨w.heap.size + 2, 0, none⟩)]) rfl trivial (enters_of Try.func91 (by kernel_rfl) rfl)
    (all_stops 4 (by omega) (w.heap.size + 2) w.heap.size g pa pn pc ca cn cc ja jn jc ba bq R hl hk'.out W0 (b3.cell 0) (by have := HS.out; omega) hB0.size (hM.out.grow hB0 (Nat.le_refl _))) KB.t (KB.b hB0.size (by have := HS.out; omega)) (Below.refl _ _) (fun _ => rfl)
    (fun pre W => ((BK W w.heap.size 3 #[.int .i64 x] ∧ BK W (w.heap.size + 1) 3 #[.int .i64 (utS x (pre.map (·.1)))] ∧ Hid (∀ e ∈ pre, e.1.1 < x)) ∧ Since w W0.heap.size W))
    (fun c pre W => (c = .exit 0 ∧ ∃ ini last, Hid (pre = ini ++ [last] ∧ (∀ e ∈ ini, e.1.1 < x) ∧ x ≤ last.1.1) ∧ BK W (w.heap.size + 1) 3 #[.int .i64 (utS x (ini.map (·.1)))]) ∧ Since w W0.heap.size W)
    (OwnFrom.and (OwnFrom.and (bk_own _ _ _ _) (OwnFrom.and (bk_own _ _ _ _) (ownFrom_pure _ _))) (ownFrom_since hB0.size))
    (fun c => OwnFrom.and (fun s A B row hs hg hr => by
      obtain ⟨e, ini, last, h1, h2⟩ := hs
      exact ⟨e, ini, last, h1, bk_own W0.heap.size _ _ (fun _ : Unit => _) () A B row h2 hg hr⟩) (ownFrom_since hB0.size))
    ⟨⟨b1, b2, by simp [Hid]⟩, hB0, Nat.le_refl _⟩
    (fun e a' W => ∃ Bx, w.heap.size + 2 < Bx ∧ BK W Bx 52 (pC e.1.2).toArray ∧ a' = { tmps := #[.pointer (some ⟨g, 0, none⟩), .int .i64 x, undef, .pointer (some ⟨w.heap.size, 0, none⟩), .int .i64 0, .pointer (some ⟨w.heap.size + 1, 0, none⟩), .int .i64 e.1.1, .pointer (some ⟨Bx, 0, none⟩), .pointer (some ⟨g, 0, none⟩),
      .func (.func 91) #[] #[.pointer (some ⟨w.heap.size + 1 + 1, 0, none⟩)], .int .i64 e.1.1, .agg #[.int .i64 e.1.2.len, .int .i64 e.1.2.turn, .int .i64 e.1.2.rad, .int .i64 e.1.2.wid, .int .i64 e.1.2.sur],
      undef, undef, undef, undef, undef, undef, undef, undef, undef, undef, undef, undef, undef, undef], defers := [] })
    (fun e a' s A B row hs hg hr => by
      obtain ⟨Bx, h1, h2, h3⟩ := hs
      exact ⟨Bx, h1, bk_own W0.heap.size _ _ (fun _ : Unit => _) () A B row h2 hg hr, h3⟩) ?assign ?body ?done ?stop
  case assign =>
    intro l pre e W K hI hK
    simp only [bpV]
    gi_wp2
    obtain ⟨⟨i1, i2, i3⟩, hB⟩ := hI
    have hz := HS.out
    have hz2 := hB.2
    have hbA := (Below.refl W.heap.size W).alloc (Nat.le_refl _) (.cells #[.int .i64 e.1.2.len, .int .i64 e.1.2.turn, .int .i64 e.1.2.rad, .int .i64 e.1.2.wid, .int .i64 e.1.2.sur] 52)
    exact hK _ _ ((KeepsOthers.alloc _ _).from _) (KB.of_below hbA (by omega) (by omega)) ⟨⟨i1.alloc _, i2.alloc _, i3⟩, hB.onto hbA⟩ ⟨W.heap.size, by omega, BK.new W _ _, rfl⟩
  case body =>
    rintro l pre e a' W hlW ⟨r, hr⟩ ⟨⟨i1, i2, i3⟩, hB⟩ ⟨Bx, hBx, bX, rfl⟩ hlt
    have c1 := i1.cell 0
    have c2 := i2.cell 0
    have f2 := i2.frozen 0
    have x0 := bX.cell 0
    have x1 := bX.cell 1
    have x2 := bX.cell 2
    have x3 := bX.cell 3
    have x4 := bX.cell 4
    simp only [pC, List.getElem?_toArray, List.getElem?_cons_zero, List.getElem?_cons_succ] at c1 c2 x0 x1 x2 x3 x4
    have hpl := pOk_len e.2.1
    have hp1 := hpl.1
    have hp2 := hpl.2
    have hb1 := e.2.2.1
    have hb2 := e.2.2.2
    by_cases hge : x ≤ e.1.1
    · gi_wp2
      exact ⟨KeepsFrom.refl _ _, ⟨rfl, pre, e, ⟨rfl, i3.out, hge⟩, i2⟩, hB⟩
    · have hmo : Try.prog.follows .mixedOrders = true := by kernel_rfl
      obtain ⟨M, hM1⟩ : ∃ M, M = min e.1.2.len (x - e.1.1) := ⟨_, rfl⟩
      have hM2 : 1 ≤ M := by omega
      have hM3 : M ≤ 5000 := by omega
      obtain ⟨S, hS1⟩ : ∃ S, S = utS x (pre.map (·.1)) := ⟨_, rfl⟩
      obtain ⟨T, hT1⟩ : ∃ T, T = trn e.1.2 M := ⟨_, rfl⟩
      have hTb := trn_bd e.1.2 M (by omega) (by omega) (pOk_tOk e.2.1)
      have hSb := utS_bd x pre i3.out
      rw [← hS1] at c2 hSb
      rw [← hT1] at hTb
      have hw1 : IntKind.i64.wrap (x - e.1.1) = x - e.1.1 := IntWalk.i64_in _ (by omega)
      have hite : (if x - e.1.1 < e.1.2.len then x - e.1.1 else e.1.2.len) = M := by rw [hM1]; split <;> omega
      have hw2 : IntKind.i64.wrap (S + T) = S + T := IntWalk.i64_in _ (by omega)
      have hnew : Hid (utS x ((pre ++ [e]).map (·.1)) = S + T) := by rw [hS1, hT1, hM1, List.map_append]; exact utS_snoc x _ _
      have HT := Lib.hid (fun W' : World => hT1 ▸ turned_any e.1.2 M W' (by omega) (by omega) (pOk_tOk e.2.1))
      clear hM1 hS1 hT1 hTb hSb
      gi_wp2
      refine wpIn_region_qt 10 hmo (by kernel_rfl) ?_
      simp only [List.take_succ_cons, List.take_zero, List.drop_succ_cons, List.drop_zero]
      have k1 := fun d os => cell_regrown c1 d os
      have k2 := fun d os => cell_regrown c2 d os
      have k3 := fun d os => cell_regrown x0 d os
      have k4 := fun d os => cell_regrown x1 d os
      have k5 := fun d os => cell_regrown x2 d os
      have k6 := fun d os => cell_regrown x3 d os
      have k7 := fun d os => cell_regrown x4 d os
      repeat (quiet_step ((go_at_call 64; exact Calls.regrown_of (HT.out _))))
      refine wpQuiet_nil ?_
      intro w' hbw
      have d2 := (bc hbw i2.lt).trans c2
      have df := (bf hbw i2.lt).trans f2
      have hz := HS.out
      have hz2 := hB.2
      have i1' := (i1.below hbw i1.lt).far (p := ⟨w.heap.size + 1, 0, none⟩) (by simp) (.int .i64 (S + T))
      have i2' := (i2.below hbw i2.lt).set_ 0 (.int .i64 (S + T))
      gi_wp2
      refine ⟨(keeps_of_below hbw).trans ((KeepsOthers.setCell _ _ _).from _), (KB.of_below hbw (by omega) (by omega)).setCell (by simp) (by simp) _, ⟨i1', ?_, ?_⟩, (hB.onto hbw).setCell (by simp) _⟩
      · rw [hnew.out]; exact i2'
      · intro q hq
        rcases List.mem_append.1 hq with h1 | h1
        · exact i3.out q h1
        · simp at h1; subst h1; exact hge
  case done =>
    rintro D ys W hD hys ⟨⟨i1, i2, i3⟩, hB⟩ hK
    have hres : Hid (utS x (ys.map (·.1)) = upt R.ps x) := by
      have := utS_its R.ps 0 x (fun e he => by
        rw [← hys] at he
        obtain ⟨q, hq, rfl⟩ := List.mem_map.1 he
        exact i3.out q hq)
      rw [hys, this, Int.sub_zero]
      exact rfl
    clear hys
    have c2 := i2.cell 0
    simp only [List.getElem?_toArray, List.getElem?_cons_zero] at c2
    gi_wp2
    refine ⟨by simp, .inl ⟨_, _, rfl, run_takeDeferred hK, ?_⟩⟩
    exact ⟨_, results_tmp (t := 4) rfl _ _ _, ret_int hres.out, hB.1.trans (belowK_b (w := w) (Nat.le_refl _) W D _ _ (by have := HS.out; omega) hK rfl rfl)⟩
  case stop =>
    rintro D c pre W hD ⟨k, hk1, hk2⟩ ⟨⟨rfl, ini, last, h1, i2⟩, hB⟩ hK
    have hres : Hid (utS x (ini.map (·.1)) = upt R.ps x) := by
      obtain ⟨rfl, h2, h3⟩ := h1.out
      rw [List.map_append] at hk2
      obtain ⟨k', rfl⟩ : ∃ k', k = k' + 1 := by
        cases k with
        | zero => simp at hk2
        | succ k' => exact ⟨k', rfl⟩
      have hkl : k' < R.ps.length := by rw [← hpn.out]; omega
      rw [its_take R.ps k' hkl] at hk2
      obtain ⟨e1, e2⟩ := List.append_inj' hk2 rfl
      have e3 : last.1.1 = sumL (R.ps.take k') := by simp at e2; rw [e2]
      rw [e1, its_take_its, utS_its (R.ps.take k') 0 x (fun e he => by
        rw [← its_take_its, ← e1] at he
        obtain ⟨q, hq, rfl⟩ := List.mem_map.1 he
        exact h2 q hq), Int.sub_zero]
      have h4 := upt_append (R.ps.take k') (R.ps.drop k') x (fun p hp => hk'.out p (List.mem_of_mem_take hp))
      rw [List.take_append_drop, upt_neg (R.ps.drop k') _ (by omega), Int.add_zero] at h4
      exact h4.symm
    have c2 := i2.cell 0
    simp only [List.getElem?_toArray, List.getElem?_cons_zero] at c2
    gi_wp2
    refine ⟨by simp, .inl ⟨_, _, rfl, run_takeDeferred hK, ?_⟩⟩
    exact ⟨_, results_tmp (t := 4) rfl _ _ _, ret_int hres.out, hB.1.trans (belowK_b (w := w) (Nat.le_refl _) W D _ _ (by have := HS.out; omega) hK rfl rfl)⟩
theorem upTo_any (x : Int) (g : Nat) (pa : Option Addr) (pn pc : Nat) (ca : Option Addr) (cn cc : Nat) (ja : Option Addr) (jn jc : Nat) (ba : Option Addr) (bq : Nat) (R : Road) (w : World)
    (h : MS w w.heap.size g pa pn pc ca cn cc ja jn jc ba bq R) (hk : ∀ p ∈ R.ps, pOk p = true) (hl : pn ≤ 100000) (hx : x ≤ 1000000000) (hx0 : -1000000000 ≤ x) :
    Calls Try.prog 59 #[.pointer (some ⟨g, 0, none⟩), .int .i64 x] w fun e w' => e = .returned (.int .i64 (upt R.ps x)) ∧ Below w.heap.size w w' :=
  callsIn_wide.1 (upTo_in x g pa pn pc ca cn cc ja jn jc ba bq R w h hk hl hx hx0)
end Go.Proofs.Ytomloklckpcaiaa

/- The turning between two places: the reference's and the road package's. -/
namespace Go.Proofs.Ytomloklckpcaiaa
open Go.RowKit Go.Shelf Go.Sort Go.Proofs

theorem upt_bd : ∀ (ps : List Piece) (x : Int), (∀ p ∈ ps, pOk p = true) → -(200000000 * (ps.length : Int)) ≤ upt ps x ∧ upt ps x ≤ 200000000 * (ps.length : Int)
  | [], _, _ => by simp [upt]
  | p :: ps, x, h => by
    have ih := upt_bd ps (x - p.len) (fun q hq => h q (List.mem_cons_of_mem _ hq))
    have hp0 := h p (List.mem_cons_self ..)
    have hp := pOk_len hp0
    rw [upt, List.length_cons]
    split
    · omega
    · have ht := trn_bd p (min x p.len) (by omega) (by omega) (pOk_tOk hp0)
      omega
theorem Turning_in (x y : Int) (pa : Option Addr) (pn pc : Nat) (ca : Option Addr) (cn cc : Nat) (ja : Option Addr) (jn jc : Nat) (R : Road) (w : World)
    (h : RD w w.heap.size pa pn ca cn ja jn R) (hv : OK R) (h0 : 0 ≤ x) (h1 : x ≤ y) (h2 : y ≤ sumL R.ps) :
    Calls Try.prog 24 #[.agg #[.slice pa pn pc, .slice ca cn cc, .slice ja jn jc], .int .i64 x, .int .i64 y] w fun e w' =>
      e = .returned (.tuple #[.int .i64 (upt R.ps y - upt R.ps x), .int .i64 0]) ∧ Below w.heap.size w w' := by
  have hpn : pn ≤ 2000 := by rw [h.p.1]; exact hv.p2
  have hln := hv.len
  have hln1 := hln.1
  have hln2 := hln.2
  have hb1 := upt_bd R.ps x hv.pk
  have hb2 := upt_bd R.ps y hv.pk
  have hp2 := hv.p2
  have hbx1 : -400000000000 ≤ upt R.ps x := by omega
  have hbx2 : upt R.ps x ≤ 400000000000 := by omega
  have hby1 : -400000000000 ≤ upt R.ps y := by omega
  have hby2 : upt R.ps y ≤ 400000000000 := by omega
  have hc := Lib.hid (chk_ok hv)
  have hv' := Lib.hid hv
  have hR := Lib.hid h
  clear h hv hln hb1 hb2 hp2
  have hW0 : Below w.heap.size w (w.alloc (.cells #[.slice pa pn pc, .slice ca cn cc, .slice ja jn jc] 26)) := (Below.refl w.heap.size w).alloc (Nat.le_refl _) _
  go_enter Try.func24, Try.ntmps24
  go_wp2_with fail
  refine (Check_any _ _ _ _ _ _ _ _ _ R _ (hR.out.grow hW0 hW0.size)).mono ?_
  rintro e w1 ⟨rfl, hb1'⟩
  rw [hc.out]
  have hB1 := onto hW0 hb1' hW0.size
  have d0 := (bc hb1' (b := w.heap.size) (o := 0) (by simp)).trans (show _ = some (.slice pa pn pc) by simp)
  have d1 := (bc hb1' (b := w.heap.size) (o := 1) (by simp)).trans (show _ = some (.slice ca cn cc) by simp)
  have d2 := (bc hb1' (b := w.heap.size) (o := 2) (by simp)).trans (show _ = some (.slice ja jn jc) by simp)
  go_wp2_with fail
  refine (measure_any _ _ _ _ _ _ _ _ _ R _ (hR.out.grow hB1 hB1.size) hv'.out.pk (by omega)).mono ?_
  rintro e w2 ⟨g, ba, bq, rfl, hM, hg, hb2⟩
  have hM' := Lib.hid hM
  have hB2 := onto hB1 hb2 hB1.size
  clear hM
  go_wp2_with fail
  refine (mlength_any g _ _ _ _ _ _ _ _ _ _ _ R _ _ hM'.out (by omega)).mono ?_
  rintro e w3 ⟨rfl, n, rfl⟩
  go_wp2_with fail
  refine (upTo_any y g _ _ _ _ _ _ _ _ _ _ _ R _ (hM'.out.drewN n) hv'.out.pk (by omega) (by omega) (by omega)).mono ?_
  rintro e w3 ⟨rfl, hb3⟩
  have hB3 := onto (below_drewN hB2 n) hb3 hB2.size
  go_wp2_with fail
  refine (upTo_any x g _ _ _ _ _ _ _ _ _ _ _ R _ ((hM'.out.drewN n).grow hb3 hb3.size) hv'.out.pk (by omega) (by omega) (by omega)).mono ?_
  rintro e w4 ⟨rfl, hb4⟩
  have hB4 := onto hB3 hb4 hB3.size
  go_wp2_with fail
  go_ret2
  exact ⟨rfl, hB4⟩
end Go.Proofs.Ytomloklckpcaiaa
