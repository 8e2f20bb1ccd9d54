/- TopRaced, plain: runs that take a share of what the speeds allow, and their times in milliseconds; the places of the cars. No program in sight. -/
import Derived.Test.YtafclpmnpamipaaGreatQHeardP
import Derived.Test.YtafclpmnpamipaaGreatQScR
namespace Go.Proofs.YtafclpmnpamipaaGreat
open Go.RowKit Go.Shelf Go.Sort Go.Proofs

theorem mQ_pos {S : Spd} (h : SOK S) {p : Piece} (hp : pOk p = true) : 1 ≤ mQ S p := by
  obtain ⟨a1, a2, a3⟩ := rowS_bd h p
  obtain ⟨b1, b2⟩ := surS_bd h hp
  unfold mQ
  generalize (rowS S p).2 = m at *
  generalize surS S p = s at *
  have h1 : 1 ≤ m * s := by have := Int.mul_le_mul (show 1 ≤ m by omega) b1 (by omega) (by omega); omega
  have h2 : m * s ≤ 700 * 100 := Int.mul_le_mul (by omega) b2 (by omega) (by omega)
  have h3 : 1 ≤ (m * s + 99) / 100 := by omega
  have h4 : (m * s + 99) / 100 ≤ 700 := by omega
  generalize (m * s + 99) / 100 = d at h3 h4
  rw [Int.le_ediv_iff_mul_le (by omega)]
  omega
/-- The share of a car. -/
def shr (x : Int) : Int := min 100 (max 0 x)
theorem shr_bd (x : Int) : 0 ≤ shr x ∧ shr x ≤ 100 := by unfold shr; omega
theorem shareAt_rep {n : Nat} {x : Int} {k : Nat} (h : k < n) : shareAt (List.replicate n x) k = shr x := by
  unfold shareAt
  rw [List.getElem?_replicate, if_pos h]
  rfl
/-- The run of a car that takes a share x of each of n meters. -/
def rcV (S : Spd) (R : Road) (n : Nat) (x : Int) : Nat → Int := runV S R (List.replicate n x)
theorem rcV_zero (S : Spd) (R : Road) (n : Nat) (x : Int) : rcV S R n x 0 = 0 := rfl
theorem rcV_succ (S : Spd) (R : Road) {n : Nat} (x : Int) {k : Nat} (h : k < n) : rcV S R n x (k + 1) = rcV S R n x k + (tQ S R.ps (k + 1) - tQ S R.ps k) + ((tSl S R.ps (k + 1) - tSl S R.ps k) - (tQ S R.ps (k + 1) - tQ S R.ps k)) * shr x / 100 := by
  show runV _ _ _ (k + 1) = _
  rw [runV, shareAt_rep h]
  rfl
theorem rcV_runs {S : Spd} {R : Road} (hS : SOK S) (hv : OK R) {N : Nat} (hN : sumL R.ps = N) (x : Int) : Runs S R N (rcV S R N x) := runV_runs hS hv hN _
theorem rcV_mono {S : Spd} {R : Road} (hS : SOK S) (hv : OK R) {N : Nat} (hN : sumL R.ps = N) {x y : Int} (hxy : shr x ≤ shr y) : ∀ k : Nat, k ≤ N → rcV S R N x k ≤ rcV S R N y k
  | 0, _ => Int.le_refl _
  | k + 1, hk => by
    have h1 := rcV_mono hS hv hN hxy k (by omega)
    have h2 := (rcV_runs hS hv hN x).d k (by omega)
    rw [rcV_succ S R x (show k < N by omega), rcV_succ S R y (show k < N by omega)]
    generalize hd : (tSl S R.ps (k + 1) - tSl S R.ps k) - (tQ S R.ps (k + 1) - tQ S R.ps k) = d at *
    have h3 : d * shr x ≤ d * shr y := Int.mul_le_mul_of_nonneg_left hxy (by omega)
    have h4 : d * shr x / 100 ≤ d * shr y / 100 := Int.ediv_le_ediv (by omega) h3
    omega
theorem road_pos {R : Road} (hv : OK R) {N : Nat} (hN : sumL R.ps = N) : 1 ≤ N := by
  have h1 := (sumL_bd R.ps hv.pk).1
  have h2 := hv.p1
  omega
theorem rcV_pos {S : Spd} {R : Road} (hS : SOK S) (hv : OK R) {N : Nat} (hN : sumL R.ps = N) (x : Int) : 1 ≤ rcV S R N x N := by
  have hN1 := road_pos hv hN
  have h1 := ((rcV_runs hS hv hN x).at_ (Nat.zero_le N) (Nat.le_refl N)).1
  obtain ⟨p, hp, hx, -⟩ := meter_at hS hv (k := 0) (by omega)
  have h2 : tQ S R.ps 1 = tQ S R.ps 0 + mQ S (one p) := tQ_succ S R.ps hx
  have h3 := tQ_mono hS hv hN1
  have h4 := mQ_pos hS hp
  rw [mQ_one, tQ_zero] at h2
  rw [rcV_zero, tQ_zero] at h1
  omega
/-- The time of a car in milliseconds. -/
def rcT (S : Spd) (R : Road) (n : Nat) (x : Int) : Int := (rcV S R n x n + 999) / 1000
theorem rcT_bd {S : Spd} {R : Road} (hS : SOK S) (hv : OK R) {N : Nat} (hN : sumL R.ps = N) (x : Int) : 1 ≤ rcT S R N x ∧ tQ S R.ps N ≤ 1000 * rcT S R N x ∧ 1000 * (rcT S R N x - 1) ≤ tSl S R.ps N ∧ (rcT S R N x ≤ tSl S R.ps N / 1000 + 1) := by
  have h1 := (rcV_runs hS hv hN x).at_ (Nat.zero_le N) (Nat.le_refl N)
  have h2 := rcV_pos hS hv hN x
  rw [rcV_zero, tQ_zero, tSl_zero] at h1
  unfold rcT
  omega
theorem rcT_mono {S : Spd} {R : Road} (hS : SOK S) (hv : OK R) {N : Nat} (hN : sumL R.ps = N) {x y : Int} (hxy : shr x ≤ shr y) : rcT S R N x ≤ rcT S R N y := by
  have := rcV_mono hS hv hN hxy N (Nat.le_refl N)
  unfold rcT
  omega
/-- The run fits the passing at the road's end. -/
theorem rc_fit {S : Spd} {R : Road} (hS : SOK S) (hv : OK R) {N : Nat} (hN : sumL R.ps = N) (x : Int) (hm : tSl S R.ps N ≤ maxM) : fitAll S R [⟨N, tQ S R.ps N, tSl S R.ps N⟩] (runL N (rcV S R N x)) = (true, 0) := by
  have hr := rcV_runs hS hv hN x
  have h1 := hr.at_ (Nat.zero_le N) (Nat.le_refl N)
  rw [rcV_zero, tQ_zero, tSl_zero] at h1
  have h0 := tQ_bd hS hv N
  have hp : POK (sumL R.ps) [⟨N, tQ S R.ps N, tSl S R.ps N⟩] := by
    refine ⟨by simp, fun i hi c hc => ?_⟩
    obtain rfl : i = 0 := by simpa using hi
    cases hc
    exact ⟨by rw [hN]; simp [inR], h0.1, by show tQ S R.ps N ≤ tSl S R.ps N; omega, hm, fun d hd => absurd hd (by omega)⟩
  rw [fitAll_ok (by unfold fitOkB; rw [(val_iff R).2 hv, (spB_iff S).2 hS, pB_ok hp, runL_len, hN, Int.toNat_natCast, decide_eq_true rfl]; rfl)]
  have h2 : fitM S R [⟨N, tQ S R.ps N, tSl S R.ps N⟩] (runL N (rcV S R N x)) = true := by
    rw [fitM_yes (fun i hi => ?_)]
    · have e : runOf (runL N (rcV S R N x)) (N : Int) = rcV S R N x N := by
        unfold runOf
        rw [Int.toNat_natCast, List.getD, runL_at (Nat.le_refl N)]
        rfl
      simp only [List.all_cons, List.all_nil, inP, e, Bool.and_true]
      simp [inR]
      omega
    · rw [runL_len] at hi
      cases i with
      | zero => rw [okI_0 (runL_at (Nat.zero_le N)), hr.z]; rfl
      | succ i =>
        rw [okI_s (runL_at (by omega)) (runL_at (by omega))]
        have := hr.d i (by omega)
        simp only [Bool.and_eq_true, decide_eq_true_eq]
        exact this
  rw [h2]
end Go.Proofs.YtafclpmnpamipaaGreat

/- TopRaced: the cards that are being laid, one for each car; what the results say of them. -/
namespace Go.Proofs.YtafclpmnpamipaaGreat
open Go.RowKit Go.Shelf Go.Sort Go.Proofs

/-- Cards in a slice that the call has built, each with its starts and its line elsewhere. -/
structure CKS (base : Nat) (W : World) (A : Option Addr) (k c : Nat) (xs : List CdV) : Prop where
  o : OW cdC 3 58 base W A k c xs
  d : ∀ x ∈ xs, CD W W.heap.size x
  n : ∀ x ∈ xs, ∀ g, A = some g → g.block ≠ x.sb ∧ g.block ≠ x.lb
section
variable {base : Nat} {W W' : World} {A : Option Addr} {k c : Nat} {xs : List CdV}
theorem CKS.nil_ : CKS base W none 0 0 [] := ⟨OW.nil_, fun x hx => absurd hx (by simp), fun x hx => absurd hx (by simp)⟩
theorem CKS.call (h : CKS base W A k c xs) (hb : Below W.heap.size W W') : CKS base W' A k c xs := ⟨h.o.call hb, fun x hx => (h.d x hx).grow hb hb.size, h.n⟩
theorem CX.far {w w' : World} {b : Nat} {cs : List Value} (h : CX w w.heap.size b cs) (hs : w.heap.size ≤ w'.heap.size) (e : w'.heap[b]? = w.heap[b]?) : CX w' w'.heap.size b cs :=
  ⟨Nat.lt_of_lt_of_le h.1 hs, fun j v hv => (World.cell?_of_block e).trans (h.2 j v hv)⟩
theorem CD.far {w w' : World} {x : CdV} (h : CD w w.heap.size x) (hs : w.heap.size ≤ w'.heap.size) (e1 : w'.heap[x.sb]? = w.heap[x.sb]?) (e2 : w'.heap[x.lb]? = w.heap[x.lb]?) : CD w' w'.heap.size x :=
  ⟨h.s.far hs e1, h.l.far hs e2, h.st, h.mi, h.t⟩
/-- One more card. -/
theorem CKS.app (h : CKS base W A k c xs) {y : CdV} {A' : Option Addr} {c' m : Nat} {e : TypeId} (he : e = 58) (ha : AppS cdC 3 e base W A k c m xs [y] A' c' W') (hm : m = 1) (hy : CD W W.heap.size y) (hn : ∀ g, A = some g → g.block ≠ y.sb ∧ g.block ≠ y.lb) : CKS base W' A' (k + 1) c' (xs ++ [y]) := by
  subst he
  subst hm
  have key : ∀ x ∈ xs ++ [y], CD W W.heap.size x ∧ ∀ g, A = some g → g.block ≠ x.sb ∧ g.block ≠ x.lb := fun x hx => by
    rcases List.mem_append.1 hx with hx | hx
    · exact ⟨h.d x hx, h.n x hx⟩
    · obtain rfl : x = y := by simpa using hx
      exact ⟨hy, hn⟩
  refine ⟨ha.own, fun x hx => ?_, fun x hx g hg => ?_⟩
  · obtain ⟨k1, k2⟩ := key x hx
    exact k1.far ha.size (ha.far _ k1.s.1 fun b hb => (k2 b hb).1) (ha.far _ k1.l.1 fun b hb => (k2 b hb).2)
  · obtain ⟨k1, k2⟩ := key x hx
    rcases ha.at_ g hg with ⟨b', hb', e⟩ | e
    · rw [← e]; exact k2 b' hb'
    · rw [e]
      have := k1.s.1
      have := k1.l.1
      exact ⟨by omega, by omega⟩
theorem CKS.cds (h : CKS base W A k c xs) : CDS W W.heap.size A k xs := ⟨h.o.sl cdC_len, h.d⟩
end
theorem infoCD : (Tryz.prog.info? 58).map (fun i => (i.zero, i.size, i.bytes)) = some (some (.agg #[.int .i64 0, .slice none 0 0, .slice none 0 0]), 3, 56) := by kernel_rfl
theorem cdC_one (x : CdV) : ∀ u ∈ cdC x, u.oneCell' = true := by simp [cdC, Value.oneCell']
/-- Four blocks, one behind the other. -/
theorem four_new (w : World) (t1 t2 t3 t4 : TypeId) (c1 c2 c3 c4 : Array Value) (W : World) (h : W = (((w.alloc (.cells c1 t1)).alloc (.cells c2 t2)).alloc (.cells c3 t3)).alloc (.cells c4 t4)) :
    BK W w.heap.size t1 c1 ∧ BK W (w.heap.size + 1) t2 c2 ∧ BK W (w.heap.size + 1 + 1) t3 c3 ∧ BK W (w.heap.size + 1 + 1 + 1) t4 c4 ∧ Below w.heap.size w W := by
  subst h
  refine ⟨(((BK.new w t1 c1).alloc _).alloc _).alloc _, ?_, ?_, ?_, ((((Below.refl _ w).alloc (Nat.le_refl _) _).alloc (by simp) _).alloc (by simp; omega) _).alloc (by simp; omega) _⟩
  · have := BK.new (w.alloc (.cells c1 t1)) t2 c2
    rw [World.size_alloc] at this
    exact (this.alloc _).alloc _
  · have := BK.new ((w.alloc (.cells c1 t1)).alloc (.cells c2 t2)) t3 c3
    rw [World.size_alloc, World.size_alloc] at this
    exact this.alloc _
  · have := BK.new (((w.alloc (.cells c1 t1)).alloc (.cells c2 t2)).alloc (.cells c3 t3)) t4 c4
    rw [World.size_alloc, World.size_alloc, World.size_alloc] at this
    exact this
theorem three_new (w : World) (t1 t2 t3 : TypeId) (c1 c2 c3 : Array Value) (W : World) (h : W = ((w.alloc (.cells c1 t1)).alloc (.cells c2 t2)).alloc (.cells c3 t3)) :
    BK W w.heap.size t1 c1 ∧ BK W (w.heap.size + 1) t2 c2 ∧ BK W (w.heap.size + 1 + 1) t3 c3 ∧ Below w.heap.size w W := by
  subst h
  refine ⟨((BK.new w t1 c1).alloc _).alloc _, ?_, ?_, (((Below.refl _ w).alloc (Nat.le_refl _) _).alloc (by simp) _).alloc (by simp; omega) _⟩
  · have := BK.new (w.alloc (.cells c1 t1)) t2 c2
    rw [World.size_alloc] at this
    exact this.alloc _
  · have := BK.new ((w.alloc (.cells c1 t1)).alloc (.cells c2 t2)) t3 c3
    rw [World.size_alloc, World.size_alloc] at this
    exact this
/-- The plan of TopRaced. -/
def rcP (b : Nat) : PlF := ⟨b, 1, b + 1, 1, some ⟨b + 1 + 1, 0, none⟩, 6, 0, 0, 0, [6, 5, 4, 3, 2, 1]⟩
theorem rcP_pd {W : World} {b : Nat} {t1 t2 t3 : TypeId} (h1 : BK W b t1 #[.int .i64 2, .int .i64 0, .int .i64 0, .bool false]) (h2 : BK W (b + 1) t2 #[.int .i64 0]) (h3 : BK W (b + 1 + 1) t3 #[.int .i64 6, .int .i64 5, .int .i64 4, .int .i64 3, .int .i64 2, .int .i64 1]) : PD W W.heap.size (rcP b) where
  i := h1.cx
  j := h2.cx
  p := CX.ints (xs := [6, 5, 4, 3, 2, 1]) h3.cx
  ml := ⟨Int.le_refl 0, by show (0 : Int) ≤ 1440; decide⟩
  ll := ⟨Int.le_refl 0, by show (0 : Int) ≤ 1440; decide⟩
  pow := .inr rfl
  pl := by show 6 ≤ 60; decide
  pb := by show ∀ x ∈ ([6, 5, 4, 3, 2, 1] : List Int), 0 ≤ x ∧ x ≤ 1000; decide
theorem plcL_at (L : PlF) (ts : List Int) {n k : Nat} (h : k < (plcL L ts n).length) : (plcL L ts n)[k]'h = plcK L ts n k := by simp [plcL]
theorem plcL_len (L : PlF) (ts : List Int) (n : Nat) : (plcL L ts n).length = n := by simp [plcL]
theorem rcPts {k : Nat} (h : k < 6) : ([6, 5, 4, 3, 2, 1] : List Int).getD k 0 = 6 - (k : Int) := by
  rcases k with _ | _ | _ | _ | _ | _ | k <;> first | rfl | omega
/-- The car at place k. -/
def rcC (n : Nat) (ts : List Int) (k : Nat) : Nat := (ordL n ts).getD k 0
theorem rcC_lt {n k : Nat} (ts : List Int) (hk : k < n) : rcC n ts k < n := by
  have hl := ordL_len (show 0 < n by omega) ts
  unfold rcC
  rw [List.getD_eq_getElem?_getD, List.getElem?_eq_getElem (by omega)]
  exact ordL_lt (by omega) ts _ (List.getElem_mem _)
/-- The car at place k, its time, its points. -/
theorem rc_place (b : Nat) {ts : List Int} {n k : Nat} (hn : n ≤ 6) (hk : k < n) : plcK (rcP b) ts n k = ⟨(rcC n ts k : Nat), ts.getD (rcC n ts k) 0, (k : Int) + 1, 6 - (k : Int)⟩ := by
  unfold plcK rcC
  rw [show (rcP b).ps.getD k 0 = 6 - (k : Int) from rcPts (by omega)]
/-- A car that takes a greater share is not before another one, but for equal times. -/
theorem rc_order {S : Spd} {R : Road} (hS : SOK S) (hv : OK R) {N : Nat} (hN : sumL R.ps = N) {us ts : List Int} (hts : ts = us.map (rcT S R N)) {n k : Nat} (hn : n = us.length) (hk : k + 1 < n)
    (hlt : shr (us.getD (rcC n ts (k + 1)) 0) < shr (us.getD (rcC n ts k) 0)) : ts.getD (rcC n ts k) 0 = ts.getD (rcC n ts (k + 1)) 0 := by
  subst hn
  have h0 := rcC_lt ts (show k < us.length by omega)
  have h1 := rcC_lt ts hk
  have h2 := ordL_sorted (n := us.length) (by omega) ts (Nat.lt_succ_self k) hk
  have h3 := rcT_mono hS hv hN (x := us.getD (rcC us.length ts (k + 1)) 0) (y := us.getD (rcC us.length ts k) 0) (by omega)
  have e : ∀ c, c < us.length → ts.getD c 0 = rcT S R N (us.getD c 0) := fun c hc => by
    rw [hts, List.getD_eq_getElem?_getD, List.getElem?_map, List.getElem?_eq_getElem hc, List.getD_eq_getElem?_getD, List.getElem?_eq_getElem hc]
    rfl
  rw [e _ h0, e _ h1]
  have h4 : ts.getD (rcC us.length ts k) 0 ≤ ts.getD (rcC us.length ts (k + 1)) 0 := h2
  rw [e _ h0, e _ h1] at h4
  omega
end Go.Proofs.YtafclpmnpamipaaGreat
