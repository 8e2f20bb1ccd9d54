/- Speeds that came in as an argument: two numbers and two slices, opened to lists. -/
import Derived.Test.YtogkmnopggmdjaaGreatDoorPSpd
import Derived.ChangeSlices
import Derived.Test.YtogkmnopggmdjaaGreatDoorPRoom
import Derived.Test.YtogkmnopggmdjaaGreatDoorPSpCk
import Derived.Test.YtogkmnopggmdjaaGreatDoorPBegB
import Derived.Test.YtogkmnopggmdjaaGreatDoorPPlan
import Derived.Test.YtogkmnopggmdjaaGreatDoorPOrdM
namespace Go.Proofs.YtogkmnopggmdjaaGreatDoor
open Go.ChangeShapes Go.WideShapes Go.ChangeAt Go.RowKit Go.Deep Go.Joins

section
variable {H : Type} {enc : TypeId × Value → H} {w : World} {base : Nat} {spare : Nat → Bool} {held : Bool} {r : Reach} {b0 : Nat}
set_option maxRecDepth 100000 in
/-- A slice of ints that stands in one cell. -/
theorem open_is1 {c : Value} {fuel : Nat} {x : DataW H × List MemPlace} (hf : DataW.trod enc Tryz.prog w base spare held fuel 27 [c] = some x) :
    ∃ A n cp xs, c = .slice A n cp ∧ SL iC 1 w w.heap.size A n xs := by
  rcases open_ints Tryz.underlying27 Tryz.underlying3 (by kernel_rfl) hf with ⟨h0, _⟩ | ⟨a, len, cap, zs, h0, _, hlc, _, hz, _, hcell, _⟩
  · simp at h0
    exact ⟨none, 0, 0, [], h0, rfl, fun q => absurd q (by omega)⟩
  · simp at h0
    have hlz : len ≤ zs.length := by rw [hz]; split <;> omega
    refine ⟨some a, len, cap, zs.take len, h0, by rw [List.length_take]; omega, fun hn => ?_⟩
    have hc0 := hcell 0 (by omega)
    have hbl := block_lt_of_cell hc0
    have hsp := World.cell?_spot hc0
    obtain ⟨b, off, sp⟩ := a
    have hsp' : sp = none := by simpa [Addr.add] using hsp
    subst hsp'
    refine ⟨b, off, rfl, by simpa [Addr.add] using hbl, fun k x hx j v hv => ?_⟩
    have hk : k < len := by have := (List.getElem?_eq_some_iff.1 hx).1; rw [List.length_take] at this; omega
    rw [List.getElem?_take, if_pos hk] at hx
    have h1 := hcell k (by omega)
    have e0 : ((⟨b, off, none⟩ : Addr).add k) = ⟨b, off + k, none⟩ := by unfold Addr.add; split <;> simp_all
    rw [e0, List.getD, hx] at h1
    match j, hv with
    | 0, hv => cases hv; simpa using h1
    | j + 1, hv => cases hv
set_option maxRecDepth 100000 in
/-- Speeds by value. -/
theorem open_speeds {v : Value} {d : DataW H} {p : List MemPlace} (hv : Value.okWide Tryz.prog w r b0 60 v) (h : DataW.Trod enc Tryz.prog w base spare held 60 v d p) :
    ∃ ra rn rc sa sn sc S, v = .agg #[.int .i64 S.least, .int .i64 S.most, .slice ra rn rc, .slice sa sn sc] ∧ SD w w.heap.size ra rn sa sn S := by
  obtain ⟨v0, v1, v2, v3, y0, y1, y2, y3, n, rfl, _, _, h0, h1, h2, h3⟩ := open_agg4 Tryz.underlying60 (by kernel_rfl) (by kernel_rfl) hv h
  obtain ⟨x0, e0, _, _⟩ := DataW.trod_int Tryz.underlying3 h0
  obtain ⟨x1, e1, _, _⟩ := DataW.trod_int Tryz.underlying3 h1
  simp at e0 e1
  subst e0 e1
  obtain ⟨ra, rn, rc, F, rfl, q0⟩ := open_rows Tryz.underlying58 Tryz.underlying137 (by kernel_rfl) (by kernel_rfl) (fun j f hj => by
    match j, hj with
    | 0, hj | 1, hj | 2, hj => cases hj; exact Tryz.underlying3
    | j + 3, hj => cases hj) (by decide) h2
  obtain ⟨sa, sn, sc, xs, rfl, q1⟩ := open_is1 h3
  refine ⟨ra, rn, rc, sa, sn, sc, ⟨x0, x1, _, xs⟩, rfl, sl_of_rows F (fun G => (⟨G 0, G 1, G 2⟩ : SpRow)) (fun G j v hv => ?_) q0, q1⟩
  match j, hv with
  | 0, hv | 1, hv | 2, hv => cases hv; exact ⟨by decide, rfl⟩
  | j + 3, hv => cases hv
end
end Go.Proofs.YtogkmnopggmdjaaGreatDoor

/- The track's test of triggers: whether a list is in order, on the road, and as long as the calls. -/
namespace Go.Proofs.YtogkmnopggmdjaaGreatDoor
open Go.RowKit Go.Shelf Go.Sort Go.Proofs

def gAt (n : Int) (ls : List Int) (i : Nat) : Prop := ∀ x, ls[i]? = some x → inR x 0 n = true ∧ ∀ y, 0 < i → ls[i-1]? = some y → y ≤ x
/-- Triggers that are as defined for m calls. -/
structure TOK (n : Int) (m : Nat) (ls : List Int) : Prop where
  l : ls.length = m
  t : ∀ i, i < ls.length → gAt n ls i
def gAtB (n : Int) (ls : List Int) (i : Nat) : Bool := (ls[i]?).all fun x => inR x 0 n && (i == 0 || (ls[i-1]?).all fun y => decide (y ≤ x))
theorem gAtB_iff (n : Int) (ls : List Int) (i : Nat) : gAtB n ls i = true ↔ gAt n ls i := by
  unfold gAtB gAt
  simp only [Option.all_eq_true, Bool.and_eq_true, Bool.or_eq_true, decide_eq_true_eq, beq_iff_eq]
  constructor
  · intro h c hc
    obtain ⟨a1, d⟩ := h c hc
    exact ⟨a1, fun e hi he => (d.resolve_left (by omega)) e he⟩
  · intro h c hc
    obtain ⟨a1, d⟩ := h c hc
    exact ⟨a1, (Nat.eq_zero_or_pos i).imp id fun hi e he => d e hi he⟩
def trB (n : Int) (m : Nat) (ls : List Int) : Bool := (List.range ls.length).all (gAtB n ls) && decide (ls.length = m)
theorem trB_iff (n : Int) (m : Nat) (ls : List Int) : trB n m ls = true ↔ TOK n m ls := by
  unfold trB
  simp only [Bool.and_eq_true, decide_eq_true_eq, List.all_eq_true, List.mem_range, gAtB_iff]
  exact ⟨fun ⟨a, b⟩ => ⟨b, a⟩, fun ⟨a, b⟩ => ⟨b, a⟩⟩
theorem trB_ok {n : Int} {m : Nat} {ls : List Int} (h : TOK n m ls) : trB n m ls = true := (trB_iff n m ls).2 h
theorem trB_bad {n : Int} {m : Nat} {ls : List Int} (h : ¬ TOK n m ls) : trB n m ls = false := by rw [Bool.eq_false_iff]; exact fun q => h ((trB_iff n m ls).1 q)
end Go.Proofs.YtogkmnopggmdjaaGreatDoor

/- Plans: their triggers are in order; a plan that is in time stays in time where no stretch takes less time. No program in sight. -/
namespace Go.Proofs.YtogkmnopggmdjaaGreatDoor
open Go.RowKit Go.Shelf Go.Sort Go.Proofs

theorem lastN_ge {f : Nat → Bool} {n k : Nat} (hk : k ≤ n) (h : f k = true) : k ≤ lastN f n := by
  rcases Nat.lt_or_ge (lastN f n) k with h1 | h1
  · have := lastN_above f n k h1 hk; rw [h] at this; cases this
  · exact h1
/-- Less reading before: later. -/
theorem rvs_shift (Q : Int → Int) : ∀ (s t : Int) (cs : List CallR), rvs Q s cs = (rvs Q t cs).map fun x => x + (t - s)
  | _, _, [] => rfl
  | s, t, c :: cs => by
    rw [rvs, rvs, List.map_cons, rvs_shift Q (s + c.lasts) (t + c.lasts) cs]
    congr 1
    · omega
    · congr 1; funext x; omega
theorem room_le {Q : Int → Int} {cs : List CallR} {x : Int} : x ≤ roomM Q cs ↔ x ≤ maxM ∧ ∀ r ∈ rvs Q 0 cs, x ≤ r := le_minL _ x
/-- Of the later calls more room is left. -/
theorem room_mono {Q : Int → Int} {c : CallR} {cs : List CallR} (h : 0 ≤ c.lasts) : roomM Q (c :: cs) ≤ roomM Q cs := by
  refine room_le.2 ⟨((room_le (x := roomM Q (c :: cs))).1 (Int.le_refl _)).1, fun r hr => ?_⟩
  have h1 := ((room_le (Q := Q) (cs := c :: cs)).1 (Int.le_refl _)).2
  rw [rvs_shift Q 0 (0 + c.lasts) cs] at hr
  obtain ⟨y, hy, rfl⟩ := List.mem_map.1 hr
  have := h1 y (by rw [rvs]; exact List.mem_cons_of_mem _ hy)
  omega
theorem trig_le (Q : Int → Int) (c : CallR) (cs : List CallR) : trigM Q c cs ≤ c.place.toNat := lastN_le _ _
theorem trig_holds {Q : Int → Int} {c : CallR} {cs : List CallR} (h0 : Q 0 ≤ roomM Q (c :: cs)) : Q (trigM Q c cs) ≤ roomM Q (c :: cs) := by
  have := lastN_holds (fun p => decide (Q p ≤ roomM Q (c :: cs))) (by simpa using h0) c.place.toNat
  simp only [decide_eq_true_eq] at this
  exact this
theorem trig_mono {Q : Int → Int} {c d : CallR} {cs : List CallR} (hl : 0 ≤ c.lasts) (hp : c.place ≤ d.place) (h0 : Q 0 ≤ roomM Q (c :: d :: cs)) : trigM Q c (d :: cs) ≤ trigM Q d cs := by
  refine lastN_ge (by have := trig_le Q c (d :: cs); omega) ?_
  have h1 := trig_holds h0
  have h2 := room_mono (Q := Q) (c := c) (cs := d :: cs) hl
  simp only [decide_eq_true_eq]
  omega
end Go.Proofs.YtogkmnopggmdjaaGreatDoor

/- The document's straight road and its speeds: plain numbers. -/
namespace Go.Proofs.YtogkmnopggmdjaaGreatDoor
open Go.RowKit Go.Shelf Go.Sort Go.Proofs

def kR : Road := ⟨[⟨1000, 0, 0, 50, 1⟩], [], []⟩
def kS : Spd := ⟨100, 200, [⟨5, 50, 100⟩], [100, 100, 100, 100, 100, 100, 100, 100, 100]⟩
end Go.Proofs.YtogkmnopggmdjaaGreatDoor

/- The chapter's examples of plans: plain numbers. -/
namespace Go.Proofs.YtogkmnopggmdjaaGreatDoor
open Go.RowKit Go.Shelf Go.Sort Go.Proofs

theorem tQ_part (S : Spd) (p : Piece) (k : Nat) (h : (k : Int) ≤ p.len) : tQ S [p] k = k * mQ S p ∧ tSl S [p] k = k * mSl S p := by
  unfold tQ tSl
  rw [units_one, List.take_replicate, Nat.min_eq_left (by omega), List.map_replicate, List.map_replicate]
  have key : ∀ (n : Nat) (a : Int), (List.replicate n a).sum = n * a := by
    intro n a
    induction n with
    | zero => simp
    | succ n ih => rw [List.replicate_succ, List.sum_cons, ih, Int.natCast_add, Int.add_mul]; simp; omega
  rw [key, key, mQ_one, mSl_one]
  exact ⟨rfl, rfl⟩
theorem kQ (k : Nat) (h : k ≤ 1000) : tQ kS kR.ps k = 50000 * k ∧ tSl kS kR.ps k = 100000 * k := by
  have := tQ_part kS ⟨1000, 0, 0, 50, 1⟩ k (by show (k : Int) ≤ 1000; omega)
  have e1 : mQ kS ⟨1000, 0, 0, 50, 1⟩ = 50000 := by decide
  have e2 : mSl kS ⟨1000, 0, 0, 50, 1⟩ = 100000 := by decide
  rw [e1, e2] at this
  exact ⟨by show tQ kS [_] k = _; rw [this.1]; omega, by show tSl kS [_] k = _; rw [this.2]; omega⟩
theorem kq (k : Nat) (h : k ≤ 1000) : qS kS kR (k : Int) = 50000 * k := (kQ k h).1
theorem ks (k : Nat) (h : k ≤ 1000) : sS kS kR (k : Int) = 100000 * k := (kQ k h).2
def kC1 : CallR := ⟨500, 2000000, 1000000, 20000000, 0⟩
def kC2 : CallR := ⟨600, 2000000, 1000000, 20000000, 0⟩
def kC3 : CallR := ⟨10, 1000000, 0, 0, 0⟩
theorem kL (room : Int) (c : CallR) (cs : List CallR) (n k : Nat) (hr : roomM (qS kS kR) (c :: cs) = room) (hp : c.place = n) (hn : n ≤ 1000) (hk : k ≤ n) (h1 : 50000 * (k : Int) ≤ room) (h2 : room < 50000 * ((k : Int) + 1)) : trigM (qS kS kR) c cs = k := by
  unfold trigM
  rw [hr, hp, Int.toNat_natCast]
  refine lastN_eq hk ?_ (fun j hj hjn => ?_)
  · rw [kq k (by omega)]; simpa using h1
  · rw [kq j (by omega)]; simp; omega
theorem kR2 : rvs (qS kS kR) 0 [kC2] = [27000000] := by
  have e : qS kS kR 600 = 30000000 := (kq 600 (by omega)).trans (by decide)
  simp only [rvs, kC2, e]; rfl
theorem kR1 : rvs (qS kS kR) 0 [kC1, kC2] = [22000000, 25000000] := by
  have e : qS kS kR 600 = 30000000 := (kq 600 (by omega)).trans (by decide)
  have e1 : qS kS kR 500 = 25000000 := (kq 500 (by omega)).trans (by decide)
  simp only [rvs, kC1, kC2, e, e1]; rfl
theorem kR3 : rvs (qS kS kR) 0 [kC3] = [-500000] := by
  have e : qS kS kR 10 = 500000 := (kq 10 (by omega)).trans (by decide)
  simp only [rvs, kC3, e]; rfl
theorem kPlan1 : planR (qS kS kR) (sS kS kR) [kC1, kC2] = ([440, 540], ⟨0, 0, false⟩, 0) := by
  have l1 : lateM (qS kS kR) [kC1, kC2] = none := by unfold lateM; rw [kR1]; decide
  have l2 : lateM (qS kS kR) [kC2] = none := by unfold lateM; rw [kR2]; decide
  have r1 : roomM (qS kS kR) [kC1, kC2] = 22000000 := by unfold roomM; rw [kR1]; decide
  have r2 : roomM (qS kS kR) [kC2] = 27000000 := by unfold roomM; rw [kR2]; decide
  have t1 : trigM (qS kS kR) kC1 [kC2] = 440 := kL 22000000 kC1 [kC2] 500 440 r1 rfl (by omega) (by omega) (by omega) (by omega)
  have t2 : trigM (qS kS kR) kC2 [] = 540 := kL 27000000 kC2 [] 600 540 r2 rfl (by omega) (by omega) (by omega) (by omega)
  have s1 : sS kS kR 440 = 44000000 := (ks 440 (by omega)).trans (by decide)
  have s2 : sS kS kR 500 = 50000000 := (ks 500 (by omega)).trans (by decide)
  have s3 : sS kS kR 540 = 54000000 := (ks 540 (by omega)).trans (by decide)
  have s4 : sS kS kR 600 = 60000000 := (ks 600 (by omega)).trans (by decide)
  have a2 : planA (qS kS kR) (sS kS kR) 1 [kC2] = .inr ([540], none) := by
    simp only [planA, l2, t2]
    rw [if_neg (by rw [show ((540 : Nat) : Int) = 540 from rfl, show kC2.place = 600 from rfl, s3, s4]; decide)]
    rfl
  have a1 : planA (qS kS kR) (sS kS kR) 0 [kC1, kC2] = .inr ([440, 540], none) := by
    rw [planA]
    simp only [l1, t1, a2]
    rw [if_neg (by rw [show ((440 : Nat) : Int) = 440 from rfl, show kC1.place = 500 from rfl, s1, s2]; decide)]
    rfl
  unfold planR
  rw [a1]
theorem kPlan2 : planR (qS kS kR) (sS kS kR) [kC3] = ([], ⟨0, 0, false⟩, 5) := by
  have l3 : lateM (qS kS kR) [kC3] = some 0 := by unfold lateM; rw [kR3]; decide
  have a : planA (qS kS kR) (sS kS kR) 0 [kC3] = .inl (0, 0) := by simp only [planA, l3]
  unfold planR
  rw [a]
  rfl
theorem kCok1 : COK (sumL kR.ps) [kC1, kC2] := (cB_iff _ _).1 (by decide)
theorem kCok2 : COK (sumL kR.ps) [kC3] := (cB_iff _ _).1 (by decide)
end Go.Proofs.YtogkmnopggmdjaaGreatDoor

/- The pace laws' small tests: few, quick, fine. -/
namespace Go.Proofs.YtogkmnopggmdjaaGreatDoor
open Go.RowKit Go.Shelf Go.Sort Go.Proofs

set_option maxRecDepth 100000 in
set_option maxHeartbeats 4000000 in
theorem few_any (pa : Option Addr) (pn pc : Nat) (ca : Option Addr) (cn cc : Nat) (ja : Option Addr) (jn jc : Nat) (R : Road) (w : World) (h : RD w w.heap.size pa pn ca cn ja jn R) (hmx : pn ≤ 9223372036854775807) :
    Calls Tryz.prog 5 #[.agg #[.slice pa pn pc, .slice ca cn cc, .slice ja jn jc]] w fun e w' => e = .returned (.bool (fewB R)) ∧ Below w.heap.size w w' := by
  have HR := Lib.hid h
  have HLP := Lib.hid h.p.1
  have HLC := Lib.hid h.c.1
  have HLJ := Lib.hid h.j.1
  clear h
  obtain ⟨w0, hw0⟩ : ∃ w0, w0 = w.alloc (.cells #[.slice pa pn pc, .slice ca cn cc, .slice ja jn jc] 26) := ⟨_, rfl⟩
  have hB0 : Below w.heap.size w w0 := by rw [hw0]; exact (Below.refl w.heap.size w).alloc (Nat.le_refl _) _
  have hX0 : BK w0 w.heap.size 26 #[.slice pa pn pc, .slice ca cn cc, .slice ja jn jc] := by rw [hw0]; exact BK.new w _ _
  go_enter Tryz.func5, Tryz.ntmps5
  go_wp2_with fail
  rw [← hw0]
  clear hw0
  have hz0 := hB0.size
  have hlX := hX0.lt
  go_loopw [3, 4] (fun n i wr => ∃ (k : Nat) (v : Int), k ≤ pn ∧ i = .int .i64 k ∧ n = .int .i64 v ∧ Hid (pn ≤ 60 → v = fLen (R.ps.take k)) ∧ Below w0.heap.size w0 wr)
    (fun _ i _ => pn - (intOf i).toNat)
  case atStart => exact ⟨0, 0, Nat.zero_le _, rfl, rfl, fun _ => rfl, Below.refl _ _⟩
  case round =>
    obtain ⟨k, v, hk, rfl, rfl, hv, hbr⟩ := hrel
    have hBr := hB0.trans (hbr.mono hz0)
    have hXr := hX0.below hbr hX0.lt
    have x0 := hXr.cell 0
    have x1 := hXr.cell 1
    have x2 := hXr.cell 2
    simp only [List.getElem?_toArray, List.getElem?_cons_zero, List.getElem?_cons_succ] at x0 x1 x2
    by_cases hlt : k < pn
    · have hkl : k < R.ps.length := by rw [← HLP.out]; exact hlt
      obtain ⟨b, off, hA, hbB, c0, c1, c2, c3, c4⟩ := PS.at_ (HR.out.p.grow hBr hBr.size) (k := k) hkl
      have hst := Lib.hid (show fLen (R.ps.take (k + 1)) = fLen (R.ps.take k) + if 0 < (R.ps[k]'hkl).len ∧ (R.ps[k]'hkl).len ≤ 5000 then (R.ps[k]'hkl).len else 0 by rw [List.take_succ_eq_append_getElem hkl, fLen_snoc])
      have hbd := fLen_bd (R.ps.take k)
      have htl : (R.ps.take k).length ≤ k := List.length_take_le ..
      generalize R.ps[k]'hkl = p at c0 hst
      clear hkl c1 c2 c3 c4
      have hi1 : (0 : Int) ≤ (k : Int) := by omega
      have hi2 : (k : Int) < (pn : Int) := by omega
      subst hA
      by_cases h1 : 0 < p.len
      case neg =>
        have g1 : decide (0 < p.len) = false := by simpa using h1
        have hn : Hid (pn ≤ 60 → v = fLen (R.ps.take (k + 1))) := fun h60 => by rw [hst.out, if_neg (fun q => h1 q.1), Int.add_zero]; exact hv.out h60
        clear h1 hbd htl
        go_wp2_with fail
        go_roundw
        case rel => exact ⟨k + 1, v, by omega, by go_num, rfl, hn, hbr⟩
        case measure => simp [intOf]; omega
      have g1 : decide (0 < p.len) = true := by simpa using h1
      by_cases h2 : p.len ≤ 5000
      case neg =>
        have g2 : decide (p.len ≤ 5000) = false := by simpa using h2
        have hn : Hid (pn ≤ 60 → v = fLen (R.ps.take (k + 1))) := fun h60 => by rw [hst.out, if_neg (fun q => h2 q.2), Int.add_zero]; exact hv.out h60
        clear h1 h2 hbd htl
        go_wp2_with fail
        go_roundw
        case rel => exact ⟨k + 1, v, by omega, by go_num, rfl, hn, hbr⟩
        case measure => simp [intOf]; omega
      have g2 : decide (p.len ≤ 5000) = true := by simpa using h2
      have hn : Hid (pn ≤ 60 → IntKind.i64.wrap (v + p.len) = fLen (R.ps.take (k + 1))) := fun h60 => by
        have e := hv.out h60
        rw [hst.out, if_pos ⟨h1, h2⟩, ← e]
        exact IntWalk.i64_in _ (by omega)
      obtain ⟨v', hv'⟩ : ∃ v', v' = IntKind.i64.wrap (v + p.len) := ⟨_, rfl⟩
      rw [← hv'] at hn
      have hsum : IntKind.i64.wrap (v + p.len) = v' := hv'.symm
      clear h1 h2 hbd htl hv'
      go_wp2_with fail
      go_roundw
      case rel => exact ⟨k + 1, v', by omega, by go_num, rfl, hn, hbr⟩
      case measure => simp [intOf]; omega
    · obtain rfl : pn = k := by omega
      by_cases h60 : pn ≤ 60
      case neg =>
        have hc : Hid (fewB R = false) := by show _ = _; unfold fewB; rw [← HLP.out]; simp [h60]
        have g2 : decide ((pn : Int) ≤ 60) = false := decide_eq_false (by omega)
        by_cases h1 : v ≤ 120
        · have g1 : decide (v ≤ 120) = true := by simpa using h1
          clear h1 h60
          go_wp2_with fail
          go_ret
          exact ⟨ret_bool hc.out.symm, hB0.trans (hbr.mono hz0)⟩
        · have g1 : decide (v ≤ 120) = false := by simpa using h1
          clear h1 h60
          go_wp2_with fail
          go_ret
          exact ⟨ret_bool hc.out.symm, hB0.trans (hbr.mono hz0)⟩
      have hve : v = fLen R.ps := by have := hv.out h60; rwa [HLP.out, List.take_length] at this
      have g2 : decide ((pn : Int) ≤ 60) = true := decide_eq_true (by omega)
      by_cases h1 : v ≤ 120
      case neg =>
        have hc : Hid (fewB R = false) := by show _ = _; unfold fewB; rw [← hve]; simp [h1]
        have g1 : decide (v ≤ 120) = false := by simpa using h1
        clear h1 h60 hve
        go_wp2_with fail
        go_ret
        exact ⟨ret_bool hc.out.symm, hB0.trans (hbr.mono hz0)⟩
      have g1 : decide (v ≤ 120) = true := by simpa using h1
      have hc : Hid (fewB R = (decide ((cn : Int) ≤ 40) && decide ((jn : Int) ≤ 40))) := by
        show _ = _
        rw [show decide ((cn : Int) ≤ 40) = decide (cn ≤ 40) from decide_eq_decide.2 (by omega), show decide ((jn : Int) ≤ 40) = decide (jn ≤ 40) from decide_eq_decide.2 (by omega)]
        unfold fewB; rw [← hve, ← HLP.out, ← HLC.out, ← HLJ.out]; simp [h1, h60]
      clear h1 h60 hve
      by_cases h2 : cn ≤ 40
      case neg =>
        have g3 : decide ((cn : Int) ≤ 40) = false := decide_eq_false (by omega)
        rw [g3, Bool.false_and] at hc
        clear h2
        go_wp2_with fail
        go_ret
        exact ⟨ret_bool hc.out.symm, hB0.trans (hbr.mono hz0)⟩
      have g3 : decide ((cn : Int) ≤ 40) = true := decide_eq_true (by omega)
      rw [g3, Bool.true_and] at hc
      clear h2
      go_wp2_with fail
      go_ret
      exact ⟨ret_bool hc.out.symm, hB0.trans (hbr.mono hz0)⟩
end Go.Proofs.YtogkmnopggmdjaaGreatDoor

/- The document's times: meter and Between. -/
namespace Go.Proofs.YtogkmnopggmdjaaGreatDoor
open Go.RowKit Go.Shelf Go.Sort Go.Proofs

theorem at_ex {ps : List Piece} {x : Int} (h0 : 0 ≤ x) (h1 : x < sumL ps) : ∃ i, At ps x i := by
  have key : ∀ k, k ≤ ps.length → x < sumL (ps.take k) → ∃ i, At ps x i := by
    intro k
    induction k with
    | zero => intro _ hx; simp [sumL] at hx; omega
    | succ k ih =>
      intro hk hx
      by_cases hy : x < sumL (ps.take k)
      · exact ih (by omega) hy
      · exact ⟨k, by omega, by omega, hx⟩
  exact key ps.length (Nat.le_refl _) (by rw [List.take_length]; exact h1)
theorem tQS_bd {S : Spd} {R : Road} (hS : SOK S) (hv : OK R) (k : Nat) (hk : (k : Int) ≤ sumL R.ps) : (0 ≤ tQ S R.ps k ∧ tQ S R.ps k ≤ 10000000 * k) ∧ 0 ≤ tSl S R.ps k ∧ tSl S R.ps k ≤ 10000700 * k := by
  have hlen := units_len (fun q hq => by have := (pOk_len (hv.pk q hq)).1; omega) (ps := R.ps)
  have key : ∀ j : Nat, (j : Int) ≤ sumL R.ps → (0 ≤ tQ S R.ps j ∧ tQ S R.ps j ≤ 10000000 * j) ∧ 0 ≤ tSl S R.ps j ∧ tSl S R.ps j ≤ 10000700 * j := by
    intro j
    induction j with
    | zero => intro _; simp [tQ, tSl]
    | succ j ih =>
      intro hj
      have h1 := ih (by omega)
      have hjl : j < (units R.ps).length := by omega
      have hx := List.getElem?_eq_getElem hjl
      obtain ⟨i, hat⟩ := at_ex (ps := R.ps) (x := (j : Int)) (by omega) (by omega)
      have hpi := List.getElem?_eq_getElem hat.1
      have hux := at_units (fun q hq => by have := pOk_len (hv.pk q hq); omega) (by omega) hat hpi
      rw [Int.toNat_natCast] at hux
      have hp := hv.pk _ (List.getElem_mem hat.1)
      rw [tQ_succ S R.ps hux, tSl_succ S R.ps hux, mQ_one, mSl_one]
      have h2 := mQ_bd hS hp
      have h3 := mSl_bd hS hp
      omega
  exact key k hk
end Go.Proofs.YtogkmnopggmdjaaGreatDoor

/- The document's plan: the reading times, which call is late, the greatest trigger. -/
namespace Go.Proofs.YtogkmnopggmdjaaGreatDoor
open Go.RowKit Go.Shelf Go.Sort Go.Proofs

/-- How long k calls from number f on last. -/
def lsum (cs : List CallR) (f k : Nat) : Int := (((cs.drop f).take k).map CallR.lasts).sum
theorem lasts_bd {N : Int} {cs : List CallR} (hc : COK N cs) (i : Nat) (h : i < cs.length) : 0 ≤ (cs[i]'h).lasts ∧ (cs[i]'h).lasts ≤ 1125899906842624 := by
  have := (hc.k i h _ (List.getElem?_eq_getElem h)).2.1
  simp only [inR, Bool.and_eq_true, decide_eq_true_eq] at this
  exact this
/-- Call i is late for a run that stands at g and has read from call j on. -/
def lateD (S : Spd) (R : Road) (cs : List CallR) (j i g : Nat) : Bool :=
  match cs[i]? with
  | none => false
  | some c => decide (c.place < g) || decide (tQ S R.ps c.place.toNat - tQ S R.ps g < lsum cs j (i + 1 - j) + c.lead)
/-- None of the calls from j on, up to before k, is late for a run that stands at g. -/
def okTo (S : Spd) (R : Road) (cs : List CallR) (j k g : Nat) : Bool := (List.range' j (k - j)).all fun i => !lateD S R cs j i g
end Go.Proofs.YtogkmnopggmdjaaGreatDoor

/- pace.Between where the road or the speeds are not as defined; and for all. -/
namespace Go.Proofs.YtogkmnopggmdjaaGreatDoor
open Go.RowKit Go.Shelf Go.Sort Go.Proofs

set_option maxRecDepth 100000 in
set_option maxHeartbeats 4000000 in
theorem Between_bad (f t : Int) (pa : Option Addr) (pn pc : Nat) (ca : Option Addr) (cn cc : Nat) (ja : Option Addr) (jn jc : Nat) (R : Road) (ra : Option Addr) (rn rc : Nat) (sa : Option Addr) (sn sc : Nat) (S : Spd) (w : World)
    (h : RD w w.heap.size pa pn ca cn ja jn R) (hD : SD w w.heap.size ra rn sa sn S) (hbad : ¬ (OK R ∧ SOK S)) :
    Calls Tryz.prog 19 #[.agg #[.slice pa pn pc, .slice ca cn cc, .slice ja jn jc], .agg #[.int .i64 S.least, .int .i64 S.most, .slice ra rn rc, .slice sa sn sc], .int .i64 f, .int .i64 t] w fun e w' =>
      e = .returned (.tuple #[.int .i64 0, .int .i64 0, .int .i64 2]) ∧ Below w.heap.size w w' := by
  have HR := Lib.hid h
  have HD := Lib.hid hD
  have HN := Lib.hid hbad
  clear h hD hbad
  obtain ⟨w0, hw0⟩ : ∃ w0, w0 = (w.alloc (.cells #[.slice pa pn pc, .slice ca cn cc, .slice ja jn jc] 26)).alloc (.cells #[.int .i64 S.least, .int .i64 S.most, .slice ra rn rc, .slice sa sn sc] 60) := ⟨_, rfl⟩
  have hB0 : Below w.heap.size w w0 := by rw [hw0]; exact ((Below.refl w.heap.size w).alloc (Nat.le_refl _) _).alloc (by simp) _
  have hX0 : BK w0 w.heap.size 26 #[.slice pa pn pc, .slice ca cn cc, .slice ja jn jc] := by rw [hw0]; exact (BK.new w _ _).alloc _
  have hY0 : BK w0 (w.heap.size + 1) 60 #[.int .i64 S.least, .int .i64 S.most, .slice ra rn rc, .slice sa sn sc] := by
    rw [hw0]; have := BK.new (w.alloc (.cells #[.slice pa pn pc, .slice ca cn cc, .slice ja jn jc] 26)) 60 #[.int .i64 S.least, .int .i64 S.most, .slice ra rn rc, .slice sa sn sc]; rw [World.size_alloc] at this; exact this
  go_enter Tryz.func19, Tryz.ntmps19
  go_wp2_with fail
  rw [← hw0]
  clear hw0
  have x0 := hX0.cell 0
  have x1 := hX0.cell 1
  have x2 := hX0.cell 2
  have y0 := hY0.cell 0
  have y1 := hY0.cell 1
  have y2 := hY0.cell 2
  have y3 := hY0.cell 3
  simp only [List.getElem?_toArray, List.getElem?_cons_zero, List.getElem?_cons_succ] at x0 x1 x2 y0 y1 y2 y3
  go_wp2_with fail
  clear x0 x1 x2 y0 y1 y2 y3
  refine (begin_bad pa pn pc ca cn cc ja jn jc R ra rn rc sa sn sc S w0 (HR.out.grow hB0 hB0.size) (HD.out.grow hB0 hB0.size) HN.out).mono ?_
  rintro e w1 ⟨rfl, hk0⟩
  have hB1 := hB0.trans (hk0.mono hB0.size)
  clear hX0 hY0 hk0 hB0
  go_wp2_with fail
  refine bodyPost_ret (v := .tuple #[.int .i64 0, .int .i64 0, .int .i64 2]) (by simp [results, Tryz.results19, go_sem]) rfl ⟨rfl, hB1⟩
/-- The times between two places, of whatever road and speeds. -/
def btwA (S : Spd) (R : Road) (f t : Int) : Int × Int × Int := if (val R && spB S) = true then btw S R f t else (0, 0, 2)
theorem Between_all (f t : Int) (pa : Option Addr) (pn pc : Nat) (ca : Option Addr) (cn cc : Nat) (ja : Option Addr) (jn jc : Nat) (R : Road) (ra : Option Addr) (rn rc : Nat) (sa : Option Addr) (sn sc : Nat) (S : Spd) (w : World)
    (h : RD w w.heap.size pa pn ca cn ja jn R) (hD : SD w w.heap.size ra rn sa sn S) :
    Calls Tryz.prog 19 #[.agg #[.slice pa pn pc, .slice ca cn cc, .slice ja jn jc], .agg #[.int .i64 S.least, .int .i64 S.most, .slice ra rn rc, .slice sa sn sc], .int .i64 f, .int .i64 t] w fun e w' =>
      e = .returned (.tuple #[.int .i64 (btwA S R f t).1, .int .i64 (btwA S R f t).2.1, .int .i64 (btwA S R f t).2.2]) ∧ Below w.heap.size w w' := by
  by_cases hb : OK R ∧ SOK S
  · have e : btwA S R f t = btw S R f t := by unfold btwA; rw [(val_iff R).2 hb.1, (spB_iff S).2 hb.2]; rfl
    rw [e]
    exact Between_any f t pa pn pc ca cn cc ja jn jc R ra rn rc sa sn sc S w h hD hb.1 hb.2
  · have e : btwA S R f t = (0, 0, 2) := by
      unfold btwA
      rw [if_neg]
      intro q
      rw [Bool.and_eq_true] at q
      exact hb ⟨(val_iff R).1 q.1, (spB_iff S).1 q.2⟩
    rw [e]
    exact Between_bad f t pa pn pc ca cn cc ja jn jc R ra rn rc sa sn sc S w h hD hb
end Go.Proofs.YtogkmnopggmdjaaGreatDoor
