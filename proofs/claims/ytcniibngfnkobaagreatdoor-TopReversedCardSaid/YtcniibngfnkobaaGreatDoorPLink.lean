/- The note between two things. Printed by genlink.py. -/
import Derived.Test.YtcniibngfnkobaaGreatDoorPCorned
import Derived.Test.YtcniibngfnkobaaGreatDoorPCBase
import Derived.Test.YtcniibngfnkobaaGreatDoorPCRoad
import Derived.Test.YtcniibngfnkobaaGreatDoorPCLeaf
import Derived.Test.YtcniibngfnkobaaGreatDoorPCIter
import Derived.Test.YtcniibngfnkobaaGreatDoorPCCheck
import Derived.Test.YtcniibngfnkobaaGreatDoorPCValid
import Derived.Test.YtcniibngfnkobaaGreatDoorPCReg
import Derived.Test.YtcniibngfnkobaaGreatDoorPCGrouped
import Derived.Test.YtcniibngfnkobaaGreatDoorPCAppS
import Derived.Test.YtcniibngfnkobaaGreatDoorPCCorn
import Derived.Test.YtcniibngfnkobaaGreatDoorPCOpen
import Derived.Test.YtcniibngfnkobaaGreatDoorPCReg8
import Derived.Test.YtcniibngfnkobaaGreatDoorPCBackOk
import Derived.Test.YtcniibngfnkobaaGreatDoorPCOrdM
import Derived.Test.YtcniibngfnkobaaGreatDoorPCRCorn
import Derived.Test.YtcniibngfnkobaaGreatDoorPCRev
import Derived.Test.YtcniibngfnkobaaGreatDoorPCRevR
import Derived.Test.YtcniibngfnkobaaGreatDoorPTStab
import Derived.Test.YtcniibngfnkobaaGreatDoorPNList
namespace Go.Proofs.YtcniibngfnkobaaGreatDoor
open Go.RowKit Go.Shelf Go.Sort Go.Proofs

theorem nround_any (a b : Int) (w : World) (h0 : 0 ≤ a) (h1 : a ≤ 1000000000) (h2 : 1 ≤ b) (h3 : b ≤ 1000000000) :
    Calls Tryz.prog 50 #[.int .i64 a, .int .i64 b] w fun e w' => e = .returned (.int .i64 ((2*a+b)/(2*b))) ∧ w' = w := by
  go_enter Tryz.func50, Tryz.ntmps50
  go_wp2
  go_ret
  exact ⟨rfl, rfl⟩
/-- The meters that a distance is said with. -/
def metI (b : BkR) (d : Int) : Int := min 9999 (max b.st ((2 * d + b.st) / (2 * b.st) * b.st))
/-- The note between two things. -/
def linkN (b : BkR) (d : Int) (first : Bool) : Option NoteR :=
  if b.io < d then some ⟨2, 0, 0, 0, 0, 0, metI b d, 0, 0, 0⟩
  else if first then none
  else if d ≤ b.an then some ⟨4, 0, 0, 0, 0, 0, 0, 0, 0, 0⟩
  else some ⟨3, 0, 0, 0, 0, 0, 0, 0, 0, 0⟩
theorem bk2 (w : World) (t t2 : TypeId) (cs cs2 : Array Value) : BK ((w.alloc (.cells cs2 t2)).alloc (.cells cs t)) (w.heap.size + 1) t cs := by
  have := BK.new (w.alloc (.cells cs2 t2)) t cs
  rwa [World.size_alloc] at this
def noteOr (o : Option NoteR) : Value := match o with | some n => nA n | none => nA ⟨0, 0, 0, 0, 0, 0, 0, 0, 0, 0⟩
theorem res_note_b {fn : Func} {t u : Nat} (hr : fn.results = #[.cell t 48, .tmp u]) (tm : Array Value) (w : World) (b : Nat) (v : Value) (cs : Array Value) (hsz : cs.size = 10) (ht : tm[t]? = some (.pointer (some ⟨b, 0, none⟩))) (hu : tm[u]? = some v) (hb : BK w b 48 cs) :
    (results fn tm).run Tryz.prog w = .ok (.tuple #[.agg cs, v]) w := by
  obtain ⟨l⟩ := cs
  match l, hsz with
  | [c0, c1, c2, c3, c4, c5, c6, c7, c8, c9], _ =>
  have x0 := hb.cell 0
  have x1 := hb.cell 1
  have x2 := hb.cell 2
  have x3 := hb.cell 3
  have x4 := hb.cell 4
  have x5 := hb.cell 5
  have x6 := hb.cell 6
  have x7 := hb.cell 7
  have x8 := hb.cell 8
  have x9 := hb.cell 9
  simp only [List.getElem?_toArray, List.getElem?_cons_zero, List.getElem?_cons_succ] at x0 x1 x2 x3 x4 x5 x6 x7 x8 x9
  simp [results, hr, ht, hu, go_sem, Tryz.isAgg48, Tryz.sizeOf48, x0, x1, x2, x3, x4, x5, x6, x7, x8, x9]
set_option maxRecDepth 100000 in
set_option maxHeartbeats 4000000 in
theorem nlink_ok (b : BkR) (hv : BkOK b) (A : Option Addr) (c : Nat) (d : Int) (first : Bool) (h0 : 0 ≤ d) (h1 : d ≤ 10000000) (w : World) :
    Calls Tryz.prog 33 #[bkA A c b, .int .i64 d, .bool first] w fun e w' => e = .returned (.tuple #[noteOr (linkN b d first), .bool (linkN b d first).isSome]) ∧ Below w.heap.size w w' := by
  have hmo : Tryz.prog.follows .mixedOrders = true := by kernel_rfl
  obtain ⟨w0, hw0⟩ : ∃ w0, w0 = (w.alloc (.cells #[.slice A b.gs.length c, .int .i64 b.sh, .int .i64 b.lo, .int .i64 b.ra, .int .i64 b.an, .int .i64 b.io, .int .i64 b.st, .int .i64 b.ga, .int .i64 b.le] 31)).alloc (.cells #[.int .i64 0, .int .i64 0, .int .i64 0, .int .i64 0, .int .i64 0, .int .i64 0, .int .i64 0, .int .i64 0, .int .i64 0, .int .i64 0] 48) := ⟨_, rfl⟩
  have hX0 : BK w0 w.heap.size 31 #[.slice A b.gs.length c, .int .i64 b.sh, .int .i64 b.lo, .int .i64 b.ra, .int .i64 b.an, .int .i64 b.io, .int .i64 b.st, .int .i64 b.ga, .int .i64 b.le] := by rw [hw0]; exact (BK.new w _ _).alloc _
  have hR0 : BK w0 (w.heap.size + 1) 48 #[.int .i64 0, .int .i64 0, .int .i64 0, .int .i64 0, .int .i64 0, .int .i64 0, .int .i64 0, .int .i64 0, .int .i64 0, .int .i64 0] := by
    rw [hw0]
    have := BK.new (w.alloc (.cells #[.slice A b.gs.length c, .int .i64 b.sh, .int .i64 b.lo, .int .i64 b.ra, .int .i64 b.an, .int .i64 b.io, .int .i64 b.st, .int .i64 b.ga, .int .i64 b.le] 31)) 48 #[.int .i64 0, .int .i64 0, .int .i64 0, .int .i64 0, .int .i64 0, .int .i64 0, .int .i64 0, .int .i64 0, .int .i64 0, .int .i64 0]
    rw [World.size_alloc] at this
    exact this
  have hB0 : Below w.heap.size w w0 := by rw [hw0]; exact ((Below.refl _ w).alloc (Nat.le_refl _) _).alloc (by simp) _
  have hs1 := hv.st1
  have hs2 := hv.st2
  obtain ⟨Q, hQ⟩ : ∃ Q, Q = (2 * d + b.st) / (2 * b.st) := ⟨_, rfl⟩
  have hQ0 : 0 ≤ Q := by rw [hQ]; exact Int.ediv_nonneg (by omega) (by omega)
  obtain ⟨M, hM⟩ : ∃ M, M = Q * b.st := ⟨_, rfl⟩
  have hM0 : 0 ≤ M := by rw [hM]; exact Int.mul_nonneg hQ0 (by omega)
  have hM1 : M ≤ 20000000 := by
    have h2 : Q * (2 * b.st) ≤ 2 * d + b.st := by rw [hQ]; exact Int.ediv_mul_le _ (by omega)
    have h3 : Q * (2 * b.st) = 2 * M := by rw [hM, Int.mul_left_comm]
    omega
  have hw1 : IntKind.i64.wrap (Q * b.st) = M := by rw [← hM]; exact IntWalk.i64_in _ (by omega)
  obtain ⟨X, hX⟩ : ∃ X, X = max b.st M := ⟨_, rfl⟩
  have hi1 : (if b.st < M then M else b.st) = X := by rw [hX, Int.max_def]; split <;> split <;> omega
  obtain ⟨Y, hY⟩ : ∃ Y, Y = min 9999 X := ⟨_, rfl⟩
  have hi2 : (if X < 9999 then X else 9999) = Y := by rw [hY, Int.min_def]; split <;> split <;> omega
  have HQ := Lib.hid hQ
  have HY : Hid (metI b d = Y) := by show _ = _; unfold metI; rw [hY, hX, hM, hQ]
  have HV := Lib.hid hv
  have hX := hX
  clear hQ hM hM0 hM1 hv
  obtain ⟨x0', x1', x2', x3', x4', x5', x6', x7', x8'⟩ := bk9 hX0
  have x6 := fun d os => cell_regrown x6' d os
  have r0 := hR0.cell 0
  have r1 := hR0.cell 1
  have r2 := hR0.cell 2
  have r3 := hR0.cell 3
  have r4 := hR0.cell 4
  have r5 := hR0.cell 5
  have r6 := hR0.cell 6
  have r7 := hR0.cell 7
  have r8 := hR0.cell 8
  have r9 := hR0.cell 9
  simp only [List.getElem?_toArray, List.getElem?_cons_zero, List.getElem?_cons_succ] at r0 r1 r2 r3 r4 r5 r6 r7 r8 r9
  have rf := hR0.frozen
  have rl := hR0.lt
  have HR := Lib.hid hR0
  unfold bkA
  by_cases c1 : b.io < d
  · have HL : Hid (linkN b d first = some ⟨2, 0, 0, 0, 0, 0, Y, 0, 0, 0⟩) := by show _ = _; unfold linkN; rw [if_pos c1, HY.out]
    go_enter Tryz.func33, Tryz.ntmps33
    go_wp2_with fail
    rw [← hw0]
    clear hw0 hX0 hR0
    go_quiet (first | (go_at_call 50; exact (nround_any _ _ _ h0 (by omega) hs1 (by omega)).mono fun _ _ ⟨a, e⟩ => ⟨by rw [a, ← HQ.out], _, e⟩))
    obtain ⟨w1, hw1'⟩ : ∃ w1, w1 = w0.drewN nq := ⟨_, rfl⟩
    have hR1 : BK w1 (w.heap.size + 1) 48 #[.int .i64 0, .int .i64 0, .int .i64 0, .int .i64 0, .int .i64 0, .int .i64 0, .int .i64 0, .int .i64 0, .int .i64 0, .int .i64 0] := by rw [hw1']; exact HR.out
    have hB1 : Below w.heap.size w w1 := by rw [hw1']; exact hB0.trans ⟨rfl, rfl, rfl, Nat.le_refl _, fun _ _ => rfl⟩
    rw [← hw1']
    clear hw1' x0' x1' x2' x3' x4' x5' x6' x7' x8' x6 r0 r1 r2 r3 r4 r5 r6 r7 r8 r9 rf rl hB0
    have r0 := hR1.cell 0
    have r1 := hR1.cell 1
    have r2 := hR1.cell 2
    have r3 := hR1.cell 3
    have r4 := hR1.cell 4
    have r5 := hR1.cell 5
    have r6 := hR1.cell 6
    have r7 := hR1.cell 7
    have r8 := hR1.cell 8
    have r9 := hR1.cell 9
    simp only [List.getElem?_toArray, List.getElem?_cons_zero, List.getElem?_cons_succ] at r0 r1 r2 r3 r4 r5 r6 r7 r8 r9
    have rf := hR1.frozen
    have rl := hR1.lt
    have HR1 := Lib.hid hR1

    clear hR1
    go_wp2_with fail

    exact bodyPost_ret (res_note_b (t := 6) (u := 7) rfl _ _ _ _ _ rfl rfl rfl (HR1.out.set10 rfl)) rfl ⟨by rw [HL.out, hY, hX]; rfl, below10 hB1 (by omega)⟩
  · clear x0' x1' x2' x3' x4' x5' x6' x7' x8' x6 r0 r1 r2 r3 r4 r5 r6 r7 r8 r9 rf rl HR hR0 hX0 hB0 hw0 w0
    cases first
    · by_cases c2 : d ≤ b.an
      · have HL : Hid (linkN b d false = some ⟨4, 0, 0, 0, 0, 0, 0, 0, 0, 0⟩) := by show _ = _; unfold linkN; rw [if_neg c1, if_neg (by simp), if_pos c2]
        go_enter Tryz.func33, Tryz.ntmps33
        go_wp2_with fail
        exact bodyPost_ret (res_note_b (t := 6) (u := 7) rfl _ _ _ _ _ rfl rfl rfl (bk2 _ _ _ _ _)) rfl ⟨by rw [HL.out]; rfl, ((Below.refl _ w).alloc (Nat.le_refl _) _).alloc (by simp) _⟩
      · have HL : Hid (linkN b d false = some ⟨3, 0, 0, 0, 0, 0, 0, 0, 0, 0⟩) := by show _ = _; unfold linkN; rw [if_neg c1, if_neg (by simp), if_neg c2]
        go_enter Tryz.func33, Tryz.ntmps33
        go_wp2_with fail
        exact bodyPost_ret (res_note_b (t := 6) (u := 7) rfl _ _ _ _ _ rfl rfl rfl (bk2 _ _ _ _ _)) rfl ⟨by rw [HL.out]; rfl, ((Below.refl _ w).alloc (Nat.le_refl _) _).alloc (by simp) _⟩
    · have HL : Hid (linkN b d true = none) := by show _ = _; unfold linkN; rw [if_neg c1, if_pos rfl]
      go_enter Tryz.func33, Tryz.ntmps33
      go_wp2_with fail
      exact bodyPost_ret (res_note_b (t := 6) (u := 7) rfl _ _ _ _ _ rfl rfl rfl (bk2 _ _ _ _ _)) rfl ⟨by rw [HL.out]; rfl, ((Below.refl _ w).alloc (Nat.le_refl _) _).alloc (by simp) _⟩
end Go.Proofs.YtcniibngfnkobaaGreatDoor

/- The notes of a road, plain: things, their order, the links between them. -/
namespace Go.Proofs.YtcniibngfnkobaaGreatDoor
open Go.RowKit Go.Shelf Go.Sort Go.Proofs

def thOf (a e : Int) (o : Fin 3) (n : NoteR) : ThR := ⟨a, e, o, n.k, n.tu, n.gr, n.lo, n.ch, n.ton, n.me, n.si, n.wa, n.ar⟩
def ThR.nt (t : ThR) : NoteR := ⟨t.nk, t.ntu, t.ngr, t.nlo, t.nch, t.nto, t.nme, t.nsi, t.nwa, t.nar⟩
def jTh (j : Junc) : ThR := thOf j.pos j.pos 0 ⟨7, 0, 0, 0, 0, 0, 0, 0, j.way, j.arms⟩
def cTh (c : Crest) : ThR := thOf c.pos c.pos 1 ⟨5, 0, 0, 0, 0, 0, 0, c.siz, 0, 0⟩
def kTh (b : BkR) (k : Corner) : ThR := thOf k.fr k.til 2 (cornN b k)
/-- What is noted of a road, not in order yet. -/
def things (b : BkR) (R : Road) : List ThR := R.js.map jTh ++ (R.cs.map cTh ++ (crns b.ga b.le R).map (kTh b))
/-- .. in order. -/
def sthings (b : BkR) (R : Road) : List ThR := ssort (fun x : ThR => x.pos) (things b R)
def mkL (b : BkR) : Int → Bool → List ThR → List NoteR
  | _, _, [] => []
  | e, f, t :: r => (linkN b (max 0 (t.at_ - e)) f).toList ++ t.nt :: mkL b (max e t.en) false r
/-- The notes of a road. -/
def makeL (b : BkR) (R : Road) : List NoteR := mkL b 0 true (sthings b R)
theorem ssort_mem {α : Type} (key : α → Int) {z : α} (l : List α) : z ∈ ssort key l → z ∈ l := by
  induction l using snoc_ind with
  | h0 => exact id
  | h1 l x ih =>
    intro h
    rw [ssort_snoc] at h
    rcases insR_mem key h with rfl | h
    · simp
    · exact List.mem_append_left _ (ih h)
theorem pOk_rad {p : Piece} (h : pOk p = true) : 0 ≤ p.rad ∧ p.rad ≤ 2000 := by
  unfold pOk at h
  simp only [Bool.and_eq_true] at h
  have h5 := h.2.2.2.2
  split at h5
  · have : p.rad = 0 := by simpa using h5
    omega
  · have : 5 ≤ p.rad ∧ p.rad ≤ 2000 := by simpa [inR] using h5
    omega
theorem crn_rads {R : Road} (hv : OK R) {gap least : Int} {c : Corner} (h : c ∈ crns gap least R) : (0 ≤ c.inn ∧ c.inn ≤ 2000) ∧ (0 ≤ c.out ∧ c.out ≤ 2000) := by
  unfold crns at h
  obtain ⟨g, hg, rfl⟩ := List.mem_map.1 (List.mem_filter.1 h).1
  have hb : ∀ e ∈ g, pOk e.2 = true := fun e he => by
    have h1 := grp_mem hg he
    unfold bds at h1
    have h2 := (List.mem_filter.1 h1).1
    exact hv.pk _ (its_mem R.ps 0 e (fun p hp => by have := pOk_len (hv.pk p hp); omega) h2).2.2
  have hne := grp_ne _ _ g hg
  obtain ⟨f, hf⟩ : ∃ f, g.head? = some f := by cases g with
    | nil => exact absurd rfl hne
    | cons a l => exact ⟨a, rfl⟩
  obtain ⟨l, hl⟩ : ∃ l, g.getLast? = some l := ⟨_, List.getLast?_eq_some_getLast hne⟩
  unfold crn
  rw [hf, hl]
  exact ⟨pOk_rad (hb f (List.mem_of_head? hf)), pOk_rad (hb l (List.mem_of_getLast? hl))⟩
theorem things_bd {b : BkR} {R : Road} (hv : OK R) : ∀ t ∈ things b R, (0 ≤ t.at_ ∧ t.at_ ≤ 100000) ∧ 0 ≤ t.en ∧ t.en ≤ 100000 := by
  intro t ht
  have hn := hv.n1
  rcases List.mem_append.1 ht with h | h
  · obtain ⟨j, hj, rfl⟩ := List.mem_map.1 h
    obtain ⟨i, hi, rfl⟩ := List.getElem_of_mem hj
    have h1 := (hv.jk i hi _ (List.getElem?_eq_getElem hi)).1
    simp only [inR, Bool.and_eq_true, decide_eq_true_eq] at h1
    exact ⟨⟨h1.1, by show R.js[i].pos ≤ _; omega⟩, h1.1, by show R.js[i].pos ≤ _; omega⟩
  rcases List.mem_append.1 h with h | h
  · obtain ⟨c, hc, rfl⟩ := List.mem_map.1 h
    obtain ⟨i, hi, rfl⟩ := List.getElem_of_mem hc
    have h1 := (hv.ck i hi _ (List.getElem?_eq_getElem hi)).1
    simp only [inR, Bool.and_eq_true, decide_eq_true_eq] at h1
    exact ⟨⟨h1.1, by show R.cs[i].pos ≤ _; omega⟩, h1.1, by show R.cs[i].pos ≤ _; omega⟩
  · obtain ⟨k, hk, rfl⟩ := List.mem_map.1 h
    have := crn_fine hv hk
    have h1 := this.lt
    have h2 := this.lo
    have h3 := this.hi
    exact ⟨⟨h2, by show k.fr ≤ _; omega⟩, by show 0 ≤ k.til; omega, by show k.til ≤ _; omega⟩
theorem sthings_bd {b : BkR} {R : Road} (hv : OK R) : ∀ t ∈ sthings b R, (0 ≤ t.at_ ∧ t.at_ ≤ 100000) ∧ 0 ≤ t.en ∧ t.en ≤ 100000 := fun t ht => things_bd hv t (ssort_mem _ _ ht)
theorem things_len {b : BkR} {R : Road} (hv : OK R) : (things b R).length ≤ 3200 := by
  have h1 := crns_len b.ga b.le R
  have h2 := hv.p2
  have h3 := hv.c1
  have h4 := hv.j1
  unfold things
  simp
  omega
theorem sthings_len {b : BkR} {R : Road} : (sthings b R).length = (things b R).length := ssort_len _ _
end Go.Proofs.YtcniibngfnkobaaGreatDoor

/- The radii that a grade means. -/
namespace Go.Proofs.YtcniibngfnkobaaGreatDoor
open Go.RowKit Go.Shelf Go.Sort Go.Proofs

def radLo (b : BkR) (g : Int) : Int := if 1 < g then b.gs.getD (g - 2).toNat 0 else 5
def radHi (b : BkR) (g : Int) : Int := if g ≤ (b.gs.length : Nat) then b.gs.getD (g - 1).toNat 0 - 1 else 2000
def radIn (b : BkR) (g : Int) : Bool := decide (1 ≤ g) && decide (g ≤ (b.gs.length : Nat) + 1)
/-- The radii of a grade; none. -/
def radI (b : BkR) (g : Int) : Int × Int × Bool := if radIn b g then (radLo b g, radHi b g, true) else (0, 0, false)
end Go.Proofs.YtcniibngfnkobaaGreatDoor

/- The meaning of a note. Printed by genmean.py. -/
namespace Go.Proofs.YtcniibngfnkobaaGreatDoor
open Go.RowKit Go.Shelf Go.Sort Go.Proofs

/-- The meaning of a corner's note. -/
structure MeanR where
  fr : Int
  to_ : Int
  lt : Int
  la : Int
  an : Int
  mo : Int
def mA (m : MeanR) : Value := .agg #[.int .i64 m.fr, .int .i64 m.to_, .int .i64 m.lt, .int .i64 m.la, .int .i64 m.an, .int .i64 m.mo]
def zeroM : MeanR := ⟨0, 0, 0, 0, 0, 0⟩
def latR (b : BkR) (nt : NoteR) : Int × Int × Bool := if nt.ch = 0 then (0, 0, true) else radI b nt.ton
def angM (b : BkR) (l : Int) : Int := if l = -1 then 0 else if l = 0 then b.sh else b.lo
def mosM (b : BkR) (l : Int) : Int := if l = -1 then b.sh - 1 else if l = 0 then b.lo - 1 else 10000
/-- The meaning; none. -/
def meanN (b : BkR) (nt : NoteR) : Option MeanR :=
  if (radI b nt.gr).2.2 && (latR b nt).2.2 then some ⟨(radI b nt.gr).1, (radI b nt.gr).2.1, (latR b nt).1, (latR b nt).2.1, angM b nt.lo, mosM b nt.lo⟩ else none
def meanOr (o : Option MeanR) : MeanR := o.getD zeroM
theorem BK.t6 {w : World} {g : Nat} {t : TypeId} {v0 v1 v2 v3 v4 v5 : Value} (h : BK w g t #[v0, v1, v2, v3, v4, v5]) :
    w.cell? ⟨g, 0, none⟩ = some v0 ∧ w.cell? ⟨g, 1, none⟩ = some v1 ∧ w.cell? ⟨g, 2, none⟩ = some v2 ∧ w.cell? ⟨g, 3, none⟩ = some v3 ∧ w.cell? ⟨g, 4, none⟩ = some v4 ∧ w.cell? ⟨g, 5, none⟩ = some v5 := by
  have c0 := h.cell 0
  have c1 := h.cell 1
  have c2 := h.cell 2
  have c3 := h.cell 3
  have c4 := h.cell 4
  have c5 := h.cell 5
  simp only [List.getElem?_toArray, List.getElem?_cons_zero, List.getElem?_cons_succ] at c0 c1 c2 c3 c4 c5
  exact ⟨c0, c1, c2, c3, c4, c5⟩
end Go.Proofs.YtcniibngfnkobaaGreatDoor
