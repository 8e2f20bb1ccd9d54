/- The note between two things. Printed by genlink.py. -/
import Derived.Test.YtnmipejpjeakbaaGreatDoorPCorned
import Derived.Test.YtnmipejpjeakbaaGreatDoorPCAppS
import Derived.Test.YtnmipejpjeakbaaGreatDoorPOOrdM
import Derived.Test.YtnmipejpjeakbaaGreatDoorPTStab
import Derived.Test.YtnmipejpjeakbaaGreatDoorPReadR
import Derived.Test.YtnmipejpjeakbaaGreatDoorPMendP
namespace Go.Proofs.YtnmipejpjeakbaaGreatDoor
open Go.RowKit Go.Shelf Go.Sort Go.Proofs

theorem nround_any (a b : Int) (w : World) (h0 : 0 ≤ a) (h1 : a ≤ 1000000000) (h2 : 1 ≤ b) (h3 : b ≤ 1000000000) :
    Calls Tryz.prog 97 #[.int .i64 a, .int .i64 b] w fun e w' => e = .returned (.int .i64 ((2*a+b)/(2*b))) ∧ w' = w := by
  go_enter Tryz.func97, Tryz.ntmps97
  go_wp2
  go_ret
  exact ⟨rfl, rfl⟩
/-- The meters that a distance is said with. -/
def metI (b : BkR) (d : Int) : Int := min 9999 (max b.st ((2 * d + b.st) / (2 * b.st) * b.st))
/-- The note between two things. -/
def linkN (b : BkR) (d : Int) (first : Bool) : Option NoteR :=
  if b.io < d then some ⟨2, 0, 0, 0, 0, 0, metI b d, 0, 0, 0⟩
  else if first then none
  else if d ≤ b.an then some ⟨4, 0, 0, 0, 0, 0, 0, 0, 0, 0⟩
  else some ⟨3, 0, 0, 0, 0, 0, 0, 0, 0, 0⟩
theorem bk2 (w : World) (t t2 : TypeId) (cs cs2 : Array Value) : BK ((w.alloc (.cells cs2 t2)).alloc (.cells cs t)) (w.heap.size + 1) t cs := by
  have := BK.new (w.alloc (.cells cs2 t2)) t cs
  rwa [World.size_alloc] at this
def noteOr (o : Option NoteR) : Value := match o with | some n => nA n | none => nA ⟨0, 0, 0, 0, 0, 0, 0, 0, 0, 0⟩
theorem res_note_b {fn : Func} {t u : Nat} (hr : fn.results = #[.cell t 36, .tmp u]) (tm : Array Value) (w : World) (b : Nat) (v : Value) (cs : Array Value) (hsz : cs.size = 10) (ht : tm[t]? = some (.pointer (some ⟨b, 0, none⟩))) (hu : tm[u]? = some v) (hb : BK w b 36 cs) :
    (results fn tm).run Tryz.prog w = .ok (.tuple #[.agg cs, v]) w := by
  obtain ⟨l⟩ := cs
  match l, hsz with
  | [c0, c1, c2, c3, c4, c5, c6, c7, c8, c9], _ =>
  have x0 := hb.cell 0
  have x1 := hb.cell 1
  have x2 := hb.cell 2
  have x3 := hb.cell 3
  have x4 := hb.cell 4
  have x5 := hb.cell 5
  have x6 := hb.cell 6
  have x7 := hb.cell 7
  have x8 := hb.cell 8
  have x9 := hb.cell 9
  simp only [List.getElem?_toArray, List.getElem?_cons_zero, List.getElem?_cons_succ] at x0 x1 x2 x3 x4 x5 x6 x7 x8 x9
  simp [results, hr, ht, hu, go_sem, Tryz.isAgg36, Tryz.sizeOf36, x0, x1, x2, x3, x4, x5, x6, x7, x8, x9]
set_option maxRecDepth 100000 in
set_option maxHeartbeats 4000000 in
theorem nlink_ok (b : BkR) (hv : BkOK b) (A : Option Addr) (c : Nat) (d : Int) (first : Bool) (h0 : 0 ≤ d) (h1 : d ≤ 10000000) (w : World) :
    Calls Tryz.prog 68 #[bkA A c b, .int .i64 d, .bool first] w fun e w' => e = .returned (.tuple #[noteOr (linkN b d first), .bool (linkN b d first).isSome]) ∧ Below w.heap.size w w' := by
  have hmo : Tryz.prog.follows .mixedOrders = true := by kernel_rfl
  obtain ⟨w0, hw0⟩ : ∃ w0, w0 = (w.alloc (.cells #[.slice A b.gs.length c, .int .i64 b.sh, .int .i64 b.lo, .int .i64 b.ra, .int .i64 b.an, .int .i64 b.io, .int .i64 b.st, .int .i64 b.ga, .int .i64 b.le] 50)).alloc (.cells #[.int .i64 0, .int .i64 0, .int .i64 0, .int .i64 0, .int .i64 0, .int .i64 0, .int .i64 0, .int .i64 0, .int .i64 0, .int .i64 0] 36) := ⟨_, rfl⟩
  have hX0 : BK w0 w.heap.size 50 #[.slice A b.gs.length c, .int .i64 b.sh, .int .i64 b.lo, .int .i64 b.ra, .int .i64 b.an, .int .i64 b.io, .int .i64 b.st, .int .i64 b.ga, .int .i64 b.le] := by rw [hw0]; exact (BK.new w _ _).alloc _
  have hR0 : BK w0 (w.heap.size + 1) 36 #[.int .i64 0, .int .i64 0, .int .i64 0, .int .i64 0, .int .i64 0, .int .i64 0, .int .i64 0, .int .i64 0, .int .i64 0, .int .i64 0] := by
    rw [hw0]
    have := BK.new (w.alloc (.cells #[.slice A b.gs.length c, .int .i64 b.sh, .int .i64 b.lo, .int .i64 b.ra, .int .i64 b.an, .int .i64 b.io, .int .i64 b.st, .int .i64 b.ga, .int .i64 b.le] 50)) 36 #[.int .i64 0, .int .i64 0, .int .i64 0, .int .i64 0, .int .i64 0, .int .i64 0, .int .i64 0, .int .i64 0, .int .i64 0, .int .i64 0]
    rw [World.size_alloc] at this
    exact this
  have hB0 : Below w.heap.size w w0 := by rw [hw0]; exact ((Below.refl _ w).alloc (Nat.le_refl _) _).alloc (by simp) _
  have hs1 := hv.st1
  have hs2 := hv.st2
  obtain ⟨Q, hQ⟩ : ∃ Q, Q = (2 * d + b.st) / (2 * b.st) := ⟨_, rfl⟩
  have hQ0 : 0 ≤ Q := by rw [hQ]; exact Int.ediv_nonneg (by omega) (by omega)
  obtain ⟨M, hM⟩ : ∃ M, M = Q * b.st := ⟨_, rfl⟩
  have hM0 : 0 ≤ M := by rw [hM]; exact Int.mul_nonneg hQ0 (by omega)
  have hM1 : M ≤ 20000000 := by
    have h2 : Q * (2 * b.st) ≤ 2 * d + b.st := by rw [hQ]; exact Int.ediv_mul_le _ (by omega)
    have h3 : Q * (2 * b.st) = 2 * M := by rw [hM, Int.mul_left_comm]
    omega
  have hw1 : IntKind.i64.wrap (Q * b.st) = M := by rw [← hM]; exact IntWalk.i64_in _ (by omega)
  obtain ⟨X, hX⟩ : ∃ X, X = max b.st M := ⟨_, rfl⟩
  have hi1 : (if b.st < M then M else b.st) = X := by rw [hX, Int.max_def]; split <;> split <;> omega
  obtain ⟨Y, hY⟩ : ∃ Y, Y = min 9999 X := ⟨_, rfl⟩
  have hi2 : (if X < 9999 then X else 9999) = Y := by rw [hY, Int.min_def]; split <;> split <;> omega
  have HQ := Lib.hid hQ
  have HY : Hid (metI b d = Y) := by show _ = _; unfold metI; rw [hY, hX, hM, hQ]
  have HV := Lib.hid hv
  have hX := hX
  clear hQ hM hM0 hM1 hv
  obtain ⟨x0', x1', x2', x3', x4', x5', x6', x7', x8'⟩ := bk9 hX0
  have x6 := fun d os => cell_regrown x6' d os
  have r0 := hR0.cell 0
  have r1 := hR0.cell 1
  have r2 := hR0.cell 2
  have r3 := hR0.cell 3
  have r4 := hR0.cell 4
  have r5 := hR0.cell 5
  have r6 := hR0.cell 6
  have r7 := hR0.cell 7
  have r8 := hR0.cell 8
  have r9 := hR0.cell 9
  simp only [List.getElem?_toArray, List.getElem?_cons_zero, List.getElem?_cons_succ] at r0 r1 r2 r3 r4 r5 r6 r7 r8 r9
  have rf := hR0.frozen
  have rl := hR0.lt
  have HR := Lib.hid hR0
  unfold bkA
  by_cases c1 : b.io < d
  · have HL : Hid (linkN b d first = some ⟨2, 0, 0, 0, 0, 0, Y, 0, 0, 0⟩) := by show _ = _; unfold linkN; rw [if_pos c1, HY.out]
    go_enter Tryz.func68, Tryz.ntmps68
    go_wp2_with fail
    rw [← hw0]
    clear hw0 hX0 hR0
    go_quiet (first | (go_at_call 97; exact (nround_any _ _ _ h0 (by omega) hs1 (by omega)).mono fun _ _ ⟨a, e⟩ => ⟨by rw [a, ← HQ.out], _, e⟩))
    obtain ⟨w1, hw1'⟩ : ∃ w1, w1 = w0.drewN nq := ⟨_, rfl⟩
    have hR1 : BK w1 (w.heap.size + 1) 36 #[.int .i64 0, .int .i64 0, .int .i64 0, .int .i64 0, .int .i64 0, .int .i64 0, .int .i64 0, .int .i64 0, .int .i64 0, .int .i64 0] := by rw [hw1']; exact HR.out
    have hB1 : Below w.heap.size w w1 := by rw [hw1']; exact hB0.trans ⟨rfl, rfl, rfl, Nat.le_refl _, fun _ _ => rfl⟩
    rw [← hw1']
    clear hw1' x0' x1' x2' x3' x4' x5' x6' x7' x8' x6 r0 r1 r2 r3 r4 r5 r6 r7 r8 r9 rf rl hB0
    have r0 := hR1.cell 0
    have r1 := hR1.cell 1
    have r2 := hR1.cell 2
    have r3 := hR1.cell 3
    have r4 := hR1.cell 4
    have r5 := hR1.cell 5
    have r6 := hR1.cell 6
    have r7 := hR1.cell 7
    have r8 := hR1.cell 8
    have r9 := hR1.cell 9
    simp only [List.getElem?_toArray, List.getElem?_cons_zero, List.getElem?_cons_succ] at r0 r1 r2 r3 r4 r5 r6 r7 r8 r9
    have rf := hR1.frozen
    have rl := hR1.lt
    have HR1 := Lib.hid hR1

    clear hR1
    go_wp2_with fail

    exact bodyPost_ret (res_note_b (t := 6) (u := 7) rfl _ _ _ _ _ rfl rfl rfl (HR1.out.set10 rfl)) rfl ⟨by rw [HL.out, hY, hX]; rfl, below10 hB1 (by omega)⟩
  · clear x0' x1' x2' x3' x4' x5' x6' x7' x8' x6 r0 r1 r2 r3 r4 r5 r6 r7 r8 r9 rf rl HR hR0 hX0 hB0 hw0 w0
    cases first
    · by_cases c2 : d ≤ b.an
      · have HL : Hid (linkN b d false = some ⟨4, 0, 0, 0, 0, 0, 0, 0, 0, 0⟩) := by show _ = _; unfold linkN; rw [if_neg c1, if_neg (by simp), if_pos c2]
        go_enter Tryz.func68, Tryz.ntmps68
        go_wp2_with fail
        exact bodyPost_ret (res_note_b (t := 6) (u := 7) rfl _ _ _ _ _ rfl rfl rfl (bk2 _ _ _ _ _)) rfl ⟨by rw [HL.out]; rfl, ((Below.refl _ w).alloc (Nat.le_refl _) _).alloc (by simp) _⟩
      · have HL : Hid (linkN b d false = some ⟨3, 0, 0, 0, 0, 0, 0, 0, 0, 0⟩) := by show _ = _; unfold linkN; rw [if_neg c1, if_neg (by simp), if_neg c2]
        go_enter Tryz.func68, Tryz.ntmps68
        go_wp2_with fail
        exact bodyPost_ret (res_note_b (t := 6) (u := 7) rfl _ _ _ _ _ rfl rfl rfl (bk2 _ _ _ _ _)) rfl ⟨by rw [HL.out]; rfl, ((Below.refl _ w).alloc (Nat.le_refl _) _).alloc (by simp) _⟩
    · have HL : Hid (linkN b d true = none) := by show _ = _; unfold linkN; rw [if_neg c1, if_pos rfl]
      go_enter Tryz.func68, Tryz.ntmps68
      go_wp2_with fail
      exact bodyPost_ret (res_note_b (t := 6) (u := 7) rfl _ _ _ _ _ rfl rfl rfl (bk2 _ _ _ _ _)) rfl ⟨by rw [HL.out]; rfl, ((Below.refl _ w).alloc (Nat.le_refl _) _).alloc (by simp) _⟩
end Go.Proofs.YtnmipejpjeakbaaGreatDoor

/- The notes of a road, plain: things, their order, the links between them. -/
namespace Go.Proofs.YtnmipejpjeakbaaGreatDoor
open Go.RowKit Go.Shelf Go.Sort Go.Proofs

def thOf (a e : Int) (o : Fin 3) (n : NoteR) : ThR := ⟨a, e, o, n.k, n.tu, n.gr, n.lo, n.ch, n.ton, n.me, n.si, n.wa, n.ar⟩
def ThR.nt (t : ThR) : NoteR := ⟨t.nk, t.ntu, t.ngr, t.nlo, t.nch, t.nto, t.nme, t.nsi, t.nwa, t.nar⟩
def jTh (j : Junc) : ThR := thOf j.pos j.pos 0 ⟨7, 0, 0, 0, 0, 0, 0, 0, j.way, j.arms⟩
def cTh (c : Crest) : ThR := thOf c.pos c.pos 1 ⟨5, 0, 0, 0, 0, 0, 0, c.siz, 0, 0⟩
def kTh (b : BkR) (k : Corner) : ThR := thOf k.fr k.til 2 (cornN b k)
/-- What is noted of a road, not in order yet. -/
def things (b : BkR) (R : Road) : List ThR := R.js.map jTh ++ (R.cs.map cTh ++ (crns b.ga b.le R).map (kTh b))
/-- .. in order. -/
def sthings (b : BkR) (R : Road) : List ThR := ssort (fun x : ThR => x.pos) (things b R)
def mkL (b : BkR) : Int → Bool → List ThR → List NoteR
  | _, _, [] => []
  | e, f, t :: r => (linkN b (max 0 (t.at_ - e)) f).toList ++ t.nt :: mkL b (max e t.en) false r
/-- The notes of a road. -/
def makeL (b : BkR) (R : Road) : List NoteR := mkL b 0 true (sthings b R)
theorem ssort_mem {α : Type} (key : α → Int) {z : α} (l : List α) : z ∈ ssort key l → z ∈ l := by
  induction l using snoc_ind with
  | h0 => exact id
  | h1 l x ih =>
    intro h
    rw [ssort_snoc] at h
    rcases insR_mem key h with rfl | h
    · simp
    · exact List.mem_append_left _ (ih h)
theorem pOk_rad {p : Piece} (h : pOk p = true) : 0 ≤ p.rad ∧ p.rad ≤ 2000 := by
  unfold pOk at h
  simp only [Bool.and_eq_true] at h
  have h5 := h.2.2.2.2
  split at h5
  · have : p.rad = 0 := by simpa using h5
    omega
  · have : 5 ≤ p.rad ∧ p.rad ≤ 2000 := by simpa [inR] using h5
    omega
theorem crn_rads {R : Road} (hv : OK R) {gap least : Int} {c : Corner} (h : c ∈ crns gap least R) : (0 ≤ c.inn ∧ c.inn ≤ 2000) ∧ (0 ≤ c.out ∧ c.out ≤ 2000) := by
  unfold crns at h
  obtain ⟨g, hg, rfl⟩ := List.mem_map.1 (List.mem_filter.1 h).1
  have hb : ∀ e ∈ g, pOk e.2 = true := fun e he => by
    have h1 := grp_mem hg he
    unfold bds at h1
    have h2 := (List.mem_filter.1 h1).1
    exact hv.pk _ (its_mem R.ps 0 e (fun p hp => by have := pOk_len (hv.pk p hp); omega) h2).2.2
  have hne := grp_ne _ _ g hg
  obtain ⟨f, hf⟩ : ∃ f, g.head? = some f := by cases g with
    | nil => exact absurd rfl hne
    | cons a l => exact ⟨a, rfl⟩
  obtain ⟨l, hl⟩ : ∃ l, g.getLast? = some l := ⟨_, List.getLast?_eq_some_getLast hne⟩
  unfold crn
  rw [hf, hl]
  exact ⟨pOk_rad (hb f (List.mem_of_head? hf)), pOk_rad (hb l (List.mem_of_getLast? hl))⟩
theorem things_bd {b : BkR} {R : Road} (hv : OK R) : ∀ t ∈ things b R, (0 ≤ t.at_ ∧ t.at_ ≤ 100000) ∧ 0 ≤ t.en ∧ t.en ≤ 100000 := by
  intro t ht
  have hn := hv.n1
  rcases List.mem_append.1 ht with h | h
  · obtain ⟨j, hj, rfl⟩ := List.mem_map.1 h
    obtain ⟨i, hi, rfl⟩ := List.getElem_of_mem hj
    have h1 := (hv.jk i hi _ (List.getElem?_eq_getElem hi)).1
    simp only [inR, Bool.and_eq_true, decide_eq_true_eq] at h1
    exact ⟨⟨h1.1, by show R.js[i].pos ≤ _; omega⟩, h1.1, by show R.js[i].pos ≤ _; omega⟩
  rcases List.mem_append.1 h with h | h
  · obtain ⟨c, hc, rfl⟩ := List.mem_map.1 h
    obtain ⟨i, hi, rfl⟩ := List.getElem_of_mem hc
    have h1 := (hv.ck i hi _ (List.getElem?_eq_getElem hi)).1
    simp only [inR, Bool.and_eq_true, decide_eq_true_eq] at h1
    exact ⟨⟨h1.1, by show R.cs[i].pos ≤ _; omega⟩, h1.1, by show R.cs[i].pos ≤ _; omega⟩
  · obtain ⟨k, hk, rfl⟩ := List.mem_map.1 h
    have := crn_fine hv hk
    have h1 := this.lt
    have h2 := this.lo
    have h3 := this.hi
    exact ⟨⟨h2, by show k.fr ≤ _; omega⟩, by show 0 ≤ k.til; omega, by show k.til ≤ _; omega⟩
theorem sthings_bd {b : BkR} {R : Road} (hv : OK R) : ∀ t ∈ sthings b R, (0 ≤ t.at_ ∧ t.at_ ≤ 100000) ∧ 0 ≤ t.en ∧ t.en ≤ 100000 := fun t ht => things_bd hv t (ssort_mem _ _ ht)
theorem things_len {b : BkR} {R : Road} (hv : OK R) : (things b R).length ≤ 3200 := by
  have h1 := crns_len b.ga b.le R
  have h2 := hv.p2
  have h3 := hv.c1
  have h4 := hv.j1
  unfold things
  simp
  omega
theorem sthings_len {b : BkR} {R : Road} : (sthings b R).length = (things b R).length := ssort_len _ _
end Go.Proofs.YtnmipejpjeakbaaGreatDoor

/- Layer 2's examples, plain: the notes of the texts, the notes of the example road, the correction. No program in sight. -/
namespace Go.Proofs.YtnmipejpjeakbaaGreatDoor
open Go.RowKit Go.Shelf Go.Sort Go.Proofs

/-- R4 long tightens 3 50 into jump ! junction 2 of 3 -/
def kTxt : List UInt8 := [82, 52, 32, 108, 111, 110, 103, 32, 116, 105, 103, 104, 116, 101, 110, 115, 32, 51, 32, 53, 48, 32, 105, 110, 116, 111, 32, 106, 117, 109, 112, 32, 33, 32, 106, 117, 110, 99, 116, 105, 111, 110, 32, 50, 32, 111, 102, 32, 51]
def kLst : List NoteR := [⟨1, 1, 4, 1, 1, 3, 0, 0, 0, 0⟩, ⟨2, 0, 0, 0, 0, 0, 50, 0, 0, 0⟩, ⟨3, 0, 0, 0, 0, 0, 0, 0, 0, 0⟩, ⟨5, 0, 0, 0, 0, 0, 0, 2, 0, 0⟩, ⟨6, 0, 0, 0, 0, 0, 0, 1, 0, 0⟩, ⟨7, 0, 0, 0, 0, 0, 0, 0, 2, 3⟩]
/-- L3 opens 3 -/
def kTxt2 : List UInt8 := [76, 51, 32, 111, 112, 101, 110, 115, 32, 51]
/-- 100 R3 long tightens 2 50 jump -/
def kTxt3 : List UInt8 := [49, 48, 48, 32, 82, 51, 32, 108, 111, 110, 103, 32, 116, 105, 103, 104, 116, 101, 110, 115, 32, 50, 32, 53, 48, 32, 106, 117, 109, 112]
def kLst3 : List NoteR := [⟨2, 0, 0, 0, 0, 0, 100, 0, 0, 0⟩, ⟨1, 1, 3, 1, 1, 2, 0, 0, 0, 0⟩, ⟨2, 0, 0, 0, 0, 0, 50, 0, 0, 0⟩, ⟨5, 0, 0, 0, 0, 0, 0, 2, 0, 0⟩]
def kBook : BkR := ⟨[20, 40, 60, 100, 200], 300, 1200, 150, 10, 30, 10, 20, 100⟩
theorem itoa_d (m : Nat) (h : m < 10) : Lib.itoa (m : Nat) = [UInt8.ofNat (48 + m)] := by
  rw [Lib.itoa_nonneg, Lib.decDigits, dif_pos h]
theorem itoa_dd (m : Nat) (h : ¬ m < 10) (h2 : m / 10 < 10) : Lib.itoa (m : Nat) = [UInt8.ofNat (48 + m / 10), UInt8.ofNat (48 + m % 10)] := by
  rw [Lib.itoa_nonneg, Lib.decDigits, dif_neg h, Lib.decDigits, dif_pos h2]
  rfl
theorem itoa_2 : Lib.itoa 2 = [50] := itoa_d 2 (by decide)
theorem itoa_3 : Lib.itoa 3 = [51] := itoa_d 3 (by decide)
theorem itoa_4 : Lib.itoa 4 = [52] := itoa_d 4 (by decide)
theorem itoa_50 : Lib.itoa 50 = [53, 48] := itoa_dd 50 (by decide) (by decide)
theorem itoa_100 : Lib.itoa 100 = [49, 48, 48] := by
  show Lib.itoa ((100 : Nat) : Int) = _
  rw [Lib.itoa_nonneg, Lib.decDigits, dif_neg (by decide), Lib.decDigits, dif_neg (by decide), Lib.decDigits, dif_pos (by decide)]
  rfl
theorem kLst_val : kLst.all nVal = true := by decide
theorem kLst_txt : nJoin kLst = kTxt := by
  simp [nJoin, kLst, kTxt, nTxt, itoa_2, itoa_3, itoa_4, itoa_50, Lib.join, List.intercalate]
theorem kLst3_txt : nJoin kLst3 = kTxt3 := by
  simp [nJoin, kLst3, kTxt3, nTxt, itoa_2, itoa_3, itoa_50, itoa_100, Lib.join, List.intercalate]
theorem kRead : readB kTxt = some kLst := by
  rw [← kLst_txt]
  exact read_write kLst kLst_val
theorem kRead2 : readB kTxt2 = none := by
  have h : wordsB kTxt2 = [[76, 51], wOpens, [51]] := by decide
  unfold readB
  rw [h]
  exact pAll_none (by simp) (by decide)
theorem kBook_ok : BkOK kBook := by
  constructor <;> decide
theorem kMake : makeL kBook exR = kLst3 := by
  have h : crns kBook.ga kBook.le exR = crns 20 100 exR := rfl
  unfold makeL sthings things
  rw [h]
  have hc : crns 20 100 exR = [⟨100, 200, 1, 30, 50, 30, 2000⟩] := by kernel_rfl
  rw [hc]
  have hs : ssort (fun x : ThR => x.pos) (exR.js.map jTh ++ (exR.cs.map cTh ++ [(⟨100, 200, 1, 30, 50, 30, 2000⟩ : Corner)].map (kTh kBook))) = [kTh kBook ⟨100, 200, 1, 30, 50, 30, 2000⟩, cTh ⟨250, 2⟩] := by kernel_rfl
  rw [hs]
  show mkL kBook 0 true [kTh kBook ⟨100, 200, 1, 30, 50, 30, 2000⟩, cTh ⟨250, 2⟩] = kLst3
  decide
theorem kGrade : gradeI kBook 20 = 2 := by decide
def kLA : List NoteR := [⟨1, 1, 3, 0, 0, 0, 0, 0, 0, 0⟩]
def kLB : List NoteR := [⟨1, -1, 2, 0, 0, 0, 0, 0, 0, 0⟩, ⟨2, 0, 0, 0, 0, 0, 50, 0, 0, 0⟩]
theorem kMnd : mnd 0 kLA kLB = [⟨0, 3, ⟨1, -1, 2, 0, 0, 0, 0, 0, 0, 0⟩⟩, ⟨1, 1, ⟨2, 0, 0, 0, 0, 0, 50, 0, 0, 0⟩⟩] := by
  have c1 : cst [⟨1, 1, 3, 0, 0, 0, 0, 0, 0, 0⟩] [⟨2, 0, 0, 0, 0, 0, 50, 0, 0, 0⟩] = 1 := by
    rw [cst_cons, if_neg (by decide), cst_nil, cst_nil, cst_nil']
    rfl
  have c2 : cst [⟨1, 1, 3, 0, 0, 0, 0, 0, 0, 0⟩] [⟨1, -1, 2, 0, 0, 0, 0, 0, 0, 0⟩, ⟨2, 0, 0, 0, 0, 0, 50, 0, 0, 0⟩] = 2 := by
    rw [cst_cons, if_neg (by decide), cst_nil, cst_nil, c1]
    rfl
  unfold kLA kLB
  rw [mnd_cons, c2, if_neg (fun h => absurd h.1 (by decide)), cst_nil, if_pos (by decide), mnd_ins, mnd_nil]
  rfl
end Go.Proofs.YtnmipejpjeakbaaGreatDoor
