/- The notes of a road, plain: things, their order, the links between them. -/
import Derived.Test.YtnmipejpjeakbaaGreatDoorPLink
import Derived.Test.YtnmipejpjeakbaaGreatDoorPCAppS
import Derived.Test.YtnmipejpjeakbaaGreatDoorPTStab
import Derived.Test.YtnmipejpjeakbaaGreatDoorPReadR
import Derived.Test.YtnmipejpjeakbaaGreatDoorPEdP
namespace Go.Proofs.YtnmipejpjeakbaaGreatDoor
open Go.RowKit Go.Shelf Go.Sort Go.Proofs

def thOf (a e : Int) (o : Fin 3) (n : NoteR) : ThR := ⟨a, e, o, n.k, n.tu, n.gr, n.lo, n.ch, n.ton, n.me, n.si, n.wa, n.ar⟩
def ThR.nt (t : ThR) : NoteR := ⟨t.nk, t.ntu, t.ngr, t.nlo, t.nch, t.nto, t.nme, t.nsi, t.nwa, t.nar⟩
def jTh (j : Junc) : ThR := thOf j.pos j.pos 0 ⟨7, 0, 0, 0, 0, 0, 0, 0, j.way, j.arms⟩
def cTh (c : Crest) : ThR := thOf c.pos c.pos 1 ⟨5, 0, 0, 0, 0, 0, 0, c.siz, 0, 0⟩
def kTh (b : BkR) (k : Corner) : ThR := thOf k.fr k.til 2 (cornN b k)
/-- What is noted of a road, not in order yet. -/
def things (b : BkR) (R : Road) : List ThR := R.js.map jTh ++ (R.cs.map cTh ++ (crns b.ga b.le R).map (kTh b))
/-- .. in order. -/
def sthings (b : BkR) (R : Road) : List ThR := ssort (fun x : ThR => x.pos) (things b R)
def mkL (b : BkR) : Int → Bool → List ThR → List NoteR
  | _, _, [] => []
  | e, f, t :: r => (linkN b (max 0 (t.at_ - e)) f).toList ++ t.nt :: mkL b (max e t.en) false r
/-- The notes of a road. -/
def makeL (b : BkR) (R : Road) : List NoteR := mkL b 0 true (sthings b R)
theorem ssort_mem {α : Type} (key : α → Int) {z : α} (l : List α) : z ∈ ssort key l → z ∈ l := by
  induction l using snoc_ind with
  | h0 => exact id
  | h1 l x ih =>
    intro h
    rw [ssort_snoc] at h
    rcases insR_mem key h with rfl | h
    · simp
    · exact List.mem_append_left _ (ih h)
theorem pOk_rad {p : Piece} (h : pOk p = true) : 0 ≤ p.rad ∧ p.rad ≤ 2000 := by
  unfold pOk at h
  simp only [Bool.and_eq_true] at h
  have h5 := h.2.2.2.2
  split at h5
  · have : p.rad = 0 := by simpa using h5
    omega
  · have : 5 ≤ p.rad ∧ p.rad ≤ 2000 := by simpa [inR] using h5
    omega
theorem crn_rads {R : Road} (hv : OK R) {gap least : Int} {c : Corner} (h : c ∈ crns gap least R) : (0 ≤ c.inn ∧ c.inn ≤ 2000) ∧ (0 ≤ c.out ∧ c.out ≤ 2000) := by
  unfold crns at h
  obtain ⟨g, hg, rfl⟩ := List.mem_map.1 (List.mem_filter.1 h).1
  have hb : ∀ e ∈ g, pOk e.2 = true := fun e he => by
    have h1 := grp_mem hg he
    unfold bds at h1
    have h2 := (List.mem_filter.1 h1).1
    exact hv.pk _ (its_mem R.ps 0 e (fun p hp => by have := pOk_len (hv.pk p hp); omega) h2).2.2
  have hne := grp_ne _ _ g hg
  obtain ⟨f, hf⟩ : ∃ f, g.head? = some f := by cases g with
    | nil => exact absurd rfl hne
    | cons a l => exact ⟨a, rfl⟩
  obtain ⟨l, hl⟩ : ∃ l, g.getLast? = some l := ⟨_, List.getLast?_eq_some_getLast hne⟩
  unfold crn
  rw [hf, hl]
  exact ⟨pOk_rad (hb f (List.mem_of_head? hf)), pOk_rad (hb l (List.mem_of_getLast? hl))⟩
theorem things_bd {b : BkR} {R : Road} (hv : OK R) : ∀ t ∈ things b R, (0 ≤ t.at_ ∧ t.at_ ≤ 100000) ∧ 0 ≤ t.en ∧ t.en ≤ 100000 := by
  intro t ht
  have hn := hv.n1
  rcases List.mem_append.1 ht with h | h
  · obtain ⟨j, hj, rfl⟩ := List.mem_map.1 h
    obtain ⟨i, hi, rfl⟩ := List.getElem_of_mem hj
    have h1 := (hv.jk i hi _ (List.getElem?_eq_getElem hi)).1
    simp only [inR, Bool.and_eq_true, decide_eq_true_eq] at h1
    exact ⟨⟨h1.1, by show R.js[i].pos ≤ _; omega⟩, h1.1, by show R.js[i].pos ≤ _; omega⟩
  rcases List.mem_append.1 h with h | h
  · obtain ⟨c, hc, rfl⟩ := List.mem_map.1 h
    obtain ⟨i, hi, rfl⟩ := List.getElem_of_mem hc
    have h1 := (hv.ck i hi _ (List.getElem?_eq_getElem hi)).1
    simp only [inR, Bool.and_eq_true, decide_eq_true_eq] at h1
    exact ⟨⟨h1.1, by show R.cs[i].pos ≤ _; omega⟩, h1.1, by show R.cs[i].pos ≤ _; omega⟩
  · obtain ⟨k, hk, rfl⟩ := List.mem_map.1 h
    have := crn_fine hv hk
    have h1 := this.lt
    have h2 := this.lo
    have h3 := this.hi
    exact ⟨⟨h2, by show k.fr ≤ _; omega⟩, by show 0 ≤ k.til; omega, by show k.til ≤ _; omega⟩
theorem sthings_bd {b : BkR} {R : Road} (hv : OK R) : ∀ t ∈ sthings b R, (0 ≤ t.at_ ∧ t.at_ ≤ 100000) ∧ 0 ≤ t.en ∧ t.en ≤ 100000 := fun t ht => things_bd hv t (ssort_mem _ _ ht)
theorem things_len {b : BkR} {R : Road} (hv : OK R) : (things b R).length ≤ 3200 := by
  have h1 := crns_len b.ga b.le R
  have h2 := hv.p2
  have h3 := hv.c1
  have h4 := hv.j1
  unfold things
  simp
  omega
theorem sthings_len {b : BkR} {R : Road} : (sthings b R).length = (things b R).length := ssort_len _ _
end Go.Proofs.YtnmipejpjeakbaaGreatDoor

/- Layer 2's examples, plain: the notes of the texts, the notes of the example road, the correction. No program in sight. -/
namespace Go.Proofs.YtnmipejpjeakbaaGreatDoor
open Go.RowKit Go.Shelf Go.Sort Go.Proofs

/-- R4 long tightens 3 50 into jump ! junction 2 of 3 -/
def kTxt : List UInt8 := [82, 52, 32, 108, 111, 110, 103, 32, 116, 105, 103, 104, 116, 101, 110, 115, 32, 51, 32, 53, 48, 32, 105, 110, 116, 111, 32, 106, 117, 109, 112, 32, 33, 32, 106, 117, 110, 99, 116, 105, 111, 110, 32, 50, 32, 111, 102, 32, 51]
def kLst : List NoteR := [⟨1, 1, 4, 1, 1, 3, 0, 0, 0, 0⟩, ⟨2, 0, 0, 0, 0, 0, 50, 0, 0, 0⟩, ⟨3, 0, 0, 0, 0, 0, 0, 0, 0, 0⟩, ⟨5, 0, 0, 0, 0, 0, 0, 2, 0, 0⟩, ⟨6, 0, 0, 0, 0, 0, 0, 1, 0, 0⟩, ⟨7, 0, 0, 0, 0, 0, 0, 0, 2, 3⟩]
/-- L3 opens 3 -/
def kTxt2 : List UInt8 := [76, 51, 32, 111, 112, 101, 110, 115, 32, 51]
/-- 100 R3 long tightens 2 50 jump -/
def kTxt3 : List UInt8 := [49, 48, 48, 32, 82, 51, 32, 108, 111, 110, 103, 32, 116, 105, 103, 104, 116, 101, 110, 115, 32, 50, 32, 53, 48, 32, 106, 117, 109, 112]
def kLst3 : List NoteR := [⟨2, 0, 0, 0, 0, 0, 100, 0, 0, 0⟩, ⟨1, 1, 3, 1, 1, 2, 0, 0, 0, 0⟩, ⟨2, 0, 0, 0, 0, 0, 50, 0, 0, 0⟩, ⟨5, 0, 0, 0, 0, 0, 0, 2, 0, 0⟩]
def kBook : BkR := ⟨[20, 40, 60, 100, 200], 300, 1200, 150, 10, 30, 10, 20, 100⟩
theorem itoa_d (m : Nat) (h : m < 10) : Lib.itoa (m : Nat) = [UInt8.ofNat (48 + m)] := by
  rw [Lib.itoa_nonneg, Lib.decDigits, dif_pos h]
theorem itoa_dd (m : Nat) (h : ¬ m < 10) (h2 : m / 10 < 10) : Lib.itoa (m : Nat) = [UInt8.ofNat (48 + m / 10), UInt8.ofNat (48 + m % 10)] := by
  rw [Lib.itoa_nonneg, Lib.decDigits, dif_neg h, Lib.decDigits, dif_pos h2]
  rfl
theorem itoa_2 : Lib.itoa 2 = [50] := itoa_d 2 (by decide)
theorem itoa_3 : Lib.itoa 3 = [51] := itoa_d 3 (by decide)
theorem itoa_4 : Lib.itoa 4 = [52] := itoa_d 4 (by decide)
theorem itoa_50 : Lib.itoa 50 = [53, 48] := itoa_dd 50 (by decide) (by decide)
theorem itoa_100 : Lib.itoa 100 = [49, 48, 48] := by
  show Lib.itoa ((100 : Nat) : Int) = _
  rw [Lib.itoa_nonneg, Lib.decDigits, dif_neg (by decide), Lib.decDigits, dif_neg (by decide), Lib.decDigits, dif_pos (by decide)]
  rfl
theorem kLst_val : kLst.all nVal = true := by decide
theorem kLst_txt : nJoin kLst = kTxt := by
  simp [nJoin, kLst, kTxt, nTxt, itoa_2, itoa_3, itoa_4, itoa_50, Lib.join, List.intercalate]
theorem kLst3_txt : nJoin kLst3 = kTxt3 := by
  simp [nJoin, kLst3, kTxt3, nTxt, itoa_2, itoa_3, itoa_50, itoa_100, Lib.join, List.intercalate]
theorem kRead : readB kTxt = some kLst := by
  rw [← kLst_txt]
  exact read_write kLst kLst_val
theorem kRead2 : readB kTxt2 = none := by
  have h : wordsB kTxt2 = [[76, 51], wOpens, [51]] := by decide
  unfold readB
  rw [h]
  exact pAll_none (by simp) (by decide)
theorem kBook_ok : BkOK kBook := by
  constructor <;> decide
theorem kMake : makeL kBook exR = kLst3 := by
  have h : crns kBook.ga kBook.le exR = crns 20 100 exR := rfl
  unfold makeL sthings things
  rw [h]
  have hc : crns 20 100 exR = [⟨100, 200, 1, 30, 50, 30, 2000⟩] := by kernel_rfl
  rw [hc]
  have hs : ssort (fun x : ThR => x.pos) (exR.js.map jTh ++ (exR.cs.map cTh ++ [(⟨100, 200, 1, 30, 50, 30, 2000⟩ : Corner)].map (kTh kBook))) = [kTh kBook ⟨100, 200, 1, 30, 50, 30, 2000⟩, cTh ⟨250, 2⟩] := by kernel_rfl
  rw [hs]
  show mkL kBook 0 true [kTh kBook ⟨100, 200, 1, 30, 50, 30, 2000⟩, cTh ⟨250, 2⟩] = kLst3
  decide
theorem kGrade : gradeI kBook 20 = 2 := by decide
def kLA : List NoteR := [⟨1, 1, 3, 0, 0, 0, 0, 0, 0, 0⟩]
def kLB : List NoteR := [⟨1, -1, 2, 0, 0, 0, 0, 0, 0, 0⟩, ⟨2, 0, 0, 0, 0, 0, 50, 0, 0, 0⟩]
theorem kMnd : mnd 0 kLA kLB = [⟨0, 3, ⟨1, -1, 2, 0, 0, 0, 0, 0, 0, 0⟩⟩, ⟨1, 1, ⟨2, 0, 0, 0, 0, 0, 50, 0, 0, 0⟩⟩] := by
  have c1 : cst [⟨1, 1, 3, 0, 0, 0, 0, 0, 0, 0⟩] [⟨2, 0, 0, 0, 0, 0, 50, 0, 0, 0⟩] = 1 := by
    rw [cst_cons, if_neg (by decide), cst_nil, cst_nil, cst_nil']
    rfl
  have c2 : cst [⟨1, 1, 3, 0, 0, 0, 0, 0, 0, 0⟩] [⟨1, -1, 2, 0, 0, 0, 0, 0, 0, 0⟩, ⟨2, 0, 0, 0, 0, 0, 50, 0, 0, 0⟩] = 2 := by
    rw [cst_cons, if_neg (by decide), cst_nil, cst_nil, c1]
    rfl
  unfold kLA kLB
  rw [mnd_cons, c2, if_neg (fun h => absurd h.1 (by decide)), cst_nil, if_pos (by decide), mnd_ins, mnd_nil]
  rfl
end Go.Proofs.YtnmipejpjeakbaaGreatDoor
