/- How far one sees: what the answer is, and the reference's walk. -/
import Derived.Test.YtomloklckpcaiaaZUpto
import Derived.Test.YtomloklckpcaiaaZReg
import Derived.Deep.CutBlock
namespace Go.Proofs.Ytomloklckpcaiaa
open Go.RowKit Go.Shelf Go.Sort Go.Proofs

/-- The first crest behind the place (n + 1: there is none). -/
def nxt (n pl : Int) : List Crest → Int
  | [] => n + 1
  | c :: cs => if pl < c.pos then c.pos else nxt n pl cs
/-- The turning from pl to q is at most an. -/
def okq (ps : List Piece) (an pl q : Int) : Prop := -an ≤ upt ps q - upt ps pl ∧ upt ps q - upt ps pl ≤ an
/-- r meters are seen, where lim is the most that can be. -/
structure SI (ps : List Piece) (an pl lim r : Int) : Prop where
  r0 : 0 ≤ r
  r1 : r ≤ lim
  all : ∀ q, pl < q → q ≤ pl + r → okq ps an pl q
  stop : r = lim ∨ ¬ okq ps an pl (pl + r + 1)
theorem SI.exists_ (ps : List Piece) (an pl lim : Int) (h : 0 ≤ lim) : ∃ r, SI ps an pl lim r := by
  have key : ∀ n : Nat, ∀ d : Int, 0 ≤ d → d + n = lim → (∀ q, pl < q → q ≤ pl + d → okq ps an pl q) → ∃ r, SI ps an pl lim r := by
    intro n
    induction n with
    | zero => intro d h0 h1 h2; exact ⟨d, h0, by omega, h2, .inl (by omega)⟩
    | succ n ih =>
      intro d h0 h1 h2
      by_cases hq : okq ps an pl (pl + d + 1)
      · refine ih (d + 1) (by omega) (by omega) (fun q hq1 hq2 => ?_)
        by_cases hqd : q ≤ pl + d
        · exact h2 q hq1 hqd
        · rw [show q = pl + d + 1 by omega]; exact hq
      · exact ⟨d, h0, by omega, h2, .inr hq⟩
  exact key lim.toNat 0 (by omega) (by omega) (fun q h1 h2 => absurd h1 (by omega))
theorem SI.uniq {ps : List Piece} {an pl lim r s : Int} (h : SI ps an pl lim r) (k : SI ps an pl lim s) : r = s := by
  rcases Int.lt_trichotomy r s with hlt | heq | hgt
  · rcases h.stop with h1 | h1
    · have := k.r1; omega
    · exact absurd (k.all (pl + r + 1) (by have := h.r0; omega) (by omega)) h1
  · exact heq
  · rcases k.stop with h1 | h1
    · have := h.r1; omega
    · exact absurd (h.all (pl + s + 1) (by have := k.r0; omega) (by omega)) h1
theorem SI.more {ps : List Piece} {an an' pl lim lim' r s : Int} (h : SI ps an pl lim r) (k : SI ps an' pl lim' s) (h1 : an ≤ an') (h2 : lim ≤ lim') : r ≤ s := by
  rcases Int.lt_or_le s r with hlt | hle
  · rcases k.stop with h3 | h3
    · have := h.r1; omega
    · have := h.all (pl + s + 1) (by have := k.r0; omega) (by omega)
      exact absurd ⟨by have := this.1; omega, by have := this.2; omega⟩ h3
  · exact hle
/-- The most that can be seen. -/
def lim (R : Road) (mo pl : Int) : Int := min (min mo (sumL R.ps - pl)) (nxt (sumL R.ps) pl R.cs - pl)
theorem nxt_gt (n pl : Int) (h : pl ≤ n) : ∀ cs : List Crest, pl < nxt n pl cs
  | [] => by simp [nxt]; omega
  | c :: cs => by
    unfold nxt
    split
    · assumption
    · exact nxt_gt n pl h cs
def eyesOk (an mo : Int) : Bool := inR an 1 10000 && inR mo 1 5000
end Go.Proofs.Ytomloklckpcaiaa

/- The search for sight, piece by piece: that what the loop gathers is the sight. Plain; no program. -/
namespace Go.Proofs.Ytomloklckpcaiaa
open Go.RowKit Go.Proofs

theorem trn_zero (p : Piece) (ht : tOk p) : trn p 0 = 0 := by
  unfold trn
  split
  · rfl
  · rename_i hn
    obtain ⟨h1, h2⟩ := ht.2.2 hn
    have : rnd (1000 * 0) p.rad = 0 := by
      unfold rnd
      rw [if_neg (by omega)]
      exact Int.ediv_eq_zero_of_lt (by omega) (by omega)
    rw [this, Int.mul_zero]
/-- The turning of whole pieces. -/
def bfP (l : List Piece) : Int := (l.map fun p => trn p p.len).sum
theorem upt_whole : ∀ (l : List Piece) (x : Int), (∀ p ∈ l, pOk p = true) → sumL l ≤ x → upt l x = bfP l
  | [], _, _, _ => rfl
  | p :: l, x, h, hx => by
    have hp := (pOk_len (h p (List.mem_cons_self ..))).1
    have e : sumL (p :: l) = p.len + sumL l := by simp [sumL]
    have hs := (sumL_bd l (fun q hq => h q (List.mem_cons_of_mem _ hq))).1
    rw [e] at hx
    rw [upt, if_neg (by omega), upt_whole l (x - p.len) (fun q hq => h q (List.mem_cons_of_mem _ hq)) (by omega), Int.min_eq_right (by omega)]
    simp [bfP]
theorem upt_at (ps : List Piece) (k : Nat) (h : k < ps.length) (hk : ∀ p ∈ ps, pOk p = true) (q : Int) (h0 : sumL (ps.take k) ≤ q) (h1 : q ≤ sumL (ps.take k) + ps[k].len) :
    upt ps q = bfP (ps.take k) + trn ps[k] (q - sumL (ps.take k)) := by
  have e := upt_append (ps.take k) (ps.drop k) q (fun p hp => hk p (List.mem_of_mem_take hp))
  rw [List.take_append_drop, upt_whole _ _ (fun p hp => hk p (List.mem_of_mem_take hp)) h0, List.drop_eq_getElem_cons h, upt] at e
  rw [e]
  split
  · rw [show q - sumL (ps.take k) = 0 by omega, trn_zero _ (pOk_tOk (hk _ (List.getElem_mem h)))]
  · rw [Int.min_eq_left (by omega), upt_neg _ _ (by omega), Int.add_zero]
section
variable (pl M an bg : Int)
/-- What has been gathered when pre has come: the turning of the whole pieces; how far is seen. -/
def bfr (pre : List (Int × Piece)) : Int := (pre.map fun e => trn e.2 e.2.len).sum
def sfd (pre : List (Int × Piece)) : Int := pre.foldl (fun s e => if e.1 + e.2.len ≤ pl then s else e.1 + e.2.len) pl
/-- The turning to q, by the loop's reckoning, is at most an. -/
def okL (b : Int) (e : Int × Piece) (q : Int) : Prop := -an ≤ b + trn e.2 (q - e.1) - bg ∧ b + trn e.2 (q - e.1) - bg ≤ an
/-- The loop goes on behind the piece e. -/
def goes (b : Int) (e : Int × Piece) : Prop := e.1 + e.2.len ≤ pl ∨ (pl < e.1 + e.2.len ∧ e.1 + e.2.len ≤ pl + M ∧ ∀ q, max pl e.1 ≤ q → q ≤ e.1 + e.2.len → okL an bg b e q)
def NB : Int → List (Int × Piece) → Prop
  | _, [] => True
  | b, e :: l => goes pl M an bg b e ∧ NB (b + trn e.2 e.2.len) l
theorem bfr_snoc (pre : List (Int × Piece)) (e : Int × Piece) : bfr (pre ++ [e]) = bfr pre + trn e.2 e.2.len := by simp [bfr]
theorem sfd_snoc (pre : List (Int × Piece)) (e : Int × Piece) : sfd pl (pre ++ [e]) = if e.1 + e.2.len ≤ pl then sfd pl pre else e.1 + e.2.len := by simp [sfd]
theorem NB_snoc : ∀ (l : List (Int × Piece)) (b : Int) (e : Int × Piece), NB pl M an bg b (l ++ [e]) ↔ NB pl M an bg b l ∧ goes pl M an bg (b + bfr l) e
  | [], b, e => by simp [NB, bfr]
  | d :: l, b, e => by
    rw [List.cons_append, NB, NB, NB_snoc l, and_assoc]
    have : b + trn d.2 d.2.len + bfr l = b + bfr (d :: l) := by simp [bfr]; omega
    rw [this]
/-- The loop leaves at the piece e, having seen s. -/
def stops (b : Int) (e : Int × Piece) (s0 s : Int) : Prop :=
  pl < e.1 + e.2.len ∧
  ((∃ q0, max pl e.1 ≤ q0 ∧ q0 ≤ e.1 + e.2.len ∧ q0 ≤ pl + M ∧ ¬ okL an bg b e q0 ∧ (∀ q, max pl e.1 ≤ q → q < q0 → okL an bg b e q) ∧ s = if q0 = max pl e.1 then s0 else q0 - 1) ∨
   (pl + M < e.1 + e.2.len ∧ (∀ q, max pl e.1 ≤ q → q ≤ pl + M → okL an bg b e q) ∧ s = if max pl e.1 ≤ pl + M then pl + M else s0))
end
theorem bfr_its : ∀ (l : List Piece) (b : Int), bfr (its b l) = bfP l
  | [], _ => rfl
  | p :: l, b => by
    have := bfr_its l (b + p.len)
    simp only [its, bfr, bfP, List.map_cons, List.sum_cons] at this ⊢
    rw [this]
section
variable {ps : List Piece} {pl M an : Int}
/-- When k pieces are passed: all places up to there are seen. -/
theorem NB_seen (hk : ∀ p ∈ ps, pOk p = true) (h0 : 0 ≤ pl) (k : Nat) (hkl : k ≤ ps.length) (h : NB pl M an (upt ps pl) 0 (its 0 (ps.take k))) :
    (∀ q, pl < q → q ≤ sumL (ps.take k) → okq ps an pl q) ∧ (pl < sumL (ps.take k) → sumL (ps.take k) ≤ pl + M) ∧ sfd pl (its 0 (ps.take k)) = max pl (sumL (ps.take k)) := by
  induction k with
  | zero =>
    have e : sumL (ps.take 0) = 0 := by simp [sumL]
    rw [e]
    exact ⟨fun q h1 h2 => by omega, fun h1 => by omega, by simp [sfd, its]; omega⟩
  | succ k ih =>
    have hl : k < ps.length := by omega
    rw [← its_take_its, its_take ps k hl, its_take_its] at h ⊢
    obtain ⟨h1, h2⟩ := (NB_snoc pl M an (upt ps pl) _ _ _).1 h
    obtain ⟨i1, i2, i3⟩ := ih (by omega) h1
    rw [Int.zero_add, bfr_its] at h2
    have hp := pOk_len (hk _ (List.getElem_mem hl))
    rw [sfd_snoc, i3, sumL_take ps k hl]
    refine ⟨fun q hq1 hq2 => ?_, fun hlt => ?_, ?_⟩
    · by_cases hq : q ≤ sumL (ps.take k)
      · exact i1 q hq1 hq
      · rcases h2 with h2 | ⟨_, _, h3⟩
        · simp at h2; omega
        · have := h3 q (by simp; omega) (by simp; omega)
          unfold okq
          rw [upt_at ps k hl hk q (by omega) (by omega)]
          exact this
    · rcases h2 with h2 | ⟨_, h3, _⟩
      · simp at h2; omega
      · simpa using h3
    · split
      · rename_i h3; simp at h3; omega
      · rename_i h3; simp at h3; simp; omega
/-- All pieces are passed. -/
theorem SI_done (hk : ∀ p ∈ ps, pOk p = true) (h0 : 0 ≤ pl) (h1 : pl ≤ sumL ps) (hM : M ≤ sumL ps - pl) (hM0 : 0 ≤ M) (h : NB pl M an (upt ps pl) 0 (its 0 ps)) : SI ps an pl M (sfd pl (its 0 ps) - pl) := by
  have := NB_seen (ps := ps) hk h0 ps.length (Nat.le_refl _) (by rw [List.take_length]; exact h)
  rw [List.take_length] at this
  obtain ⟨i1, i2, i3⟩ := this
  rw [i3]
  refine ⟨by omega, ?_, fun q hq1 hq2 => i1 q hq1 (by omega), .inl ?_⟩
  · by_cases hlt : pl < sumL ps
    · have := i2 hlt; omega
    · omega
  · by_cases hlt : pl < sumL ps
    · have := i2 hlt; omega
    · omega
/-- It leaves at piece k. -/
theorem SI_stop (hk : ∀ p ∈ ps, pOk p = true) (h0 : 0 ≤ pl) (hM0 : 0 ≤ M) (ha : 0 ≤ an) (k : Nat) (hl : k < ps.length) (s : Int) (h : NB pl M an (upt ps pl) 0 (its 0 (ps.take k)))
    (hs : stops pl M an (upt ps pl) (bfr (its 0 (ps.take k))) (sumL (ps.take k), ps[k]) (sfd pl (its 0 (ps.take k))) s) : SI ps an pl M (s - pl) := by
  obtain ⟨i1, i2, i3⟩ := NB_seen hk h0 k (by omega) h
  rw [i3, bfr_its] at hs
  have hp := pOk_len (hk _ (List.getElem_mem hl))
  have hok : ∀ q, sumL (ps.take k) ≤ q → q ≤ sumL (ps.take k) + ps[k].len → (okL an (upt ps pl) (bfP (ps.take k)) (sumL (ps.take k), ps[k]) q ↔ okq ps an pl q) := fun q g1 g2 => by
    unfold okL okq
    rw [upt_at ps k hl hk q g1 g2]
  have hself : okq ps an pl pl := ⟨by omega, by omega⟩
  obtain ⟨hend, hs⟩ := hs
  simp only at hend
  rcases hs with ⟨q0, g1, g2, g3, g4, g5, rfl⟩ | ⟨g1, g2, rfl⟩
  · simp only at g1 g2 g3 g4 g5 ⊢
    have hq0 : ¬ q0 = max pl (sumL (ps.take k)) := by
      intro e
      refine g4 ((hok q0 (by omega) g2).2 ?_)
      by_cases hlt : pl < sumL (ps.take k)
      · exact i1 q0 (by omega) (by omega)
      · rw [show q0 = pl by omega]; exact hself
    rw [if_neg hq0]
    refine ⟨by omega, by omega, fun q hq1 hq2 => ?_, .inr ?_⟩
    · by_cases hq : q ≤ sumL (ps.take k)
      · exact i1 q hq1 hq
      · exact (hok q (by omega) (by omega)).1 (g5 q (by omega) (by omega))
    · rw [show pl + (q0 - 1 - pl) + 1 = q0 by omega]
      exact fun h => g4 ((hok q0 (by omega) g2).2 h)
  · simp only at g1 g2 ⊢
    have hle : max pl (sumL (ps.take k)) ≤ pl + M := by
      by_cases hlt : pl < sumL (ps.take k)
      · have := i2 hlt; omega
      · omega
    rw [if_pos hle]
    refine ⟨by omega, by omega, fun q hq1 hq2 => ?_, .inl (by omega)⟩
    by_cases hq : q ≤ sumL (ps.take k)
    · exact i1 q hq1 hq
    · exact (hok q (by omega) (by omega)).1 (g2 q (by omega) (by omega))
end
end Go.Proofs.Ytomloklckpcaiaa

/- road.Sight: the search piece by piece, over the iterator. -/
namespace Go.Proofs.Ytomloklckpcaiaa
open Go.RowKit Go.Shelf Go.Sort Go.Proofs

attribute [local go_sem] Oper.semAt_some

/-- The loop has left at the last piece that came, having seen s. -/
def StopAt (pl M an bg : Int) (pre : List BP) (s : Int) : Prop :=
  ∃ ini last, pre = ini ++ [last] ∧ NB pl M an bg 0 (ini.map (·.1)) ∧ stops pl M an bg (bfr (ini.map (·.1))) last.1 (sfd pl (ini.map (·.1))) s
theorem bfr_bd : ∀ (pre : List BP), -(200000000 * (pre.length : Int)) ≤ bfr (pre.map (·.1)) ∧ bfr (pre.map (·.1)) ≤ 200000000 * (pre.length : Int)
  | [] => by simp [bfr]
  | e :: pre => by
    have ih := bfr_bd pre
    have hp := pOk_len e.2.1
    have ht := trn_bd e.1.2 e.1.2.len (by omega) (by omega) (pOk_tOk e.2.1)
    simp only [bfr, List.map_cons, List.sum_cons, List.length_cons] at *
    omega
set_option maxRecDepth 100000 in
set_option maxHeartbeats 4000000 in
theorem Sight_w (an mo pl r : Int) (pa : Option Addr) (pn pc : Nat) (ca : Option Addr) (cn cc : Nat) (ja : Option Addr) (jn jc : Nat) (R : Road) (w : World)
    (h : RD w w.heap.size pa pn ca cn ja jn R) (hv : OK R) (he : eyesOk an mo = true) (h0 : 0 ≤ pl) (h1 : pl ≤ sumL R.ps) (hs : SI R.ps an pl (lim R mo pl) r) :
    CallsIn Fence.wide 6 Try.prog 31 #[.agg #[.slice pa pn pc, .slice ca cn cc, .slice ja jn jc], .agg #[.int .i64 an, .int .i64 mo], .int .i64 pl] w fun e w' => e = .returned (.tuple #[.int .i64 r, .int .i64 0]) ∧ Below w.heap.size w w' := by
  have hR := Lib.hid h
  have hC := h.c
  have hv' := Lib.hid hv
  have hs' := Lib.hid hs
  have hlc := Lib.hid h.c.1
  have hpn : pn ≤ 2000 := by rw [h.p.1]; exact hv.p2
  have hcn : cn ≤ 1000 := by rw [h.c.1]; exact hv.c1
  have hln1 := hv.len.1
  have hln2 := hv.len.2
  have hc := Lib.hid (chk_ok hv)
  simp only [eyesOk, Bool.and_eq_true] at he
  obtain ⟨hea, heb⟩ := he
  have hE1 := Lib.hid hea
  have hE2 := Lib.hid heb
  simp only [inR, Bool.and_eq_true, decide_eq_true_eq] at hea heb
  obtain ⟨he1, he2⟩ := hea
  obtain ⟨he3, he4⟩ := heb
  have hPL := Lib.hid (show inR pl 0 (sumL R.ps) = true by simp [inR, h0, h1])
  have hmo : Try.prog.follows .mixedOrders = true := by kernel_rfl
  clear h hv hs
  obtain ⟨w0, hw0⟩ : ∃ w0, w0 = ((w.alloc (.cells #[.slice pa pn pc, .slice ca cn cc, .slice ja jn jc] 26)).alloc (.cells #[.int .i64 an, .int .i64 mo] 56)).alloc (.cells #[.int .i64 pl] 3) := ⟨_, rfl⟩
  have hW0 : Below w.heap.size w w0 := by rw [hw0]; exact (((Below.refl w.heap.size w).alloc (Nat.le_refl _) _).alloc (by simp) _).alloc (by simp; omega) _
  have b0 : BK w0 w.heap.size 26 #[.slice pa pn pc, .slice ca cn cc, .slice ja jn jc] := by rw [hw0]; exact ((BK.new w _ _).alloc _).alloc _
  have b1 : BK w0 (w.heap.size + 1) 56 #[.int .i64 an, .int .i64 mo] := by rw [hw0]; have := (BK.new (w.alloc (.cells #[.slice pa pn pc, .slice ca cn cc, .slice ja jn jc] 26)) 56 #[.int .i64 an, .int .i64 mo]); rw [World.size_alloc] at this; exact this.alloc _
  have b2 : BK w0 (w.heap.size + 2) 3 #[.int .i64 pl] := by rw [hw0]; have := (BK.new ((w.alloc (.cells #[.slice pa pn pc, .slice ca cn cc, .slice ja jn jc] 26)).alloc (.cells #[.int .i64 an, .int .i64 mo] 56)) 3 #[.int .i64 pl]); rw [World.size_alloc, World.size_alloc] at this; exact this
  have hz0 : w.heap.size + 2 < w0.heap.size := b2.lt
  refine callsIn_of_wp_marks Try.func31 rfl trivial ?_ rfl
  simp only [Try.ntmps31, List.size_toArray, List.length_cons, List.length_nil, Nat.reduceAdd, Nat.reduceSub, Array.replicate_succ, Array.replicate_zero, List.push_toArray, List.append_toArray, List.nil_append, List.cons_append]
  refine wpIn_wide.2 ?_
  go_wp2_with fail
  go_step3
  rw [← hw0]
  clear hw0
  have r0 := b0.cell 0
  have r1 := b0.cell 1
  have r2 := b0.cell 2
  have r3 := b1.cell 0
  have r4 := b1.cell 1
  have r5 := b2.cell 0
  simp only [List.getElem?_toArray, List.getElem?_cons_zero, List.getElem?_cons_succ] at r0 r1 r2 r3 r4 r5
  go_wp2_with fail
  refine (Check_any _ _ _ _ _ _ _ _ _ R _ (hR.out.grow hW0 hW0.size)).mono ?_
  rintro e w1 ⟨rfl, hb1⟩
  rw [hc.out]
  have hB1 := onto hW0 hb1 hW0.size
  have B0 := b0.below hb1 b0.lt
  have B1 := b1.below hb1 b1.lt
  have B2 := b2.below hb1 b2.lt
  have r0' := (bc hb1 b0.lt).trans r0
  have r1' := (bc hb1 b0.lt).trans r1
  have r2' := (bc hb1 b0.lt).trans r2
  have r3' := (bc hb1 b1.lt).trans r3
  have r4' := (bc hb1 b1.lt).trans r4
  have r5' := (bc hb1 b2.lt).trans r5
  clear r0 r1 r2 r3 r4 r5
  go_wp2_with fail
  refine (within_any _ _ _ _).mono ?_
  rintro e w3 ⟨rfl, rfl⟩
  rw [hE1.out]
  go_wp2_with fail
  refine (within_any _ _ _ _).mono ?_
  rintro e w3 ⟨rfl, rfl⟩
  rw [hE2.out]
  go_wp2_with fail
  refine (measure_any _ _ _ _ _ _ _ _ _ R _ (hR.out.grow hB1 hB1.size) hv'.out.pk (by omega)).mono ?_
  rintro e w2 ⟨g, ba, bq, rfl, hM, hg, hb2⟩
  have hM' := Lib.hid hM
  have hB2 := onto hB1 hb2 hB1.size
  have B0 := B0.below hb2 B0.lt
  have B1 := B1.below hb2 B1.lt
  have B2 := B2.below hb2 B2.lt
  have hz1 := Nat.lt_of_lt_of_le hz0 hb1.size
  have r1 := (bc hb2 (b := w.heap.size) (by omega)).trans r1'
  have r3 := (bc hb2 (b := w.heap.size + 1) (by omega)).trans r3'
  have r4 := (bc hb2 (b := w.heap.size + 1) (by omega)).trans r4'
  have r5 := (bc hb2 (b := w.heap.size + 2) (by omega)).trans r5'
  clear hM r0' r1' r2' r3' r4' r5'
  go_wp2_with fail
  go_quiet (first | (go_at_call 57; exact Calls.quiet_of (mlength_any g _ _ _ _ _ _ _ _ _ _ _ R _ _ (hM'.out.drewN _) (by omega))) | (go_at_call 56; exact Calls.quiet_of_same ((within_any _ _ _ _).mono fun _ _ ⟨a, b⟩ => ⟨a, b.symm⟩)))
  rw [hPL.out]
  obtain ⟨w3, hw3⟩ : ∃ w3, w3 = w2.drewN nq := ⟨_, rfl⟩
  have hB3 : Below w.heap.size w w3 := by rw [hw3]; exact below_drewN hB2 _
  have hM3 : Hid (MS w3 w3.heap.size g pa pn pc ca cn cc ja jn jc ba bq R) := by rw [hw3]; exact hM'.out.drewN nq
  have hz3 : w1.heap.size ≤ w3.heap.size := by rw [hw3]; exact hb2.size
  rw [show w2.cell? ⟨w.heap.size, 1, none⟩ = w3.cell? ⟨w.heap.size, 1, none⟩ by rw [hw3]; rfl] at r1
  rw [show w2.cell? ⟨w.heap.size + 1, 0, none⟩ = w3.cell? ⟨w.heap.size + 1, 0, none⟩ by rw [hw3]; rfl] at r3
  rw [show w2.cell? ⟨w.heap.size + 1, 1, none⟩ = w3.cell? ⟨w.heap.size + 1, 1, none⟩ by rw [hw3]; rfl] at r4
  rw [show w2.cell? ⟨w.heap.size + 2, 0, none⟩ = w3.cell? ⟨w.heap.size + 2, 0, none⟩ by rw [hw3]; rfl] at r5
  rw [← hw3]
  clear hw3 hM' B0 B1 B2 hb2 hg
  obtain ⟨N, hN⟩ : ∃ N, N = sumL R.ps := ⟨_, rfl⟩
  have hLim : Hid (lim R mo pl = min (min mo (N - pl)) (nxt N pl R.cs - pl)) := by rw [hN]; exact rfl
  have hML := Lib.hid (fun W hW => hN ▸ mlength_any g pa pn pc ca cn cc ja jn jc ba bq R W w3.heap.size hW (by omega))
  rw [← hN] at h1 hln1 hln2
  obtain ⟨M0, hM0⟩ : ∃ M0, M0 = min mo (N - pl) := ⟨_, rfl⟩
  have hw1 : IntKind.i64.wrap (N - pl) = N - pl := IntWalk.i64_in _ (by omega)
  have hite : (if N - pl < mo then N - pl else mo) = M0 := by rw [hM0]; split <;> omega
  have hM01 : 0 ≤ M0 := by omega
  have hM02 : M0 ≤ 5000 := by omega
  rw [← hM0] at hLim
  have HN := Lib.hid hN
  have HM0 := Lib.hid hM0
  clear hN hM0
  go_wp2_with fail
  refine wp_region_qat 7 3 #[.int .i64 0] 9 _ hmo rfl rfl rfl (fun a w => rfl) (by kernel_rfl) ?_
  simp only [List.take_succ_cons, List.take_zero, List.drop_succ_cons, List.drop_zero]
  have q4 := fun d os => cell_regrown r4 d os
  have q5 := fun d os => cell_regrown r5 d os
  repeat (refine wpTame_step (fun K hK => ?_); go_simp; first | (refine hK _ ?_; clear hK K) | (apply Exists.intro; refine ⟨fun _ => ?_, hK _ ?_⟩; ((go_at_call 57; refine (hML.out _ (hM3.out.grow (below_regrown _ _ _) (Nat.le_refl _))).mono ?_; rintro e w4 ⟨rfl, n, rfl⟩; exact ⟨rfl, below_drewN (Below.refl _ _) _⟩)); clear hK K))
  refine wpTame_nil ?_
  intro t9 w4 hb4 ht9 hk9
  have hB4 := onto hB3 hb4 hB3.size
  have hz4 := hb4.size
  have s1 := (bc hb4 (b := w.heap.size) (o := 1) (by omega)).trans r1
  have s3 := (bc hb4 (b := w.heap.size + 1) (o := 0) (by omega)).trans r3
  have s5 := (bc hb4 (b := w.heap.size + 2) (o := 0) (by omega)).trans r5
  have s9 := hk9.cell 0
  have f9 := hk9.frozen 0
  simp only [List.getElem?_toArray, List.getElem?_cons_zero] at s9
  clear q4 q5
  go_upto_block 0 with fail
  obtain ⟨w5, hw5⟩ : ∃ w5, w5 = w4.setCell ⟨t9, 0, none⟩ (.int .i64 M0) := ⟨_, rfl⟩
  have hb5 : Below w3.heap.size w3 w5 := by rw [hw5]; exact hb4.setCell ht9 _
  have hk5 : BK w5 t9 3 #[.int .i64 M0] := by rw [hw5]; exact hk9.set_ 0 _
  have hz5 : w4.heap.size = w5.heap.size := by rw [hw5]; simp
  rw [← hw5]
  have s3 := (bc hb5 (b := w.heap.size + 1) (o := 0) (by omega)).trans r3
  have s5 := (bc hb5 (b := w.heap.size + 2) (o := 0) (by omega)).trans r5
  have s9 := hk5.cell 0
  have f9 := hk5.frozen 0
  simp only [List.getElem?_toArray, List.getElem?_cons_zero] at s9
  clear hw5 hb4 hk9 hB4 s1
  have ht5 : t9 < w5.heap.size := hk5.lt
  have hM5 : Hid (MS w5 w3.heap.size g pa pn pc ca cn cc ja jn jc ba bq R) := hM3.out.grow hb5 (Nat.le_refl _)
  have hC5 := hC.grow (onto hB3 hb5 hB3.size) (hB3.size)
  go_cut [] from 20 (fun w' => Below w3.heap.size w3 w' ∧ BK w' t9 3 #[.int .i64 (lim R mo pl)])
  case first =>
    go_wp2_with fail
    go_loopw [52] (fun i wr => ∃ k : Nat, k ≤ cn ∧ i = .int .i64 k ∧ Below w5.heap.size w5 wr ∧ Hid (lim R mo pl = min M0 (nxt N pl (R.cs.drop k) - pl)))
      (fun i _ => cn - (intOf i).toNat)
    case atStart => exact ⟨0, Nat.zero_le _, rfl, Below.refl _ _, hLim⟩
    case round =>
      obtain ⟨k, hk, rfl, hb6, hL⟩ := hrel
      have u3 := (bc hb6 (b := w.heap.size + 1) (o := 0) (by omega)).trans s3
      have u5 := (bc hb6 (b := w.heap.size + 2) (o := 0) (by omega)).trans s5
      have u9 := (bc hb6 (b := t9) (o := 0) (by omega)).trans s9
      have u5' : wr.cell? ⟨w.heap.size + 1 + 1, 0, none⟩ = some (.int .i64 pl) := u5
      have hsz0 : w.heap.size < wr.heap.size := by have := hb6.size; omega
      have hsz1 : w.heap.size + 1 < wr.heap.size := by have := hb6.size; omega
      have hsz2 : w.heap.size + 1 + 1 < wr.heap.size := by have := hb6.size; omega
      have hsz9 : t9 < wr.heap.size := by have := hb6.size; omega
      have uf := (bf hb6 (b := t9) (o := 0) (by omega)).trans f9
      have hk6 := hk5.below hb6 ht5
      have hz6 := hb6.size
      have hb6' : Below w3.heap.size w3 wr := hb5.trans (hb6.mono (by omega))
      by_cases hlt : k < cn
      · have hkl : k < R.cs.length := by rw [← hlc.out]; exact hlt
        obtain ⟨b, off, hA, hbB, c0, c1⟩ := CS.at_ (hC5.grow (hb6.mono (by omega)) (Nat.le_refl _)) (k := k) hkl
        have hL2 := hL.out
        rw [List.drop_eq_getElem_cons hkl, nxt] at hL2
        have hcb := (hv'.out.ck k hkl _ (List.getElem?_eq_getElem hkl)).1
        rw [← HN.out] at hcb
        simp only [inR, Bool.and_eq_true, decide_eq_true_eq] at hcb
        generalize R.cs[k]'hkl = c at c0 c1 hL2 hcb
        clear hkl hL
        subst hA
        by_cases hp : pl < c.pos
        · rw [if_pos hp] at hL2
          have hL := Lib.hid hL2
          clear hL2
          have hwc : IntKind.i64.wrap (c.pos - pl) = c.pos - pl := IntWalk.i64_in _ (by omega)
          have hmn : (if c.pos - pl < M0 then c.pos - pl else M0) = lim R mo pl := by rw [hL.out]; split <;> omega
          go_wp2_with fail
          go_meet
          case rel => exact ⟨(hb6'.setCell (p := ⟨t9, 0, none⟩) ht9 _).alloc (by simp; omega) _, (hk6.set_ 0 _).alloc _⟩
        · rw [if_neg hp] at hL2
          have hL := Lib.hid hL2
          clear hL2
          go_wp2_with fail
          go_roundw
          case rel => exact ⟨k + 1, hlt, rfl, hb6.alloc (by omega) _, hL⟩
          case measure => simp [intOf]; omega
      · have hL2 := hL.out
        rw [List.drop_of_length_le (by rw [← hlc.out]; omega), nxt, HM0.out] at hL2
        have hL3 : lim R mo pl = M0 := by rw [hL2, HM0.out]; omega
        have hL3' := Lib.hid hL3
        clear hL2 hL3 hL
        go_wp2_with fail
        go_meet
        case rel => exact ⟨hb6', by rw [hL3'.out]; exact hk6⟩
  case rest =>
    obtain ⟨hb6, hk6⟩ := hcut
    obtain ⟨w6, hw6⟩ : ∃ w6, w6 = wc := ⟨_, rfl⟩
    rw [← hw6] at hb6 hk6 ⊢
    clear hw6
    have hB6 := onto hB3 hb6 hB3.size
    have hz6 := hb6.size
    have v3 := (bc hb6 (b := w.heap.size + 1) (o := 0) (by omega)).trans r3
    have v5 := (bc hb6 (b := w.heap.size + 2) (o := 0) (by omega)).trans r5
    have hM6 : Hid (MS w6 w6.heap.size g pa pn pc ca cn cc ja jn jc ba bq R) := hM3.out.grow hb6 hb6.size
    clear s3 s5 s9 f9 hk5 hM5 hC5 hM3 hw1 hite r1 r3 r4 r5
    go_wp2_with fail
    refine (upTo_any pl g pa pn pc ca cn cc ja jn jc ba bq R _ hM6.out hv'.out.pk (by omega) (by omega) (by omega)).mono ?_
    rintro e w7 ⟨rfl, hb7⟩
    obtain ⟨bg, hbg⟩ : ∃ bg, bg = upt R.ps pl := ⟨_, rfl⟩
    rw [← hbg]
    have Hbg := Lib.hid hbg
    clear hbg
    have hB7 := onto hB6 hb7 hB6.size
    have hz7 := hb7.size
    have hk7 := hk6.below hb7 hk6.lt
    have hM7 : Hid (MS w7 w7.heap.size g pa pn pc ca cn cc ja jn jc ba bq R) := hM6.out.grow hb7 hb7.size
    have y3 := (bc hb7 (b := w.heap.size + 1) (o := 0) (by omega)).trans v3
    have y5 := (bc hb7 (b := w.heap.size + 2) (o := 0) (by omega)).trans v5
    have y5' : w7.cell? ⟨w.heap.size + 1 + 1, 0, none⟩ = some (.int .i64 pl) := y5
    have hsz1 : w.heap.size + 1 < w7.heap.size := by omega
    have hsz2 : w.heap.size + 1 + 1 < w7.heap.size := by omega
    have hsz9 : t9 < w7.heap.size := hk7.lt
    clear v3 v5 hM6 hk6
    go_wp2_with fail
    try go_step3
    go_wp2_with fail
    refine (all_any g _).mono ?_
    rintro e w8 ⟨rfl, rfl⟩
    go_wp2_with fail
    obtain ⟨W0, hW0⟩ : ∃ W0, W0 = (((w7.alloc (.cells #[.int .i64 bg] 3)).alloc (.cells #[.int .i64 pl] 3)).alloc (.cells #[.int .i64 0] 3)).alloc (.cells #[.pointer (some ⟨g, 0, none⟩)] 90) := ⟨_, rfl⟩
    have e0 : BK W0 w7.heap.size 3 #[.int .i64 bg] := by rw [hW0]; exact (((BK.new w7 _ _).alloc _).alloc _).alloc _
    have e1 : BK W0 (w7.heap.size + 1) 3 #[.int .i64 pl] := by rw [hW0]; have := (BK.new (w7.alloc (.cells #[.int .i64 bg] 3)) 3 #[.int .i64 pl]); rw [World.size_alloc] at this; exact (this.alloc _).alloc _
    have e2 : BK W0 (w7.heap.size + 2) 3 #[.int .i64 0] := by rw [hW0]; have := (BK.new ((w7.alloc (.cells #[.int .i64 bg] 3)).alloc (.cells #[.int .i64 pl] 3)) 3 #[.int .i64 0]); rw [World.size_alloc, World.size_alloc] at this; exact this.alloc _
    have e3 : BK W0 (w7.heap.size + 3) 90 #[.pointer (some ⟨g, 0, none⟩)] := by rw [hW0]; have := (BK.new (((w7.alloc (.cells #[.int .i64 bg] 3)).alloc (.cells #[.int .i64 pl] 3)).alloc (.cells #[.int .i64 0] 3)) 90 #[.pointer (some ⟨g, 0, none⟩)]); rw [World.size_alloc, World.size_alloc, World.size_alloc] at this; exact this
    have hsz : W0.heap.size = w7.heap.size + 4 := by rw [hW0]; simp
    have hB0 : Below w7.heap.size w7 W0 := by rw [hW0]; exact ((((Below.refl _ w7).alloc (Nat.le_refl _) _).alloc (by simp) _).alloc (by simp; omega) _).alloc (by simp; omega) _
    rw [← hW0]
    have HS := Lib.hid hsz
    have HS' := Lib.hid hsz2
    have hlimb : Hid (0 ≤ lim R mo pl ∧ lim R mo pl ≤ 5000) := by
      have := nxt_gt N pl h1 R.cs
      rw [hLim.out]
      exact ⟨by omega, by omega⟩
    have hbgb : -400000000000 ≤ bg ∧ bg ≤ 400000000000 := by
      have := upt_bd R.ps pl hv'.out.pk
      have hpl := hM7.out.r.p.1
      rw [Hbg.out]
      omega
    obtain ⟨hbg1, hbg2⟩ := hbgb
    clear hW0 hsz
    refine (wpIn_wide (n := 5)).1 ?_
    refine wpIn_rangeFunc_ownH (α := BP) rfl (by omega) (gf := 91) (lb := #[.pointer (some ⟨w7.heap.size + 3, 0, none⟩)]) rfl trivial (enters_of Try.func91 (by kernel_rfl) rfl)
      (all_stops 4 (by omega) (w7.heap.size + 3) w7.heap.size g pa pn pc ca cn cc ja jn jc ba bq R (by omega) hv'.out.pk W0 (e3.cell 0) (by have := HS.out; omega) hB0.size (hM7.out.grow hB0 (Nat.le_refl _))) KB.t (KB.b hB0.size (by have := HS.out; omega)) (Below.refl _ _) (fun _ => rfl)
      (fun pre W => ((BK W w7.heap.size 3 #[.int .i64 bg] ∧ BK W (w7.heap.size + 1) 3 #[.int .i64 (sfd pl (pre.map (·.1)))] ∧ BK W (w7.heap.size + 2) 3 #[.int .i64 (bfr (pre.map (·.1)))] ∧ Hid (NB pl (lim R mo pl) an bg 0 (pre.map (·.1)))) ∧ Since w7 W0.heap.size W))
      (fun c pre W => (c = .exit 2 ∧ ∃ s, Hid (StopAt pl (lim R mo pl) an bg pre s) ∧ BK W (w7.heap.size + 1) 3 #[.int .i64 s]) ∧ Since w7 W0.heap.size W)
      (OwnFrom.and (OwnFrom.and (bk_own _ _ _ _) (OwnFrom.and (bk_own _ _ _ _) (OwnFrom.and (bk_own _ _ _ _) (ownFrom_pure _ _)))) (ownFrom_since hB0.size))
      (fun c => OwnFrom.and (fun s A B row hs hg hr => by
        obtain ⟨e, s', h1, h2⟩ := hs
        exact ⟨e, s', h1, bk_own W0.heap.size _ _ (fun _ : Unit => _) () A B row h2 hg hr⟩) (ownFrom_since hB0.size))
      ⟨⟨e0, by simpa [sfd] using e1, by simpa [bfr] using e2, by simp [Hid, NB]⟩, hB0, Nat.le_refl _⟩
      (fun e a' W => ∃ Bx, w7.heap.size + 3 < Bx ∧ BK W Bx 52 (pC e.1.2).toArray ∧ a' = { tmps := #[.agg #[.slice pa pn pc, .slice ca cn cc, .slice ja jn jc], .agg #[.int .i64 an, .int .i64 mo], .int .i64 pl, .pointer (some ⟨w.heap.size, 0, none⟩), .pointer (some ⟨w.heap.size + 1, 0, none⟩), .pointer (some ⟨w.heap.size + 1 + 1, 0, none⟩), .int .i64 0, .int .i64 0, .pointer (some ⟨g, 0, none⟩), .pointer (some ⟨t9, 0, none⟩), undef, u11, .pointer (some ⟨w7.heap.size, 0, none⟩), .pointer (some ⟨w7.heap.size + 1, 0, none⟩), .pointer (some ⟨w7.heap.size + 1 + 1, 0, none⟩), .int .i64 e.1.1, .pointer (some ⟨Bx, 0, none⟩), undef, undef, undef, u20, u21, u22, u23, u24, u25, u26, u27, u28, u29, u30, u31, u32, u33, u34, u35, u36, u37, u38, u39, u40, u41, u42, u43, u44, u45, u46, u47, u48, u49, u50, u51, u52, u53, u54, u55, u56, u57, u58, u59, u60, u61, u62, u63, u64, u65, u66, .pointer (some ⟨g, 0, none⟩), .int .i64 pl, .int .i64 bg, .int .i64 pl, .pointer (some ⟨g, 0, none⟩), .func (.func 91) #[] #[.pointer (some ⟨w7.heap.size + 1 + 1 + 1, 0, none⟩)], .int .i64 e.1.1, .agg #[.int .i64 e.1.2.len, .int .i64 e.1.2.turn, .int .i64 e.1.2.rad, .int .i64 e.1.2.wid, .int .i64 e.1.2.sur], u75, u76, u77, u78, u79, u80, u81, u82, u83, u84, u85, u86, u87, u88, u89, u90, u91, u92, u93, u94, u95, u96, u97, u98, u99, u100, u101, u102, u103, u104, u105, u106, u107, u108, u109, u110, u111, u112, u113, u114, u115, u116, u117, u118, u119, u120, u121, u122, u123, u124, u125, u126, u127, u128, u129, u130, u131, u132, u133], defers := [] })
      (fun e a' s A B row hs hg hr => by
        obtain ⟨Bx, h1, h2, h3⟩ := hs
        exact ⟨Bx, h1, bk_own W0.heap.size _ _ (fun _ : Unit => _) () A B row h2 hg hr, h3⟩) ?assign ?body ?done ?stop
    case assign =>
      intro l pre e W K hI hK
      simp only [bpV]
      gi_wp2
      obtain ⟨⟨i1, i2, i3, i4⟩, hB⟩ := hI
      have hz := HS.out
      have hz2 := hB.2
      have hbA := (Below.refl W.heap.size W).alloc (Nat.le_refl _) (.cells #[.int .i64 e.1.2.len, .int .i64 e.1.2.turn, .int .i64 e.1.2.rad, .int .i64 e.1.2.wid, .int .i64 e.1.2.sur] 52)
      exact hK _ _ ((KeepsOthers.alloc _ _).from _) (KB.of_below hbA (by omega) (by omega)) ⟨⟨i1.alloc _, i2.alloc _, i3.alloc _, i4⟩, hB.onto hbA⟩ ⟨W.heap.size, by omega, BK.new W _ _, rfl⟩
    case body =>
      rintro l pre e a' W hlW ⟨r', hr⟩ ⟨⟨i1, i2, i3, i4⟩, hB⟩ ⟨Bx, hBx, bX, rfl⟩ hlt
      have hz : w7.heap.size + 4 ≤ W0.heap.size := by have := HS.out; omega
      have hz2 := hB.2
      have c1 := i1.cell 0
      have c2 := i2.cell 0
      have c3 := i3.cell 0
      have f2 := i2.frozen 0
      have f3 := i3.frozen 0
      have x0 := bX.cell 0
      have x1 := bX.cell 1
      have x2 := bX.cell 2
      have x3 := bX.cell 3
      have x4 := bX.cell 4
      have z9 := (hk7.below hB.1 hsz9).cell 0
      simp only [pC, List.getElem?_toArray, List.getElem?_cons_zero, List.getElem?_cons_succ] at c1 c2 c3 x0 x1 x2 x3 x4 z9
      have z3 := (bc hB.1 (b := w.heap.size + 1) (o := 0) hsz1).trans y3
      have z5 := (bc hB.1 (b := w.heap.size + 1 + 1) (o := 0) hsz2).trans y5'
      have hpl := pOk_len e.2.1
      have hp1 := hpl.1
      have hp2 := hpl.2
      have hb1 := e.2.2.1
      have hb2 := e.2.2.2
      obtain ⟨S, hS1⟩ : ∃ S, S = sfd pl (pre.map (·.1)) := ⟨_, rfl⟩
      obtain ⟨b, hb'⟩ : ∃ b, b = bfr (pre.map (·.1)) := ⟨_, rfl⟩
      obtain ⟨T, hT1⟩ : ∃ T, T = trn e.1.2 e.1.2.len := ⟨_, rfl⟩
      have hTb := trn_bd e.1.2 e.1.2.len (by omega) (by omega) (pOk_tOk e.2.1)
      have hbb := bfr_bd pre
      rw [← hT1] at hTb
      rw [← hS1] at c2 i2
      rw [← hb'] at c3 i3 hbb
      have HT := Lib.hid (hT1 ▸ turned_any e.1.2 e.1.2.len W (by omega) (by omega) (pOk_tOk e.2.1))
      gi_wp2_with fail
      refine cinr (HT.out.mono ?_)
      rintro e' W1 ⟨rfl, hbW1⟩
      have hz3 := hbW1.size
      have hB1' := hB.onto hbW1
      have hKf := keeps_of_below (B := W0.heap.size) hbW1
      have hKB : KB w7.heap.size (w7.heap.size + 3) W W1 := KB.of_below hbW1 (by omega) (by omega)
      have j1 := i1.below hbW1 i1.lt
      have j2 := i2.below hbW1 i2.lt
      have j3 := i3.below hbW1 i3.lt
      have jX := bX.below hbW1 bX.lt
      have c1 := (bc hbW1 i1.lt).trans c1
      have c2 := (bc hbW1 i2.lt).trans c2
      have c3 := (bc hbW1 i3.lt).trans c3
      have f2 := (bf hbW1 i2.lt).trans f2
      have f3 := (bf hbW1 i3.lt).trans f3
      have x0 := (bc hbW1 bX.lt).trans x0
      have x1 := (bc hbW1 bX.lt).trans x1
      have x2 := (bc hbW1 bX.lt).trans x2
      have x3 := (bc hbW1 bX.lt).trans x3
      have x4 := (bc hbW1 bX.lt).trans x4
      have z9 := (bc hbW1 (b := t9) (o := 0) (by omega)).trans z9
      have z3 := (bc hbW1 (b := w.heap.size + 1) (o := 0) (by omega)).trans z3
      have z5 := (bc hbW1 (b := w.heap.size + 1 + 1) (o := 0) (by omega)).trans z5
      have hwe : IntKind.i64.wrap (e.1.1 + e.1.2.len) = e.1.1 + e.1.2.len := IntWalk.i64_in _ (by omega)
      have hwb : IntKind.i64.wrap (b + T) = b + T := IntWalk.i64_in _ (by omega)
      have hnewb : Hid (bfr ((pre ++ [e]).map (·.1)) = b + T) := by rw [hb', hT1, List.map_append]; exact bfr_snoc _ _
      have hnews : Hid (sfd pl ((pre ++ [e]).map (·.1)) = if e.1.1 + e.1.2.len ≤ pl then S else e.1.1 + e.1.2.len) := by rw [hS1, List.map_append]; exact sfd_snoc _ _ _
      have hnewn : Hid (goes pl (lim R mo pl) an bg b e.1 → NB pl (lim R mo pl) an bg 0 ((pre ++ [e]).map (·.1))) := by
        intro hg
        rw [List.map_append]
        exact (NB_snoc _ _ _ _ _ _ _).2 ⟨i4.out, by rw [Int.zero_add, ← hb']; exact hg⟩
      have hnewx : Hid (∀ s, stops pl (lim R mo pl) an bg b e.1 S s → StopAt pl (lim R mo pl) an bg (pre ++ [e]) s) := by
        intro s hs
        exact ⟨pre, e, rfl, i4.out, by rw [← hb', ← hS1]; exact hs⟩
      have hbb4 : -400000000000 ≤ b ∧ b ≤ 400000000000 := by omega
      obtain ⟨hbb5, hbb6⟩ := hbb4
      obtain ⟨hTb1, hTb2⟩ := hTb
      clear hbW1 hT1 hS1 hb' i1 i2 i3 i4 bX hbb
      have hmo' := hmo
      by_cases hA : e.1.1 + e.1.2.len ≤ pl
      · have hns := hnews.out
        rw [if_pos hA] at hns
        have hgo := Lib.hid (hnewn.out (.inl hA))
        have hns := Lib.hid hns
        gi_wp2_with fail
        refine ⟨hKf.trans ((KeepsOthers.setCell _ _ _).from _), hKB.setCell (by simp <;> omega) (by simp <;> omega) _, ⟨j1.far (by simp <;> omega) _, ?_, ?_, hgo⟩, hB1'.setCell (by simp <;> omega) _⟩
        · rw [hns.out]; exact j2.far (by simp <;> omega) _
        · rw [hnewb.out]; exact j3.set_ 0 _
      · have hns := hnews.out
        rw [if_neg hA] at hns
        have hns := Lib.hid hns
        obtain ⟨LM, hLM⟩ : ∃ LM, LM = lim R mo pl := ⟨_, rfl⟩
        rw [← hLM] at z9 hnewn hnewx
        have HLM := Lib.hid hLM
        have hLM1 : 0 ≤ LM ∧ LM ≤ 5000 := by rw [hLM]; exact hlimb.out
        obtain ⟨hLM2, hLM3⟩ := hLM1
        clear hLM
        obtain ⟨Q0, hQ0⟩ : ∃ Q0, Q0 = max pl e.1.1 := ⟨_, rfl⟩
        obtain ⟨Mn, hMn⟩ : ∃ Mn, Mn = min (e.1.1 + e.1.2.len) (pl + LM) := ⟨_, rfl⟩
        have hmx1 : (if pl < e.1.1 then e.1.1 else pl) = Q0 := by rw [hQ0]; split <;> omega
        have hmx2 : (if e.1.1 < pl then pl else e.1.1) = Q0 := by rw [hQ0]; split <;> omega
        have hmn1 : (if pl + LM < e.1.1 + e.1.2.len then pl + LM else e.1.1 + e.1.2.len) = Mn := by rw [hMn]; split <;> omega
        have hwl : IntKind.i64.wrap (pl + LM) = pl + LM := IntWalk.i64_in _ (by omega)
        have hQ1 : pl ≤ Q0 := by omega
        have hQ2 : e.1.1 ≤ Q0 := by omega
        have hQ3 : Q0 ≤ e.1.1 + e.1.2.len := by omega
        have hM1 : Mn ≤ e.1.1 + e.1.2.len := by omega
        have hM2 : Mn ≤ pl + LM := by omega
        have HQ0 := Lib.hid hQ0
        have HMn := Lib.hid hMn
        clear hQ0 hMn
        gi_wp2_with fail
        gi_loopw [18] (fun q wr => ∃ k : Int, q = .int .i64 k ∧ Q0 ≤ k ∧ (k = Q0 ∨ k ≤ Mn + 1) ∧ Hid (∀ q, Q0 ≤ q → q < k → okL an bg b e.1 q) ∧ (∃ s, Hid (s = if k = Q0 then S else k - 1) ∧ BK wr (w7.heap.size + 1) 3 #[.int .i64 s]) ∧
            BK wr w7.heap.size 3 #[.int .i64 bg] ∧ BK wr (w7.heap.size + 2) 3 #[.int .i64 b] ∧ BK wr Bx 52 (pC e.1.2).toArray ∧ KeepsFrom W0.heap.size W wr ∧ KB w7.heap.size (w7.heap.size + 3) W wr ∧ Since w7 W0.heap.size wr ∧ W1.heap.size ≤ wr.heap.size)
          (fun q _ => (Mn + 1 - intOf q).toNat)
        case atStart => exact ⟨Q0, rfl, by omega, .inl rfl, (fun q h1 h2 => by omega), ⟨S, (by rw [if_pos rfl]; exact rfl), j2⟩, j1, j3, jX, hKf, hKB, hB1', Nat.le_refl _⟩
        case round =>
          obtain ⟨k, rfl, hk1, hk2, hal, ⟨s, hs1, g2⟩, g1, g3, gX, hKf2, hKB2, hB2', hsz4⟩ := hrel
          have hz5 := hB2'.2
          have c1 := g1.cell 0
          have c2 := g2.cell 0
          have c3 := g3.cell 0
          have f2 := g2.frozen 0
          have f3 := g3.frozen 0
          have x0 := gX.cell 0
          have x1 := gX.cell 1
          have x2 := gX.cell 2
          have x3 := gX.cell 3
          have x4 := gX.cell 4
          have z9 := (hk7.below hB2'.1 hsz9).cell 0
          simp only [pC, List.getElem?_toArray, List.getElem?_cons_zero, List.getElem?_cons_succ] at c1 c2 c3 x0 x1 x2 x3 x4 z9
          rw [← HLM.out] at z9
          have z3 := (bc hB2'.1 (b := w.heap.size + 1) (o := 0) hsz1).trans y3
          have z5 := (bc hB2'.1 (b := w.heap.size + 1 + 1) (o := 0) hsz2).trans y5'
          by_cases hkM : k ≤ Mn
          · obtain ⟨T', hT'⟩ : ∃ T', T' = trn e.1.2 (k - e.1.1) := ⟨_, rfl⟩
            have hTb' := trn_bd e.1.2 (k - e.1.1) (by omega) (by omega) (pOk_tOk e.2.1)
            have HT' := Lib.hid (fun W' : World => hT' ▸ turned_any e.1.2 (k - e.1.1) W' (by omega) (by omega) (pOk_tOk e.2.1))
            rw [← hT'] at hTb'
            obtain ⟨hTb3, hTb4⟩ := hTb'
            obtain ⟨d, hd⟩ : ∃ d, d = b + T' - bg := ⟨_, rfl⟩
            have hw1 : IntKind.i64.wrap (k - e.1.1) = k - e.1.1 := IntWalk.i64_in _ (by omega)
            have hw2 : IntKind.i64.wrap (b + T') = b + T' := IntWalk.i64_in _ (by omega)
            have hw3 : IntKind.i64.wrap (b + T' - bg) = d := by rw [hd]; exact IntWalk.i64_in _ (by omega)
            have hw4 : IntKind.i64.wrap (-d) = -d := IntWalk.i64_in _ (by omega)
            have hdok : okL an bg b e.1 k ↔ (-an ≤ d ∧ d ≤ an) := by unfold okL; rw [hd, hT']
            have hdok' := Lib.hid hdok
            clear hd hT' hdok
            obtain ⟨D, hD⟩ : ∃ D, D = max d (-d) := ⟨_, rfl⟩
            have hmd1 : (if d < -d then -d else d) = D := by rw [hD]; split <;> omega
            have HD := Lib.hid hD
            clear hD
            gi_wp2_with fail
            refine wpIn_region_qt 9 hmo (by kernel_rfl) ?_
            simp only [List.take_succ_cons, List.take_zero, List.drop_succ_cons, List.drop_zero]
            have k1 := fun d os => cell_regrown c1 d os
            have k3 := fun d os => cell_regrown c3 d os
            have l0 := fun d os => cell_regrown x0 d os
            have l1 := fun d os => cell_regrown x1 d os
            have l2 := fun d os => cell_regrown x2 d os
            have l3 := fun d os => cell_regrown x3 d os
            have l4 := fun d os => cell_regrown x4 d os
            repeat (quiet_step ((go_at_call 64; exact Calls.regrown_of (HT'.out _))))
            refine wpQuiet_nil ?_
            intro w' hbw
            have hz6 := hbw.size
            have G1 := g1.below hbw g1.lt
            have G2 := g2.below hbw g2.lt
            have G3 := g3.below hbw g3.lt
            have GX := gX.below hbw gX.lt
            have hB3' := hB2'.onto hbw
            have hKf3 := hKf2.trans (keeps_of_below (B := W0.heap.size) hbw)
            have hKB3 : KB w7.heap.size (w7.heap.size + 3) W w' := hKB2.t (KB.of_below hbw (by omega) (by omega))
            have c2 := (bc hbw g2.lt).trans c2
            have f2 := (bf hbw g2.lt).trans f2
            have z3 := (bc hbw (b := w.heap.size + 1) (o := 0) (by omega)).trans z3
            clear c1 c3 f3 x0 x1 x2 x3 x4 z9 z5 k1 k3 l0 l1 l2 l3 l4 hbw g1 g2 g3 gX hB2' hKf2 hKB2
            by_cases hok : D ≤ an
            · have hgood : Hid (okL an bg b e.1 k) := hdok'.out.2 (by have := HD.out; omega)
              have hwk : IntKind.i64.wrap (k + 1) = k + 1 := IntWalk.i64_in _ (by omega)
              gi_wp2_with fail
              go_roundw
              case rel =>
                refine ⟨k + 1, rfl, by omega, .inr (by omega), ?_, ⟨k, ?_, G2.set_ 0 _⟩, G1.far (by simp <;> omega) _, G3.far (by simp <;> omega) _, GX.far (by simp <;> omega) _, hKf3.trans ((KeepsOthers.setCell _ _ _).from _), hKB3.setCell (by simp <;> omega) (by simp <;> omega) _, hB3'.setCell (by simp <;> omega) _, by simp <;> omega⟩
                · intro q h1 h2
                  rcases Int.lt_or_le q k with h | h
                  · exact hal.out q h1 h
                  · obtain rfl : q = k := by omega
                    exact hgood.out
                · rw [if_neg (by omega)]; exact (by omega : k = k + 1 - 1)
              case measure => simp [intOf]; omega
            · have hbad : ¬ okL an bg b e.1 k := fun h => hok (by have := HD.out; have := hdok'.out.1 h; omega)
              have hst := Lib.hid (hnewx.out s ⟨by omega, .inl ⟨k, by have := HQ0.out; omega, by omega, by omega, hbad, by rw [← HQ0.out]; exact hal.out, by rw [← HQ0.out]; exact hs1.out⟩⟩)
              gi_wp2_with fail
              rw [HLM.out] at hst
              exact ⟨hKf3, ⟨rfl, s, hst, G2⟩, hB3'⟩
          · by_cases hfar : pl + LM < e.1.1 + e.1.2.len
            · have hst := Lib.hid (hnewx.out s ⟨by omega, .inr ⟨hfar, by rw [← HQ0.out]; exact fun q h1 h2 => hal.out q h1 (by have := HMn.out; omega), by rw [← HQ0.out, hs1.out]; have := HMn.out; split <;> split <;> omega⟩⟩)
              rw [HLM.out] at hst
              gi_wp2_with fail
              exact ⟨hKf2.trans ((KeepsOthers.setCell _ _ _).from _), ⟨rfl, s, hst, g2.far (by simp <;> omega) _⟩, hB2'.setCell (by simp <;> omega) _⟩
            · have hgo := hnewn.out (.inr ⟨by omega, by omega, by rw [← HQ0.out]; exact fun q h1 h2 => hal.out q h1 (by have := HMn.out; omega)⟩)
              rw [HLM.out] at hgo
              have hgo := Lib.hid hgo
              have hsE : s = e.1.1 + e.1.2.len := by rw [hs1.out]; have := HMn.out; split <;> omega
              have hsE := Lib.hid hsE
              gi_wp2_with fail
              refine ⟨hKf2.trans ((KeepsOthers.setCell _ _ _).from _), hKB2.setCell (by simp <;> omega) (by simp <;> omega) _, ⟨g1.far (by simp <;> omega) _, ?_, ?_, hgo⟩, hB2'.setCell (by simp <;> omega) _⟩
              · rw [hns.out, ← hsE.out]; exact g2.far (by simp <;> omega) _
              · rw [hnewb.out]; exact g3.set_ 0 _
    case done =>
      rintro D ys W hD hys ⟨⟨i1, i2, i3, i4⟩, hB⟩ hK
      have hres : Hid (sfd pl (ys.map (·.1)) - pl = r) := by
        have h4 := i4.out
        rw [hys, Hbg.out] at h4
        rw [hys]
        exact SI.uniq (SI_done hv'.out.pk h0 (by rw [← HN.out]; exact h1) (by rw [← HN.out, hLim.out]; have := HM0.out; omega) hlimb.out.1 h4) hs'.out
      clear hys
      have c2 := i2.cell 0
      have z5 := (bc hB.1 (b := w.heap.size + 1 + 1) (o := 0) HS'.out).trans y5'
      simp only [List.getElem?_toArray, List.getElem?_cons_zero] at c2
      generalize sfd pl (ys.map (·.1)) = s at c2 hres i2
      have hwr : IntKind.i64.wrap (s - pl) = r := by rw [hres.out]; exact IntWalk.i64_in _ (by have := hs'.out.r0; have := hs'.out.r1; have := hlimb.out; omega)
      clear hres
      go_wp2_with fail
      rw [Exit.noGoto_ret]
      go_wp2_with fail
      refine ⟨by simp, .inl ⟨_, _, rfl, run_takeDeferred hK, ?_⟩⟩
      exact ⟨_, results_tmp2 (t := 6) (u := 7) rfl _ _ _, rfl, (onto hB7 hB.1 hB7.size).trans (belowK_b (w := w) (Nat.le_refl _) W D _ _ (by have := HS.out; have := hB7.size; omega) hK rfl rfl)⟩
    case stop =>
      rintro D c pre W hD ⟨k, hk1, hk2⟩ ⟨⟨rfl, s, hst, i2⟩, hB⟩ hK
      have hres : Hid (s - pl = r) := by
        obtain ⟨ini, last, rfl, h2, h3⟩ := hst.out
        rw [List.map_append] at hk2
        obtain ⟨k', rfl⟩ : ∃ k', k = k' + 1 := by
          cases k with
          | zero => simp at hk2
          | succ k' => exact ⟨k', rfl⟩
        have hkl : k' < R.ps.length := by have := hM7.out.r.p.1; omega
        rw [its_take R.ps k' hkl] at hk2
        obtain ⟨e1, e2⟩ := List.append_inj' hk2 rfl
        have e3 : last.1 = (sumL (R.ps.take k'), R.ps[k']) := by simpa using e2
        rw [e1, its_take_its, Hbg.out] at h2
        rw [e1, e3, its_take_its, Hbg.out] at h3
        exact SI.uniq (SI_stop hv'.out.pk h0 hlimb.out.1 (by omega) k' hkl s h2 h3) hs'.out
      clear hst hk2
      have c2 := i2.cell 0
      have z5 := (bc hB.1 (b := w.heap.size + 1 + 1) (o := 0) HS'.out).trans y5'
      simp only [List.getElem?_toArray, List.getElem?_cons_zero] at c2
      have hwr : IntKind.i64.wrap (s - pl) = r := by rw [hres.out]; exact IntWalk.i64_in _ (by have := hs'.out.r0; have := hs'.out.r1; have := hlimb.out; omega)
      clear hres
      gi_wp2_with fail
      go_wp2_with fail
      rw [Exit.noGoto_ret]
      go_wp2_with fail
      refine ⟨by simp, .inl ⟨_, _, rfl, run_takeDeferred hK, ?_⟩⟩
      exact ⟨_, results_tmp2 (t := 6) (u := 7) rfl _ _ _, rfl, (onto hB7 hB.1 hB7.size).trans (belowK_b (w := w) (Nat.le_refl _) W D _ _ (by have := HS.out; have := hB7.size; omega) hK rfl rfl)⟩
end Go.Proofs.Ytomloklckpcaiaa

/- road.Sight: what is refused. -/
namespace Go.Proofs.Ytomloklckpcaiaa
open Go.RowKit Go.Shelf Go.Sort Go.Proofs

theorem Sight_in (an mo pl r : Int) (pa : Option Addr) (pn pc : Nat) (ca : Option Addr) (cn cc : Nat) (ja : Option Addr) (jn jc : Nat) (R : Road) (w : World)
    (h : RD w w.heap.size pa pn ca cn ja jn R) (hv : OK R) (he : eyesOk an mo = true) (h0 : 0 ≤ pl) (h1 : pl ≤ sumL R.ps) (hs : SI R.ps an pl (lim R mo pl) r) :
    Calls Try.prog 31 #[.agg #[.slice pa pn pc, .slice ca cn cc, .slice ja jn jc], .agg #[.int .i64 an, .int .i64 mo], .int .i64 pl] w fun e w' => e = .returned (.tuple #[.int .i64 r, .int .i64 0]) ∧ Below w.heap.size w w' :=
  callsIn_wide.1 (Sight_w an mo pl r pa pn pc ca cn cc ja jn jc R w h hv he h0 h1 hs)
end Go.Proofs.Ytomloklckpcaiaa
