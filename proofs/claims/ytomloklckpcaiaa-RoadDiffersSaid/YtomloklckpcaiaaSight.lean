/- How far one sees: what the answer is, and the reference's walk. -/
import Derived.Test.YtomloklckpcaiaaTurn
namespace Go.Proofs.Ytomloklckpcaiaa
open Go.RowKit Go.Shelf Go.Sort Go.Proofs

/-- The first crest behind the place (n + 1: there is none). -/
def nxt (n pl : Int) : List Crest → Int
  | [] => n + 1
  | c :: cs => if pl < c.pos then c.pos else nxt n pl cs
/-- The turning from pl to q is at most an. -/
def okq (ps : List Piece) (an pl q : Int) : Prop := -an ≤ upt ps q - upt ps pl ∧ upt ps q - upt ps pl ≤ an
/-- r meters are seen, where lim is the most that can be. -/
structure SI (ps : List Piece) (an pl lim r : Int) : Prop where
  r0 : 0 ≤ r
  r1 : r ≤ lim
  all : ∀ q, pl < q → q ≤ pl + r → okq ps an pl q
  stop : r = lim ∨ ¬ okq ps an pl (pl + r + 1)
theorem SI.exists_ (ps : List Piece) (an pl lim : Int) (h : 0 ≤ lim) : ∃ r, SI ps an pl lim r := by
  have key : ∀ n : Nat, ∀ d : Int, 0 ≤ d → d + n = lim → (∀ q, pl < q → q ≤ pl + d → okq ps an pl q) → ∃ r, SI ps an pl lim r := by
    intro n
    induction n with
    | zero => intro d h0 h1 h2; exact ⟨d, h0, by omega, h2, .inl (by omega)⟩
    | succ n ih =>
      intro d h0 h1 h2
      by_cases hq : okq ps an pl (pl + d + 1)
      · refine ih (d + 1) (by omega) (by omega) (fun q hq1 hq2 => ?_)
        by_cases hqd : q ≤ pl + d
        · exact h2 q hq1 hqd
        · rw [show q = pl + d + 1 by omega]; exact hq
      · exact ⟨d, h0, by omega, h2, .inr hq⟩
  exact key lim.toNat 0 (by omega) (by omega) (fun q h1 h2 => absurd h1 (by omega))
theorem SI.uniq {ps : List Piece} {an pl lim r s : Int} (h : SI ps an pl lim r) (k : SI ps an pl lim s) : r = s := by
  rcases Int.lt_trichotomy r s with hlt | heq | hgt
  · rcases h.stop with h1 | h1
    · have := k.r1; omega
    · exact absurd (k.all (pl + r + 1) (by have := h.r0; omega) (by omega)) h1
  · exact heq
  · rcases k.stop with h1 | h1
    · have := h.r1; omega
    · exact absurd (h.all (pl + s + 1) (by have := k.r0; omega) (by omega)) h1
theorem SI.more {ps : List Piece} {an an' pl lim lim' r s : Int} (h : SI ps an pl lim r) (k : SI ps an' pl lim' s) (h1 : an ≤ an') (h2 : lim ≤ lim') : r ≤ s := by
  rcases Int.lt_or_le s r with hlt | hle
  · rcases k.stop with h3 | h3
    · have := h.r1; omega
    · have := h.all (pl + s + 1) (by have := k.r0; omega) (by omega)
      exact absurd ⟨by have := this.1; omega, by have := this.2; omega⟩ h3
  · exact hle
/-- The most that can be seen. -/
def lim (R : Road) (mo pl : Int) : Int := min (min mo (sumL R.ps - pl)) (nxt (sumL R.ps) pl R.cs - pl)
theorem nxt_gt (n pl : Int) (h : pl ≤ n) : ∀ cs : List Crest, pl < nxt n pl cs
  | [] => by simp [nxt]; omega
  | c :: cs => by
    unfold nxt
    split
    · assumption
    · exact nxt_gt n pl h cs
theorem nxt_le (n pl : Int) : ∀ (cs : List Crest), (∀ c ∈ cs, c.pos ≤ n) → nxt n pl cs ≤ n + 1
  | [], _ => by simp [nxt]
  | c :: cs, h => by
    unfold nxt
    split
    · have := h c (List.mem_cons_self ..); omega
    · exact nxt_le n pl cs (fun d hd => h d (List.mem_cons_of_mem _ hd))
theorem OK.cpos {R : Road} (h : OK R) : ∀ c ∈ R.cs, 0 ≤ c.pos ∧ c.pos ≤ sumL R.ps := by
  intro c hc
  obtain ⟨i, hi, rfl⟩ := List.getElem_of_mem hc
  have := (h.ck i hi _ (List.getElem?_eq_getElem hi)).1
  simpa [inR] using this
theorem lim_nn {R : Road} {mo pl : Int} (h0 : 1 ≤ mo) (h1 : pl ≤ sumL R.ps) : 0 ≤ lim R mo pl := by
  have := nxt_gt (sumL R.ps) pl h1 R.cs
  unfold lim
  omega

def bendsOk (gap least : Int) : Bool := inR gap 0 1000 && inR least 1 10000
def eyesOk (an mo : Int) : Bool := inR an 1 10000 && inR mo 1 5000

theorem Bends_any (gap least : Int) (w : World) : Calls Try.prog 27 #[.agg #[.int .i64 gap, .int .i64 least]] w fun e w' => e = .returned (.bool (bendsOk gap least)) ∧ Below w.heap.size w w' := by
  go_enter Try.func27, Try.ntmps27
  go_wp2_with (go_at_call 53; refine (in_any _ _ _ _).mono ?_; rintro e w' ⟨rfl, rfl⟩)
  all_goals (go_ret; exact ⟨ret_bool (by simp_all [bendsOk]), (Below.refl _ _).alloc (Nat.le_refl _) _⟩)
theorem Eyes_any (an mo : Int) (w : World) : Calls Try.prog 32 #[.agg #[.int .i64 an, .int .i64 mo]] w fun e w' => e = .returned (.bool (eyesOk an mo)) ∧ Below w.heap.size w w' := by
  go_enter Try.func32, Try.ntmps32
  go_wp2_with (go_at_call 53; refine (in_any _ _ _ _).mono ?_; rintro e w' ⟨rfl, rfl⟩)
  all_goals (go_ret; exact ⟨ret_bool (by simp_all [eyesOk]), (Below.refl _ _).alloc (Nat.le_refl _) _⟩)

set_option maxHeartbeats 2000000 in
theorem rSight_in (an mo pl r : Int) (pa : Option Addr) (pn pc : Nat) (ca : Option Addr) (cn cc : Nat) (ja : Option Addr) (jn jc : Nat) (R : Road) (w : World)
    (h : RD w w.heap.size pa pn ca cn ja jn R) (hv : OK R) (he : eyesOk an mo = true) (h0 : 0 ≤ pl) (h1 : pl ≤ sumL R.ps) (hs : SI R.ps an pl (lim R mo pl) r) :
    Calls Try.prog 33 #[.agg #[.slice pa pn pc, .slice ca cn cc, .slice ja jn jc], .agg #[.int .i64 an, .int .i64 mo], .int .i64 pl] w fun e w' => e = .returned (.int .i64 r) ∧ Below w.heap.size w w' := by
  have hR := Lib.hid h
  have hC := h.c
  have hv' := Lib.hid hv
  have hs' := Lib.hid hs
  have hlc := Lib.hid h.c.1
  have hpn : pn ≤ 2000 := by rw [h.p.1]; exact hv.p2
  have hcn : cn ≤ 1000 := by rw [h.c.1]; exact hv.c1
  have hln1 := hv.len.1
  have hln2 := hv.len.2
  simp only [eyesOk, inR, Bool.and_eq_true, decide_eq_true_eq] at he
  obtain ⟨⟨he1, he2⟩, he3, he4⟩ := he
  clear h hv hs
  have hW0 : Below w.heap.size w ((w.alloc (.cells #[.slice pa pn pc, .slice ca cn cc, .slice ja jn jc] 26)).alloc (.cells #[.int .i64 an, .int .i64 mo] 56)) := ((Below.refl w.heap.size w).alloc (Nat.le_refl _) _).alloc (by simp) _
  go_enter Try.func33, Try.ntmps33
  go_wp2_with fail
  refine (rLength_any _ _ _ _ _ _ _ _ _ R _ (hR.out.grow hW0 hW0.size) hv'.out.pk (by omega)).mono ?_
  rintro e w1 ⟨rfl, hb1⟩
  have hB1 := onto hW0 hb1 hW0.size
  have d0 := (bc hb1 (b := w.heap.size) (o := 0) (by simp; omega)).trans (show _ = some (.slice pa pn pc) by go_simp)
  have d1 := (bc hb1 (b := w.heap.size) (o := 1) (by simp; omega)).trans (show _ = some (.slice ca cn cc) by go_simp)
  have d2 := (bc hb1 (b := w.heap.size) (o := 2) (by simp; omega)).trans (show _ = some (.slice ja jn jc) by go_simp)
  have e0 := (bc hb1 (b := w.heap.size + 1) (o := 0) (by simp)).trans (show _ = some (.int .i64 an) by go_simp)
  have e1 := (bc hb1 (b := w.heap.size + 1) (o := 1) (by simp)).trans (show _ = some (.int .i64 mo) by go_simp)
  have hsz : w.heap.size + 1 < w1.heap.size := by have := hb1.size; simp at this; omega
  clear hb1
  obtain ⟨n, hn⟩ : ∃ n, n = sumL R.ps := ⟨_, rfl⟩
  have HN := Lib.hid hn
  rw [← hn] at h1 hln1 hln2 ⊢
  clear hn
  have hcp := Lib.hid (fun k => nxt_le n pl (R.cs.drop k) (fun c hc => by rw [HN.out]; exact (hv'.out.cpos c (List.mem_of_mem_drop hc)).2))
  have hcg := Lib.hid (fun k => nxt_gt n pl h1 (R.cs.drop k))
  go_wp2_with fail
  go_loop [8, 9] (fun c i => ∃ k : Nat, k ≤ cn ∧ i = .int .i64 ((k : Int) - 1) ∧ c = .int .i64 (nxt n pl (R.cs.drop k)))
    (fun _ i => (intOf i + 1).toNat)
  case atStart => exact ⟨cn, Nat.le_refl _, rfl, by rw [List.drop_of_length_le (by rw [← hlc.out]; exact Nat.le_refl _)]; rfl⟩
  case round =>
    obtain ⟨k, hkc, rfl, rfl⟩ := hrel
    cases k with
    | succ k =>
      have hkl : k < R.cs.length := by rw [← hlc.out]; omega
      have hw := hC.grow hB1 hB1.size
      obtain ⟨b, off, hA, hbB, c0, c1⟩ := CS.at_ hw (k := k) hkl
      have hst : Hid (nxt n pl (R.cs.drop k) = if pl < R.cs[k].pos then R.cs[k].pos else nxt n pl (R.cs.drop (k + 1))) := by
        rw [List.drop_eq_getElem_cons hkl]; exact rfl
      generalize R.cs[k]'hkl = c at c0 c1 hst
      have hk1 : ((k + 1 : Nat) : Int) - 1 = (k : Int) := by omega
      rw [hk1]
      have hk2 : (k : Int) < (cn : Int) := by omega
      clear hw hkl hk1
      subst hA
      by_cases hlt : pl < c.pos
      · go_wp2_with fail
        go_round
        case rel => exact ⟨k, by omega, by go_num, by rw [hst.out, if_pos hlt]⟩
        case measure => simp [intOf]
      · go_wp2_with fail
        go_round
        case rel => exact ⟨k, by omega, by go_num, by rw [hst.out, if_neg hlt]⟩
        case measure => simp [intOf]
    | zero =>
      have hcp0 := hcp.out 0
      have hcg0 := hcg.out 0
      rw [List.drop_zero] at hcp0 hcg0
      simp only [List.drop_zero]
      obtain ⟨C, hC2⟩ : ∃ C, C = nxt n pl R.cs := ⟨_, rfl⟩
      have hL : Hid (lim R mo pl = min (min mo (n - pl)) (C - pl)) := by rw [hC2, HN.out]; exact rfl
      rw [← hC2] at hcp0 hcg0 ⊢
      clear hC2
      go_wp2_with fail
      obtain ⟨wa, hwa⟩ : ∃ wa, wa = w1 := ⟨_, rfl⟩
      rw [← hwa] at hB1 d0 d1 d2 e0 e1 hsz ⊢
      clear hwa
      have hr0 := hs'.out.r0
      have hr1 := hs'.out.r1
      rw [hL.out] at hr1
      have hra : r ≤ mo := by omega
      have hrb : r ≤ n - pl := by omega
      have hrc : r ≤ C - pl := by omega
      clear hr1
      go_loopw [10] (fun d wr => ∃ k : Int, 0 ≤ k ∧ k ≤ r ∧ d = .int .i64 k ∧ Below wa.heap.size wa wr)
        (fun d _ => (r - intOf d).toNat)
      case atStart => exact ⟨0, Int.le_refl _, hr0, rfl, Below.refl _ _⟩
      case round =>
        obtain ⟨k, hk0, hk1, rfl, hb⟩ := hrel
        have hB2 := onto hB1 hb hB1.size
        have d0' := (bc hb (b := w.heap.size) (o := 0) (by omega)).trans d0
        have d1' := (bc hb (b := w.heap.size) (o := 1) (by omega)).trans d1
        have d2' := (bc hb (b := w.heap.size) (o := 2) (by omega)).trans d2
        have e0' := (bc hb (b := w.heap.size + 1) (o := 0) (by omega)).trans e0
        have e1' := (bc hb (b := w.heap.size + 1) (o := 1) (by omega)).trans e1
        have hsz' : w.heap.size + 1 < wr.heap.size := Nat.lt_of_lt_of_le hsz hb.size
        by_cases hkr : k < r
        · have hq := hs'.out.all (pl + k + 1) (by omega) (by omega)
          obtain ⟨T, hT⟩ : ∃ T, T = upt R.ps (pl + k + 1) - upt R.ps pl := ⟨_, rfl⟩
          unfold okq at hq
          rw [← hT] at hq
          have hq1 := hq.1
          have hq2 := hq.2
          have HT := Lib.hid (hT ▸ rTurning_any pl (pl + k + 1) pa pn pc ca cn cc ja jn jc R wr (hR.out.grow hB2 hB2.size) hv'.out.pk (by omega) (by omega) (by omega) (by omega) (by omega))
          have t1 : k < mo := by omega
          have t2 : pl + k + 1 ≤ n := by omega
          have t3 : pl + k + 1 ≤ C := by omega
          clear hT hq
          go_wp2_with fail
          refine HT.out.mono ?_
          rintro e w2 ⟨rfl, hb2⟩
          have e0'' := (bc hb2 (b := w.heap.size + 1) (o := 0) hsz').trans e0'
          go_wp2_with fail
          go_roundw
          case rel => exact ⟨k + 1, by omega, by omega, rfl, onto hb hb2 hb.size⟩
          case measure => simp [intOf]; omega
        · obtain rfl : k = r := by omega
          by_cases hkl : k = lim R mo pl
          · have hkl' : k = min (min mo (n - pl)) (C - pl) := by rw [← hL.out]; exact hkl
            by_cases h2 : mo ≤ k
            · clear hkl hkl'
              go_wp2_with fail
              all_goals first | (exfalso; omega) | (go_ret; exact ⟨rfl, hB2⟩)
            · by_cases h3 : n < pl + k + 1
              · clear hkl hkl'
                go_wp2_with fail
                all_goals first | (exfalso; omega) | (go_ret; exact ⟨rfl, hB2⟩)
              · have h4 : C < pl + k + 1 := by omega
                clear hkl hkl'
                go_wp2_with fail
                all_goals first | (exfalso; omega) | (go_ret; exact ⟨rfl, hB2⟩)
          · have hlt : k < min (min mo (n - pl)) (C - pl) := by
              rw [← hL.out]
              have := hs'.out.r1
              omega
            have hq := hs'.out.stop.resolve_left hkl
            obtain ⟨T, hT⟩ : ∃ T, T = upt R.ps (pl + k + 1) - upt R.ps pl := ⟨_, rfl⟩
            unfold okq at hq
            rw [← hT] at hq
            have HT := Lib.hid (hT ▸ rTurning_any pl (pl + k + 1) pa pn pc ca cn cc ja jn jc R wr (hR.out.grow hB2 hB2.size) hv'.out.pk (by omega) (by omega) (by omega) (by omega) (by omega))
            have hTb : -1000000000000 ≤ T ∧ T ≤ 1000000000000 := by
              have g1 := upt_bd R.ps (pl + k + 1) hv'.out.pk
              have g2 := upt_bd R.ps pl hv'.out.pk
              have g3 := hv'.out.p2
              rw [hT]
              omega
            have hTb1 := hTb.1
            have hTb2 := hTb.2
            have t1 : k < mo := by omega
            have t2 : pl + k + 1 ≤ n := by omega
            have t3 : pl + k + 1 ≤ C := by omega
            clear hT hkl hTb hlt
            by_cases hT1 : an < T
            · clear hq
              go_wp2_with fail
              refine HT.out.mono ?_
              rintro e w2 ⟨rfl, hb2⟩
              have e0'' := (bc hb2 (b := w.heap.size + 1) (o := 0) hsz').trans e0'
              go_wp2_with fail
              go_ret
              exact ⟨rfl, onto hB2 hb2 hB2.size⟩
            · have hT2 : an < -T := by omega
              clear hq
              go_wp2_with fail
              refine HT.out.mono ?_
              rintro e w2 ⟨rfl, hb2⟩
              have e0'' := (bc hb2 (b := w.heap.size + 1) (o := 0) hsz').trans e0'
              go_wp2_with fail
              go_ret
              exact ⟨rfl, onto hB2 hb2 hB2.size⟩
end Go.Proofs.Ytomloklckpcaiaa
