/- pace.worth; pace.Calls of a road, a book and a speech that are as defined. Printed by genpcal.py. -/
import Derived.Test.YtogkmnopggmdjaaGreatDoorPThgs
import Derived.Test.YtogkmnopggmdjaaGreatDoorPKnown3
namespace Go.Proofs.YtogkmnopggmdjaaGreatDoor
open Go.RowKit Go.Shelf Go.Sort Go.Proofs

set_option maxRecDepth 100000 in
set_option maxHeartbeats 4000000 in
theorem worth_any (k tu gr lo ch ton me si wa ar : Int) (hv : nVal ⟨k, tu, gr, lo, ch, ton, me, si, wa, ar⟩ = true) (w : World) :
    Calls Tryz.prog 34 #[.agg #[.int .i64 k, .int .i64 tu, .int .i64 gr, .int .i64 lo, .int .i64 ch, .int .i64 ton, .int .i64 me, .int .i64 si, .int .i64 wa, .int .i64 ar]] w fun e w' => e = .returned (.int .i64 (worthI ⟨k, tu, gr, lo, ch, ton, me, si, wa, ar⟩)) ∧ Below w.heap.size w w' := by
  obtain ⟨w0, hw0⟩ : ∃ w0, w0 = w.alloc (.cells #[.int .i64 k, .int .i64 tu, .int .i64 gr, .int .i64 lo, .int .i64 ch, .int .i64 ton, .int .i64 me, .int .i64 si, .int .i64 wa, .int .i64 ar] 54) := ⟨_, rfl⟩
  have hX : BK w0 w.heap.size 54 #[.int .i64 k, .int .i64 tu, .int .i64 gr, .int .i64 lo, .int .i64 ch, .int .i64 ton, .int .i64 me, .int .i64 si, .int .i64 wa, .int .i64 ar] := by rw [hw0]; exact BK.new w _ _
  have HB0 : Hid (Below w.heap.size w w0) := by show Below _ _ _; rw [hw0]; exact (Below.refl _ w).alloc (Nat.le_refl _) _
  obtain ⟨x0, x1, x2, x3, x4, x5, x6, x7, x8, x9⟩ := bk10 hX
  clear hX x1 x3 x4 x5 x6 x8 x9
  by_cases k1 : k = 1
  · subst k1
    have hg : 1 ≤ gr ∧ gr ≤ 9 := by rw [nVal1] at hv; omega
    obtain ⟨q, hq⟩ : ∃ q, q = 10 - gr := ⟨_, rfl⟩
    have HW : Hid (worthI ⟨1, tu, gr, lo, ch, ton, me, si, wa, ar⟩ = max 1 q) := by show _ = _; rw [hq]; rfl
    have hwr : IntKind.i64.wrap (10 - gr) = q := by rw [hq]; exact IntWalk.i64_in _ (by omega)
    have hite : (if (1 : Int) < q then q else 1) = max 1 q := by split <;> omega
    clear hv hg hq
    go_enter Tryz.func34, Tryz.ntmps34
    go_wp2_with fail
    rw [← hw0]
    clear hw0
    go_wp2_with fail
    go_ret
    exact ⟨by rw [HW.out]; rfl, HB0.out⟩
  have g1 : (k == 1) = false := by simpa using k1
  by_cases k5 : k = 5
  · subst k5
    have hg : 1 ≤ si ∧ si ≤ 3 := by rw [nVal5] at hv; omega
    have HW : Hid (worthI ⟨5, tu, gr, lo, ch, ton, me, si, wa, ar⟩ = 4 - si) := by show _ = _; rfl
    have hwr : IntKind.i64.wrap (4 - si) = 4 - si := IntWalk.i64_in _ (by omega)
    clear hv hg k1 g1
    go_enter Tryz.func34, Tryz.ntmps34
    go_wp2_with fail
    rw [← hw0]
    clear hw0
    go_wp2_with fail
    go_ret
    exact ⟨by rw [HW.out]; rfl, HB0.out⟩
  have g5 : (k == 5) = false := by simpa using k5
  by_cases k7 : k = 7
  · subst k7
    have HW : Hid (worthI ⟨7, tu, gr, lo, ch, ton, me, si, wa, ar⟩ = 3) := by show _ = _; rfl
    clear hv k1 k5 g1 g5
    go_enter Tryz.func34, Tryz.ntmps34
    go_wp2_with fail
    rw [← hw0]
    clear hw0
    go_wp2_with fail
    go_ret
    exact ⟨by rw [HW.out]; rfl, HB0.out⟩
  · have g7 : (k == 7) = false := by simpa using k7
    have HW : Hid (worthI ⟨k, tu, gr, lo, ch, ton, me, si, wa, ar⟩ = 0) := by show _ = _; unfold worthI; rw [if_neg k1, if_neg k5, if_neg k7]
    clear hv k1 k5 k7
    go_enter Tryz.func34, Tryz.ntmps34
    go_wp2_with fail
    rw [← hw0]
    clear hw0
    go_wp2_with fail
    go_ret
    exact ⟨by rw [HW.out]; rfl, HB0.out⟩
theorem infoCa : (Tryz.prog.info? 49).map (fun i => (i.zero, i.size, i.bytes)) = some (some (.agg #[.int .i64 0, .int .i64 0, .int .i64 0, .int .i64 0, .int .i64 0]), 5, 40) := by kernel_rfl
def wpos (n : NoteR) : Bool := decide (0 < worthI n)
theorem count_calls {b : BkR} (v l lead ahead : Int) (ps : List Int) : ∀ (ns : List NoteR) (k : Nat) (g : Int), (callsF ps v l lead ahead k g ns).length = ns.countP wpos
  | [], _, _ => by unfold callsF; rfl
  | n :: r, k, g => by
    unfold callsF
    rw [List.countP_cons]
    by_cases h : 0 < worthI n
    · rw [if_pos h, List.length_cons, count_calls (b := b) v l lead ahead ps r, if_pos (by unfold wpos; simpa using h)]
    · rw [if_neg h, count_calls (b := b) v l lead ahead ps r, if_neg (by unfold wpos; simpa using h)]
      rfl
/-- As many notes are worth something as there are places. -/
theorem count_places {b : BkR} {R : Road} (hv : OK R) : (makeL b R).countP wpos = (placesL b R).length := by
  have h1 := count_calls (b := b) 0 0 0 0 (placesL b R) (makeL b R) 0 0
  have h2 := congrArg List.length (callsR_place (b := b) hv 0 0 0 0)
  rw [List.length_map] at h2
  rw [← h1, ← h2]
  rfl
theorem lastV_ok {n : NoteR} (h : nVal n = true) (v l : Int) : lastV n v l = (lastS v l (nTxt n), 0) := by unfold lastV; rw [if_pos h]
theorem callsF_yes {ps : List Int} {v l lead ahead : Int} {k : Nat} {g : Int} {n : NoteR} {r : List NoteR} (h : 0 < worthI n) {p : Int} (hp : ps[k]? = some p) :
    callsF ps v l lead ahead k g (n :: r) = ⟨p, g + lastS v l (nTxt n), lead, ahead, worthI n⟩ :: callsF ps v l lead ahead (k + 1) 0 r := by
  rw [callsF, if_pos h, List.getD_eq_getElem?_getD, hp]
  rfl
theorem callsF_no {ps : List Int} {v l lead ahead : Int} {k : Nat} {g : Int} {n : NoteR} {r : List NoteR} (h : ¬ 0 < worthI n) :
    callsF ps v l lead ahead k g (n :: r) = callsF ps v l lead ahead k (g + lastS v l (nTxt n)) r := by
  rw [callsF, if_neg h]
theorem rm_okC {w w' : World} {b : BkR} {R : Road} {e : Ending} (hl : (makeL b R).length ≤ 2000) (h : RM w b R e w') : Below w.heap.size w w' ∧ ∃ A c, e = .returned (.tuple #[.slice A (makeL b R).length c, .int .i64 0]) ∧ OW nC 10 54 w.heap.size w' A (makeL b R).length c (makeL b R) := by
  obtain ⟨hb, ⟨hk, -⟩ | ⟨-, h⟩⟩ := h
  · omega
  · exact ⟨hb, h⟩
set_option maxRecDepth 100000 in
set_option maxHeartbeats 8000000 in
theorem pCalls_ok (b : BkR) (hv : BkOK b) (ba : Option Addr) (bc : Nat) (pa : Option Addr) (pn pc : Nat) (ca : Option Addr) (cn cc : Nat) (ja : Option Addr) (jn jc : Nat) (R : Road) (hR : OK R) (v l lead ahead : Int) (hs : spchB v l = true)
    (h1 : inR lead 0 1125899906842624 = true) (h2 : inR ahead 0 1125899906842624 = true) (hn : R.js.length + R.cs.length + R.ps.length ≤ 200) (w : World)
    (h : RD w w.heap.size pa pn ca cn ja jn R) (hb : SL iC 1 w w.heap.size ba b.gs.length b.gs) (ht : Lib.TabIs Tryz.prog w pow10N .u64 Lib.pow10Tab) :
    Calls Tryz.prog 10 #[.agg #[.slice pa pn pc, .slice ca cn cc, .slice ja jn jc], bkA ba bc b, .agg #[.int .i64 v, .int .i64 l], .int .i64 lead, .int .i64 ahead] w fun e w' =>
      Below w.heap.size w w' ∧ ∃ A c, e = .returned (.tuple #[.slice A (callsR b R v l lead ahead).length c, .int .i64 0]) ∧ OW caC 5 49 w.heap.size w' A (callsR b R v l lead ahead).length c (callsR b R v l lead ahead) := by
  obtain ⟨w0, hw0⟩ : ∃ w0, w0 = ((w.alloc (.cells #[.slice pa pn pc, .slice ca cn cc, .slice ja jn jc] 26)).alloc (.cells #[.slice ba b.gs.length bc, .int .i64 b.sh, .int .i64 b.lo, .int .i64 b.ra, .int .i64 b.an, .int .i64 b.io, .int .i64 b.st, .int .i64 b.ga, .int .i64 b.le] 31)).alloc (.cells #[.int .i64 v, .int .i64 l] 33) := ⟨_, rfl⟩
  have hX0 : BK w0 w.heap.size 26 #[.slice pa pn pc, .slice ca cn cc, .slice ja jn jc] := by rw [hw0]; exact ((BK.new w _ _).alloc _).alloc _
  have hY0 : BK w0 (w.heap.size + 1) 31 #[.slice ba b.gs.length bc, .int .i64 b.sh, .int .i64 b.lo, .int .i64 b.ra, .int .i64 b.an, .int .i64 b.io, .int .i64 b.st, .int .i64 b.ga, .int .i64 b.le] := by
    rw [hw0]
    have := BK.new (w.alloc (.cells #[.slice pa pn pc, .slice ca cn cc, .slice ja jn jc] 26)) 31 #[.slice ba b.gs.length bc, .int .i64 b.sh, .int .i64 b.lo, .int .i64 b.ra, .int .i64 b.an, .int .i64 b.io, .int .i64 b.st, .int .i64 b.ga, .int .i64 b.le]
    rw [World.size_alloc] at this
    exact this.alloc _
  have hZ0 : BK w0 (w.heap.size + 2) 33 #[.int .i64 v, .int .i64 l] := by
    rw [hw0]
    have := BK.new ((w.alloc (.cells #[.slice pa pn pc, .slice ca cn cc, .slice ja jn jc] 26)).alloc (.cells #[.slice ba b.gs.length bc, .int .i64 b.sh, .int .i64 b.lo, .int .i64 b.ra, .int .i64 b.an, .int .i64 b.io, .int .i64 b.st, .int .i64 b.ga, .int .i64 b.le] 31)) 33 #[.int .i64 v, .int .i64 l]
    rw [World.size_alloc, World.size_alloc] at this
    exact this
  have hB0 : Below w.heap.size w w0 := by rw [hw0]; exact (((Below.refl _ w).alloc (Nat.le_refl _) _).alloc (by simp) _).alloc (by simp; omega) _
  have HR0 := Lib.hid (h.grow hB0 hB0.size)
  have HS0 := Lib.hid ((hb.below hB0).more hB0.size)
  have HT0 := Lib.hid (pow10_stays ht hB0 (Nat.le_refl _))
  have HV := Lib.hid hv
  have HOK := Lib.hid hR
  have HX0 := Lib.hid hX0
  have HY0 := Lib.hid hY0
  have HZ0 := Lib.hid hZ0
  have HB0 := Lib.hid hB0
  have HSP := Lib.hid (spch_bd hs)
  have HSPB := Lib.hid hs
  have HL1 := Lib.hid h1
  have HL2 := Lib.hid h2
  have HVAL := Lib.hid (makeL_val hv hR)
  have hml := makeL_len (b := b) (R := R)
  have hmm : (makeL b R).length ≤ 400 := by omega
  have HMM := Lib.hid hmm
  have hcl := crns_len b.ga b.le R
  have hpl : (placesL b R).length ≤ 200 := by
    unfold placesL
    rw [List.length_map, sthings_len]
    unfold things
    simp
    omega
  have HPL := Lib.hid hpl
  have HCP := Lib.hid (count_places (b := b) hR)
  have HCL : Hid ((callsR b R v l lead ahead).length = (placesL b R).length) := by show _ = _; rw [← callsR_place hR v l lead ahead, List.length_map]
  obtain ⟨x0, x1, x2⟩ := roadbk hX0
  obtain ⟨y0, y1, y2, y3, y4, y5, y6, y7, y8⟩ := bk9 hY0
  have z0 := hZ0.cell 0
  have z1 := hZ0.cell 1
  simp only [List.getElem?_toArray, List.getElem?_cons_zero, List.getElem?_cons_succ] at z0 z1
  unfold bkA
  clear hv hR h hb hX0 hY0 hZ0 hB0 ht hs h1 h2 hml hmm hcl hpl hn
  go_enter Tryz.func10, Tryz.ntmps10
  go_wp2_with fail
  rw [← hw0]
  clear hw0
  go_wp2_with (first | (go_at_call 30; refine (pspeech_any v l _).mono ?_; rintro e w1 ⟨rfl, hb1⟩; rw [HSPB.out]; obtain ⟨x0, x1, x2⟩ := roadbk (HX0.out.below hb1 HX0.out.lt); obtain ⟨y0, y1, y2, y3, y4, y5, y6, y7, y8⟩ := bk9 (HY0.out.below hb1 HY0.out.lt); have HB1 := Lib.hid hb1; clear hb1) | (go_at_call 31; refine (pwithin_any _ _ _ _).mono ?_; rintro e w' ⟨rfl, rfl⟩; first | rw [HL1.out] | rw [HL2.out]))
  have hmk := nMake_ok b HV.out ba bc pa pn pc ca cn cc ja jn jc R HOK.out _ (HR0.out.grow HB1.out HB1.out.size) ((HS0.out.below HB1.out).more HB1.out.size)
  unfold bkA at hmk
  refine hmk.mono ?_
  clear hmk
  intro e w2 hm
  obtain ⟨hb2, NA, nc, rfl, hO2⟩ := rm_okC (Nat.le_trans HMM.out (by decide)) hm
  have HO2 := Lib.hid hO2
  have HB2 := Lib.hid (HB1.out.trans (hb2.mono HB1.out.size))
  have HZ1 := Lib.hid HB1.out.size
  clear hm hO2 hb2 x0 x1 x2 y0 y1 y2 y3 y4 y5 y6 y7 y8 z0 z1
  obtain ⟨x0, x1, x2⟩ := roadbk (HX0.out.below HB2.out HX0.out.lt)
  obtain ⟨y0, y1, y2, y3, y4, y5, y6, y7, y8⟩ := bk9 (HY0.out.below HB2.out HY0.out.lt)
  go_wp2_with fail
  have hth := things_any b HV.out ba bc pa pn pc ca cn cc ja jn jc R HOK.out w2 (HR0.out.grow HB2.out HB2.out.size)
  unfold bkA at hth
  refine hth.mono ?_
  clear hth
  rintro e w3 ⟨hb3, PW, pc', rfl, hP3⟩
  have HP3 := Lib.hid (hP3.drop0 HB2.out.size)
  have HO3 := Lib.hid ((HO2.out.call hb3).drop0 HZ1.out)
  have HB3 := Lib.hid (HB2.out.trans (hb3.mono HB2.out.size))
  clear hP3 hb3 x0 x1 x2 y0 y1 y2 y3 y4 y5 y6 y7 y8 HO2
  obtain ⟨n, hn⟩ : ∃ n, n = (makeL b R).length := ⟨_, rfl⟩
  obtain ⟨m, hm⟩ : ∃ m, m = (placesL b R).length := ⟨_, rfl⟩
  have HLN := Lib.hid hn
  have HLM := Lib.hid hm
  have hn4 : n ≤ 400 := by rw [hn]; exact HMM.out
  have HN4 := Lib.hid hn4
  have hm2 : m ≤ 200 := by rw [hm]; exact HPL.out
  have HM2 := Lib.hid hm2
  have HO3' : Hid (OW nC 10 54 w0.heap.size w3 NA n nc (makeL b R)) := by show OW _ _ _ _ _ _ _ _ _; rw [hn]; exact HO3.out
  have HP3' : Hid (OW iC 1 3 w0.heap.size w3 PW m pc' (placesL b R)) := by show OW _ _ _ _ _ _ _ _ _; rw [hm]; exact HP3.out
  rw [← hn, ← hm]
  clear hn hm HO3 HP3 hn4 hm2
  go_wp2_with fail
  go_loopw [15, 16, 55] (fun ov gv iv wr => ∃ (k : Nat) (acc : List CallR) (g : Int) (Ao : Option Addr) (co : Nat), k ≤ n ∧ iv = .int .i64 k ∧ ov = .slice Ao acc.length co ∧ gv = .int .i64 g ∧ (0 ≤ g ∧ g ≤ 1000000000000 * k) ∧ acc.length + ((makeL b R).drop k).countP wpos = m ∧ callsR b R v l lead ahead = acc ++ callsF (placesL b R) v l lead ahead acc.length g ((makeL b R).drop k) ∧ OW caC 5 49 w0.heap.size wr Ao acc.length co acc ∧ OW nC 10 54 w0.heap.size wr NA n nc (makeL b R) ∧ OW iC 1 3 w0.heap.size wr PW m pc' (placesL b R) ∧ Below w0.heap.size w0 wr) (fun _ _ iv _ => n - (intOf iv).toNat)
  case atStart => exact ⟨0, [], 0, none, 0, Nat.zero_le _, rfl, rfl, rfl, ⟨Int.le_refl _, by omega⟩, by rw [List.drop_zero, HCP.out, HLM.out]; simp, rfl, OW.nil_, HO3'.out, HP3'.out, HB3.out⟩
  case round =>
    obtain ⟨k, acc, g, Ao, co, hk, rfl, rfl, rfl, hg, hct, hq, hO, hNo, hPl, hbr⟩ := hrel
    by_cases hlt : k < n
    · have hkl : k < (makeL b R).length := by rw [← HLN.out]; exact hlt
      obtain ⟨eb, off, hA, hbB, c0, c1, c2, c3, c4, c5, c6, c7, c8, c9⟩ := NS.at_ (hNo.sl nC_len) hkl
      have hval := HVAL.out _ (List.getElem_mem hkl)
      rw [List.drop_eq_getElem_cons hkl] at hq hct
      generalize (makeL b R)[k]'hkl = E at *
      subst hA
      rw [List.countP_cons] at hct
      have HO := Lib.hid hO
      have HNO := Lib.hid hNo
      have HPO := Lib.hid hPl
      have HBR := Lib.hid hbr
      have HQ := Lib.hid hq
      have HCT := Lib.hid hct
      have HG := Lib.hid hg
      have HVE := Lib.hid hval
      have hzr := hbr.size
      have hzw := HB0.out.size
      have HZW := Lib.hid hzw
      clear hO hNo hPl hbr hq hct hg hval hkl hbB
      go_upto_region 14 with fail
      refine wp_wnamed (fun W1 hW1 => ?_)
      have hE1 : BK W1 wr.heap.size 54 #[.int .i64 E.k, .int .i64 E.tu, .int .i64 E.gr, .int .i64 E.lo, .int .i64 E.ch, .int .i64 E.ton, .int .i64 E.me, .int .i64 E.si, .int .i64 E.wa, .int .i64 E.ar] := by rw [hW1]; exact BK.new _ _ _
      have hB1 : Below w0.heap.size w0 W1 := by rw [hW1]; exact HBR.out.alloc hzr _
      have hO1 : OW caC 5 49 w0.heap.size W1 Ao acc.length co acc := by rw [hW1]; exact HO.out.alloc _
      have hN1 : OW nC 10 54 w0.heap.size W1 (some ⟨eb, off, none⟩) n nc (makeL b R) := by rw [hW1]; exact HNO.out.alloc _
      have hP1 : OW iC 1 3 w0.heap.size W1 PW m pc' (placesL b R) := by rw [hW1]; exact HPO.out.alloc _
      clear hW1 c0 c1 c2 c3 c4 c5 c6 c7 c8 c9 HO HNO HPO HBR
      have hz1 := hE1.lt
      obtain ⟨e0, e1, e2, e3, e4, e5, e6, e7, e8, e9⟩ := bk10 hE1
      have z := HZ0.out.below hB1 HZ0.out.lt
      have z0 := z.cell 0
      have z1 := z.cell 1
      simp only [List.getElem?_toArray, List.getElem?_cons_zero, List.getElem?_cons_succ] at z0 z1
      have HE1 := Lib.hid hE1
      have HB1' := Lib.hid hB1
      clear z hE1 hB1
      go_wp2_with fail
      have hla := plasts_any E.k E.tu E.gr E.lo E.ch E.ton E.me E.si E.wa E.ar v l HSPB.out W1 (pow10_stays HT0.out HB1'.out (Nat.le_refl _))
      rw [lastV_ok HVE.out] at hla
      refine hla.mono ?_
      clear hla e0 e1 e2 e3 e4 e5 e6 e7 e8 e9 z0 z1
      rintro e W2 ⟨rfl, hb2⟩
      have HLB := Lib.hid (lastS_le HSP.out.1 HSP.out.2 HVE.out)
      obtain ⟨d, hd⟩ : ∃ d, d = lastS v l (nTxt E) := ⟨_, rfl⟩
      have HD := Lib.hid hd
      rw [← hd] at HLB ⊢
      clear hd
      have HB2' := Lib.hid (HB1'.out.trans (hb2.mono HB1'.out.size))
      have HO2' := Lib.hid (hO1.call hb2)
      have HN2' := Lib.hid (hN1.call hb2)
      have HP2' := Lib.hid (hP1.call hb2)
      have HE2 := Lib.hid (HE1.out.below hb2 hz1)
      have hz2 : wr.heap.size < W2.heap.size := Nat.lt_of_lt_of_le hz1 hb2.size
      obtain ⟨e0, e1, e2, e3, e4, e5, e6, e7, e8, e9⟩ := bk10 HE2.out
      have hgw : IntKind.i64.wrap (g + d) = g + d := IntWalk.i64_in _ (by have := HLB.out; have := HG.out; have := HN4.out; omega)
      clear hb2 hO1 hN1 hP1 HE1 HB1' hz1
      go_wp2_with fail
      refine (worth_any E.k E.tu E.gr E.lo E.ch E.ton E.me E.si E.wa E.ar HVE.out W2).mono ?_
      rintro e W3 ⟨rfl, hb3⟩
      have HWV := Lib.hid (worth_val HVE.out)
      have HB3' := Lib.hid (HB2'.out.trans (hb3.mono HB2'.out.size))
      have HO3'' := Lib.hid (HO2'.out.call hb3)
      have HN3' := Lib.hid (HN2'.out.call hb3)
      have HP3'' := Lib.hid (HP2'.out.call hb3)
      have hz3 : wr.heap.size < W3.heap.size := Nat.lt_of_lt_of_le hz2 hb3.size
      obtain ⟨wo, hwo⟩ : ∃ wo, wo = worthI E := ⟨_, rfl⟩
      have HWO := Lib.hid hwo
      rw [show worthI ⟨E.k, E.tu, E.gr, E.lo, E.ch, E.ton, E.me, E.si, E.wa, E.ar⟩ = wo from hwo.symm]
      clear hwo hb3 HB2' HO2' HN2' HP2' HE2 e0 e1 e2 e3 e4 e5 e6 e7 e8 e9 hz2 hgw
      by_cases hw0 : 0 < wo
      · have g0 : decide (0 < wo) = true := decide_eq_true hw0
        have hpos : 0 < worthI E := by rw [← HWO.out]; exact hw0
        have hac : acc.length < m := by have := HCT.out; rw [if_pos (by unfold wpos; simpa using hpos)] at this; omega
        have hacp : acc.length < (placesL b R).length := by rw [← HLM.out]; exact hac
        have hSP := HP3''.out.sl (fun _ => rfl)
        obtain ⟨qb, qo, hQA, hqB, q0⟩ := IS.at_ hSP hacp
        have hPk : (placesL b R)[acc.length]? = some ((placesL b R)[acc.length]'hacp) := List.getElem?_eq_getElem hacp
        generalize (placesL b R)[acc.length]'hacp = P at *
        have HNX : Hid (callsR b R v l lead ahead = (acc ++ [⟨P, g + d, lead, ahead, wo⟩]) ++ callsF (placesL b R) v l lead ahead (acc.length + 1) 0 ((makeL b R).drop (k + 1))) := by
          show _ = _
          rw [HQ.out, callsF_yes hpos hPk, ← HD.out, ← HWO.out, List.append_assoc]
          rfl
        have HC2 : Hid (acc.length + 1 + ((makeL b R).drop (k + 1)).countP wpos = m) := by
          have := HCT.out; rw [if_pos (by unfold wpos; simpa using hpos)] at this; show _ = _; omega
        have hgw : IntKind.i64.wrap (g + d) = g + d := IntWalk.i64_in _ (by have := HLB.out; have := HG.out; have := HN4.out; omega)
        subst hQA
        have haci : (acc.length : Int) < (m : Int) := by omega
        have hm2' : m ≤ 200 := HM2.out
        have hn4' : n ≤ 400 := HN4.out
        have hz9 := HB3'.out.size
        have hzw' := HZW.out
        clear hw0 hpos hacp hSP hPk hqB
        have hNew : BK (W3.alloc (.cells #[.int .i64 P, .int .i64 (g + d), .int .i64 lead, .int .i64 ahead, .int .i64 wo] 49)) W3.heap.size 49 #[.int .i64 P, .int .i64 (g + d), .int .i64 lead, .int .i64 ahead, .int .i64 wo] := BK.new _ _ _
        go_wp2_with (at_builtin; refine wpList_app rfl _ _ 38 rfl w0.heap.size 49 _ 5 40 Tryz.underlying38 infoCa rfl (by decide) caC Ao acc.length co _ rfl (HO3''.out.alloc _) ⟨P, g + d, lead, ahead, wo⟩ #[.int .i64 P, .int .i64 (g + d), .int .i64 lead, .int .i64 ahead, .int .i64 wo] rfl rfl 49 W3.heap.size rfl hNew (by simp [caC, Value.oneCell']) (by omega) (by omega) (by simp; omega) ?_; intro g' c9 w8 hap; have HAP := Lib.hid hap; clear hap)
        have hbN := (HB3'.out.alloc hz9 (.cells #[.int .i64 P, .int .i64 (g + d), .int .i64 lead, .int .i64 ahead, .int .i64 wo] 49)).trans HAP.out.bel
        have hNN : OW nC 10 54 w0.heap.size w8 (some ⟨eb, off, none⟩) n nc (makeL b R) := (HN3'.out.alloc (.cells #[.int .i64 P, .int .i64 (g + d), .int .i64 lead, .int .i64 ahead, .int .i64 wo] 49)).keep (fun g hg => HAP.out.far _ (by have := (HN3'.out.lt hg).2; rw [World.size_alloc]; omega) (fun q hq => OW.ne HO3''.out HN3'.out (by decide) hq hg))
        have hPN : OW iC 1 3 w0.heap.size w8 (some ⟨qb, qo, none⟩) m pc' (placesL b R) := (HP3''.out.alloc (.cells #[.int .i64 P, .int .i64 (g + d), .int .i64 lead, .int .i64 ahead, .int .i64 wo] 49)).keep (fun g hg => HAP.out.far _ (by have := (HP3''.out.lt hg).2; rw [World.size_alloc]; omega) (fun q hq => OW.ne HO3''.out HP3''.out (by decide) hq hg))
        go_roundw
        case rel => exact ⟨k + 1, acc ++ [⟨P, g + d, lead, ahead, wo⟩], 0, some ⟨g', 0, none⟩, c9, by omega, by go_num, by rw [List.length_append]; rfl, rfl, ⟨Int.le_refl _, by omega⟩, by rw [List.length_append, List.length_singleton]; exact HC2.out, by rw [HNX.out, List.length_append, List.length_singleton], by rw [List.length_append]; exact HAP.out.own, hNN, hPN, hbN⟩
        case measure => simp [intOf]; omega
      · have g0 : decide (0 < wo) = false := decide_eq_false hw0
        have hpos : ¬ 0 < worthI E := by rw [← HWO.out]; exact hw0
        have HNX : Hid (callsR b R v l lead ahead = acc ++ callsF (placesL b R) v l lead ahead acc.length (g + d) ((makeL b R).drop (k + 1))) := by
          show _ = _
          rw [HQ.out, callsF_no hpos, ← HD.out]
        have HC2 : Hid (acc.length + ((makeL b R).drop (k + 1)).countP wpos = m) := by
          have := HCT.out; rw [if_neg (by unfold wpos; simpa using hpos)] at this; show _ = _; omega
        have hgb : 0 ≤ g + d ∧ g + d ≤ 1000000000000 * (k + 1) := by have := HLB.out; have := HG.out; omega
        have hgw : IntKind.i64.wrap (g + d) = g + d := IntWalk.i64_in _ (by have := HN4.out; omega)
        have hn4' : n ≤ 400 := HN4.out
        clear hw0 hpos
        go_wp2_with fail
        go_roundw
        case rel => exact ⟨k + 1, acc, g + d, Ao, co, by omega, by go_num, rfl, rfl, ⟨hgb.1, by have := hgb.2; omega⟩, HC2.out, HNX.out, HO3''.out, HN3'.out, HP3''.out, HB3'.out⟩
        case measure => simp [intOf]; omega
    · obtain rfl : n = k := by omega
      have hnil : (makeL b R).drop n = [] := by rw [List.drop_eq_nil_iff, ← HLN.out]; exact Nat.le_refl _
      rw [hnil] at hq hct
      have hfin : callsR b R v l lead ahead = acc := by rw [hq, callsF, List.append_nil]
      have HF := Lib.hid hfin
      have hal : acc.length ≤ 200 := by have := HM2.out; simp at hct; omega
      have g0 : decide ((300 : Int) < (acc.length : Int)) = false := decide_eq_false (by omega)
      have HO9 := Lib.hid (hO.drop0 HB0.out.size)
      have HB9 := Lib.hid (HB0.out.trans (hbr.mono HB0.out.size))
      clear hnil hfin hO hNo hPl hbr hq hct hg hal
      go_wp2_with fail
      go_ret2
      exact ⟨HB9.out, Ao, co, by rw [HF.out]; rfl, by rw [HF.out]; exact HO9.out⟩
end Go.Proofs.YtogkmnopggmdjaaGreatDoor
