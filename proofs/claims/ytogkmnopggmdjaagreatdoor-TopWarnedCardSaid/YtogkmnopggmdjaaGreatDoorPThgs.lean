/- pace.things: the places of what is noted, in the order of the notes. Printed by genthgs.py. -/
import Derived.Test.YtogkmnopggmdjaaGreatDoorPRadii
import Derived.Test.YtogkmnopggmdjaaGreatDoorPUSymM
import Derived.Test.YtogkmnopggmdjaaGreatDoorPMake
namespace Go.Proofs.YtogkmnopggmdjaaGreatDoor
open Go.RowKit Go.Shelf Go.Sort Go.Proofs

def ptOf (a : Int) (o : Fin 3) : PtR := ⟨⟨a.toNat % 100001, Nat.mod_lt _ (by decide)⟩, o⟩
theorem ptOf_at {a : Int} (h : 0 ≤ a ∧ a ≤ 100000) (o : Fin 3) : (((ptOf a o).at_ : Nat) : Int) = a := by
  show ((a.toNat % 100001 : Nat) : Int) = a
  omega
theorem ptOf_C {a : Int} (h : 0 ≤ a ∧ a ≤ 100000) (o : Fin 3) : ptC (ptOf a o) = [.int .i64 a, .int .i64 ((o : Nat) : Int)] := by
  unfold ptC
  rw [ptOf_at h]
  rfl
theorem ptOf_pos {t : ThR} (h : 0 ≤ t.at_ ∧ t.at_ ≤ 100000) : (ptOf t.at_ t.od).pos = t.pos := by
  unfold PtR.pos ThR.pos
  rw [ptOf_at h]
  rfl
theorem insR_map {α β : Type} (k1 : α → Int) (k2 : β → Int) (g : α → β) : ∀ (S : List α) (x : α), (∀ y ∈ S, k2 (g y) = k1 y) → k2 (g x) = k1 x → insR k2 (S.map g) (g x) = (insR k1 S x).map g
  | [], x, _, _ => rfl
  | y :: S, x, h, hx => by
    have ih := insR_map k1 k2 g S x (fun z hz => h z (List.mem_cons_of_mem _ hz)) hx
    rw [List.map_cons]
    unfold insR
    rw [hx, h y (List.mem_cons_self ..)]
    split
    · rfl
    · rw [ih, List.map_cons]
theorem ssort_map {α β : Type} (k1 : α → Int) (k2 : β → Int) (g : α → β) (l : List α) : (∀ y ∈ l, k2 (g y) = k1 y) → ssort k2 (l.map g) = (ssort k1 l).map g := by
  induction l using snoc_ind with
  | h0 => intro _; rfl
  | h1 l x ih =>
    intro h
    rw [List.map_append, List.map_cons, List.map_nil, ssort_snoc, ssort_snoc, ih (fun y hy => h y (List.mem_append_left _ hy))]
    exact insR_map k1 k2 g _ _ (fun y hy => h y (List.mem_append_left _ (ssort_mem _ _ hy))) (h x (by simp))
def jU (j : Junc) : PtR := ptOf j.pos 0
def cU (c : Crest) : PtR := ptOf c.pos 1
def kU (k : Corner) : PtR := ptOf k.fr 2
def ptsU (b : BkR) (R : Road) : List PtR := R.js.map jU ++ R.cs.map cU ++ (crns b.ga b.le R).map kU
def atU (p : PtR) : Int := ((p.at_ : Nat) : Int)
theorem ptsU_eq (b : BkR) (R : Road) : ptsU b R = (things b R).map fun t => ptOf t.at_ t.od := by
  unfold ptsU things
  rw [List.map_append, List.map_append, List.map_map, List.map_map, List.map_map, List.append_assoc]
  rfl
theorem ptsU_sorted {b : BkR} {R : Road} (hv : OK R) : (ssort (fun x : PtR => x.pos) (ptsU b R)).map atU = placesL b R := by
  rw [ptsU_eq, ssort_map (fun x : ThR => x.pos) (fun x : PtR => x.pos) (fun t => ptOf t.at_ t.od) _ (fun t ht => ptOf_pos (things_bd hv t ht).1), List.map_map]
  unfold placesL
  refine List.map_congr_left fun t ht => ?_
  exact ptOf_at (sthings_bd hv t ht).1 _
theorem infoP : (Tryz.prog.info? 140).map (fun i => (i.zero, i.size, i.bytes)) = some (some (.agg #[.int .i64 0, .int .i64 0]), 2, 16) := by kernel_rfl
theorem infoI4 : (Tryz.prog.info? 3).map (fun i => (i.zero, i.size, i.bytes)) = some (some (.int .i64 0), 1, 8) := by kernel_rfl
theorem US.at_ {w : World} {B n : Nat} {A : Option Addr} {xs : List PtR} (h : SL ptC 2 w B A n xs) {k : Nat} (hk : k < xs.length) : ∃ b off, A = some ⟨b, off, none⟩ ∧ b < B ∧
    w.cell? ⟨b, off + k * 2, none⟩ = some (.int .i64 (atU xs[k])) ∧ w.cell? ⟨b, off + k * 2 + 1, none⟩ = some (.int .i64 ((xs[k].od : Nat) : Int)) := by
  obtain ⟨b, off, e, hb, hc⟩ := h.at_ hk
  exact ⟨b, off, e, hb, hc 0 _ rfl, hc 1 _ rfl⟩
theorem ptC_one (x : PtR) : ∀ u ∈ ptC x, u.oneCell' = true := by simp [ptC, Value.oneCell']
theorem crn_in {R : Road} (hv : OK R) {gap least : Int} {c : Corner} (h : c ∈ crns gap least R) : 0 ≤ c.fr ∧ c.fr ≤ 100000 := by
  have := crn_fine hv h
  have h1 := this.lt
  have h2 := this.lo
  have h3 := this.hi
  have h4 := hv.n1
  omega
theorem junc_in {R : Road} (hv : OK R) {k : Nat} (hk : k < R.js.length) : 0 ≤ R.js[k].pos ∧ R.js[k].pos ≤ 100000 := by
  have h1 := (hv.jk k hk _ (List.getElem?_eq_getElem hk)).1
  have h4 := hv.n1
  simp only [inR, Bool.and_eq_true, decide_eq_true_eq] at h1
  omega
theorem crest_in {R : Road} (hv : OK R) {k : Nat} (hk : k < R.cs.length) : 0 ≤ R.cs[k].pos ∧ R.cs[k].pos ≤ 100000 := by
  have h1 := (hv.ck k hk _ (List.getElem?_eq_getElem hk)).1
  have h4 := hv.n1
  simp only [inR, Bool.and_eq_true, decide_eq_true_eq] at h1
  omega
set_option maxRecDepth 100000 in
set_option maxHeartbeats 8000000 in
theorem things_any (b : BkR) (hv : BkOK b) (ba : Option Addr) (bc : Nat) (pa : Option Addr) (pn pc : Nat) (ca : Option Addr) (cn cc : Nat) (ja : Option Addr) (jn jc : Nat) (R : Road) (hR : OK R) (w : World)
    (h : RD w w.heap.size pa pn ca cn ja jn R) :
    Calls Tryz.prog 32 #[.agg #[.slice pa pn pc, .slice ca cn cc, .slice ja jn jc], bkA ba bc b] w fun e w' => Below w.heap.size w w' ∧ ∃ A c, e = .returned (.tuple #[.slice A (placesL b R).length c, .int .i64 0]) ∧ OW iC 1 3 w.heap.size w' A (placesL b R).length c (placesL b R) := by
  obtain ⟨w0, hw0⟩ : ∃ w0, w0 = (w.alloc (.cells #[.slice pa pn pc, .slice ca cn cc, .slice ja jn jc] 26)).alloc (.cells #[.slice ba b.gs.length bc, .int .i64 b.sh, .int .i64 b.lo, .int .i64 b.ra, .int .i64 b.an, .int .i64 b.io, .int .i64 b.st, .int .i64 b.ga, .int .i64 b.le] 31) := ⟨_, rfl⟩
  have hX0 : BK w0 w.heap.size 26 #[.slice pa pn pc, .slice ca cn cc, .slice ja jn jc] := by rw [hw0]; exact (BK.new w _ _).alloc _
  have hY0 : BK w0 (w.heap.size + 1) 31 #[.slice ba b.gs.length bc, .int .i64 b.sh, .int .i64 b.lo, .int .i64 b.ra, .int .i64 b.an, .int .i64 b.io, .int .i64 b.st, .int .i64 b.ga, .int .i64 b.le] := by
    rw [hw0]
    have := BK.new (w.alloc (.cells #[.slice pa pn pc, .slice ca cn cc, .slice ja jn jc] 26)) 31 #[.slice ba b.gs.length bc, .int .i64 b.sh, .int .i64 b.lo, .int .i64 b.ra, .int .i64 b.an, .int .i64 b.io, .int .i64 b.st, .int .i64 b.ga, .int .i64 b.le]
    rw [World.size_alloc] at this
    exact this
  have hB0 : Below w.heap.size w w0 := by rw [hw0]; exact ((Below.refl _ w).alloc (Nat.le_refl _) _).alloc (by simp) _
  have HR0 := Lib.hid (h.grow hB0 hB0.size)
  have HV := Lib.hid hv
  have HOK := Lib.hid hR
  have HX0 := Lib.hid hX0
  have HB0 := Lib.hid hB0
  have hjl : R.js.length = jn := h.j.1.symm
  have hcnl : R.cs.length = cn := h.c.1.symm
  have hj200 : jn ≤ 200 := by rw [← hjl]; exact hR.j1
  have hc1000 : cn ≤ 1000 := by rw [← hcnl]; exact hR.c1
  have HJL := Lib.hid hjl
  have HCL := Lib.hid hcnl
  have HJ2 := Lib.hid hj200
  have HC2 := Lib.hid hc1000
  have HFI := Lib.hid (ptsU_sorted (b := b) hR)
  obtain ⟨x0, x1, x2⟩ := roadbk hX0
  obtain ⟨y0, y1, y2, y3, y4, y5, y6, y7, y8⟩ := bk9 hY0
  have hbend : bendsOk' b.ga b.le = true := by have := hv.ga1; have := hv.ga2; have := hv.le1; have := hv.le2; simp [bendsOk', inR]; omega
  have HBD := Lib.hid hbend
  unfold bkA
  clear hv hR h hX0 hY0 hB0 hjl hcnl hj200 hc1000 hbend
  go_enter Tryz.func32, Tryz.ntmps32
  go_wp2_with fail
  rw [← hw0]
  clear hw0
  go_wp2_with fail
  refine (Corners_in b.ga b.le pa pn pc ca cn cc ja jn jc R _ HR0.out HOK.out HBD.out).mono ?_
  rintro e w1 ⟨KA, kn, kc, rfl, hK1, hb1⟩
  have HKL : Hid ((crns b.ga b.le R).length = kn) := hK1.2.symm
  have hk2000 : kn ≤ 2000 := by rw [← HKL.out]; exact Nat.le_trans (crns_len _ _ _) HOK.out.p2
  have HK2 := Lib.hid hk2000
  have HK1 := Lib.hid hK1
  have HR1 := Lib.hid (HR0.out.grow hb1 hb1.size)
  have HX1 := Lib.hid (HX0.out.below hb1 HX0.out.lt)
  have HB1 := Lib.hid hb1
  obtain ⟨x0, x1, x2⟩ := roadbk (HX0.out.below hb1 HX0.out.lt)
  clear hb1 hK1 hk2000 y0 y1 y2 y3 y4 y5 y6 y7 y8
  go_wp2_with fail
  clear x0 x1 x2
  go_loopw [8, 31] (fun tv iv wr => ∃ (k : Nat) (A : Option Addr) (c : Nat), k ≤ jn ∧ iv = .int .i64 k ∧ tv = .slice A (k) c ∧ OW ptC 2 140 w1.heap.size wr A (k) c ((R.js.map jU).take k) ∧ Below w1.heap.size w1 wr) (fun _ iv _ => jn - (intOf iv).toNat)
  case atStart => exact ⟨0, none, 0, Nat.zero_le _, rfl, rfl, OW.nil_, Below.refl _ _⟩
  case round =>
    obtain ⟨k, A, c, hk, rfl, rfl, hO, hbr⟩ := hrel
    by_cases hlt : k < jn
    · have hkl : k < R.js.length := by rw [HJL.out]; exact hlt
      have hw := (HR1.out.grow hbr hbr.size).j
      obtain ⟨eb, off, hA, hbB, c0, c1, c2⟩ := JS.at_ hw (k := k) hkl
      subst hA
      have hbd := junc_in HOK.out hkl
      obtain ⟨E, hE⟩ : ∃ E, E = R.js[k] := ⟨_, rfl⟩
      rw [← hE] at hbd c0 c1 c2
      have HT : Hid ((R.js.map jU).take (k + 1) = (R.js.map jU).take k ++ [jU E]) := by
        show _ = _
        rw [hE]
        rw [List.take_succ_eq_append_getElem (by simpa using hkl), List.getElem_map]
      have HCV : Hid (#[.int .i64 E.pos, .int .i64 0].toList = ptC (jU E)) := (ptOf_C hbd 0).symm
      have HO := Lib.hid hO
      have HBR := Lib.hid hbr
      have hzr := hbr.size
      clear hE hw hO hbr hbB hbd
      have hNew : BK ((wr.alloc (.cells #[.int .i64 E.pos, .int .i64 E.arms, .int .i64 E.way] 83)).alloc (.cells #[.int .i64 E.pos, .int .i64 0] 140)) (wr.heap.size + 1) 140 #[.int .i64 E.pos, .int .i64 0] := bk2 _ _ _ _ _
      have hf := ptC_one (jU E)
      have hj200' : jn ≤ 200 := HJ2.out
      have hc1000' : cn ≤ 1000 := HC2.out
      have hk2000' : kn ≤ 2000 := HK2.out
      go_wp2_with (at_builtin; refine wpList_app rfl _ _ 138 rfl w1.heap.size 140 _ 2 16 Tryz.underlying138 infoP rfl (by decide) ptC A (k) c _ rfl ((HO.out.alloc _).alloc _) (jU E) #[.int .i64 E.pos, .int .i64 0] HCV.out rfl 140 (wr.heap.size + 1) rfl hNew hf (by omega) (by omega) (by simp; omega) ?_; intro g' c9 w8 hap; have HAP := Lib.hid hap; clear hap)
      have hbN := ((HBR.out.alloc hzr (.cells #[.int .i64 E.pos, .int .i64 E.arms, .int .i64 E.way] 83)).alloc (by simp; omega) (.cells #[.int .i64 E.pos, .int .i64 0] 140)).trans HAP.out.bel
      go_roundw
      case rel => exact ⟨k + 1, some ⟨g', 0, none⟩, c9, by omega, by go_num, rfl, by rw [HT.out]; exact HAP.out.own, hbN⟩
      case measure => simp [intOf]; omega
    · obtain rfl : jn = k := by omega
      have hx : (R.js.map jU).take jn = R.js.map jU := by rw [List.take_of_length_le]; rw [List.length_map, HJL.out]; exact Nat.le_refl _
      rw [hx] at hO
      obtain ⟨x0, x1, x2⟩ := roadbk (HX1.out.below hbr HX1.out.lt)
      have HO := Lib.hid hO
      have HBR := Lib.hid hbr
      clear hx hO hbr hlt hk
      go_wp2_with fail
      clear x0 x1 x2
      go_loopw [8, 45] (fun tv iv wr => ∃ (k : Nat) (A : Option Addr) (c : Nat), k ≤ cn ∧ iv = .int .i64 k ∧ tv = .slice A (jn + k) c ∧ OW ptC 2 140 w1.heap.size wr A (jn + k) c (R.js.map jU ++ (R.cs.map cU).take k) ∧ Below w1.heap.size w1 wr) (fun _ iv _ => cn - (intOf iv).toNat)
      case atStart => exact ⟨0, A, c, Nat.zero_le _, rfl, rfl, by simpa using HO.out, HBR.out⟩
      case round =>
        obtain ⟨k, A, c, hk, rfl, rfl, hO, hbr⟩ := hrel
        by_cases hlt : k < cn
        · have hkl : k < R.cs.length := by rw [HCL.out]; exact hlt
          have hw := (HR1.out.grow hbr hbr.size).c
          obtain ⟨eb, off, hA, hbB, c0, c1⟩ := CS.at_ hw (k := k) hkl
          subst hA
          have hbd := crest_in HOK.out hkl
          obtain ⟨E, hE⟩ : ∃ E, E = R.cs[k] := ⟨_, rfl⟩
          rw [← hE] at hbd c0 c1
          have HT : Hid (R.js.map jU ++ (R.cs.map cU).take (k + 1) = R.js.map jU ++ (R.cs.map cU).take k ++ [cU E]) := by
            show _ = _
            rw [hE]
            rw [List.take_succ_eq_append_getElem (by simpa using hkl), List.getElem_map, List.append_assoc]
          have HCV : Hid (#[.int .i64 E.pos, .int .i64 1].toList = ptC (cU E)) := (ptOf_C hbd 1).symm
          have HO := Lib.hid hO
          have HBR := Lib.hid hbr
          have hzr := hbr.size
          clear hE hw hO hbr hbB hbd
          have hNew : BK ((wr.alloc (.cells #[.int .i64 E.pos, .int .i64 E.siz] 81)).alloc (.cells #[.int .i64 E.pos, .int .i64 1] 140)) (wr.heap.size + 1) 140 #[.int .i64 E.pos, .int .i64 1] := bk2 _ _ _ _ _
          have hf := ptC_one (cU E)
          have hj200' : jn ≤ 200 := HJ2.out
          have hc1000' : cn ≤ 1000 := HC2.out
          have hk2000' : kn ≤ 2000 := HK2.out
          go_wp2_with (at_builtin; refine wpList_app rfl _ _ 138 rfl w1.heap.size 140 _ 2 16 Tryz.underlying138 infoP rfl (by decide) ptC A (jn + k) c _ rfl ((HO.out.alloc _).alloc _) (cU E) #[.int .i64 E.pos, .int .i64 1] HCV.out rfl 140 (wr.heap.size + 1) rfl hNew hf (by omega) (by omega) (by simp; omega) ?_; intro g' c9 w8 hap; have HAP := Lib.hid hap; clear hap)
          have hbN := ((HBR.out.alloc hzr (.cells #[.int .i64 E.pos, .int .i64 E.siz] 81)).alloc (by simp; omega) (.cells #[.int .i64 E.pos, .int .i64 1] 140)).trans HAP.out.bel
          go_roundw
          case rel => exact ⟨k + 1, some ⟨g', 0, none⟩, c9, by omega, by go_num, rfl, by rw [HT.out]; exact HAP.out.own, hbN⟩
          case measure => simp [intOf]; omega
        · obtain rfl : cn = k := by omega
          have hx : (R.cs.map cU).take cn = R.cs.map cU := by rw [List.take_of_length_le]; rw [List.length_map, HCL.out]; exact Nat.le_refl _
          rw [hx] at hO
          have HO2 := Lib.hid hO
          have HBR2 := Lib.hid hbr
          clear hx hO hbr hlt hk HO HBR
          go_wp2_with fail
          go_loopw [8, 58] (fun tv iv wr => ∃ (k : Nat) (A : Option Addr) (c : Nat), k ≤ kn ∧ iv = .int .i64 k ∧ tv = .slice A (jn + cn + k) c ∧ OW ptC 2 140 w1.heap.size wr A (jn + cn + k) c (R.js.map jU ++ R.cs.map cU ++ ((crns b.ga b.le R).map kU).take k) ∧ Below w1.heap.size w1 wr) (fun _ iv _ => kn - (intOf iv).toNat)
          case atStart => exact ⟨0, A, c, Nat.zero_le _, rfl, rfl, by simpa using HO2.out, HBR2.out⟩
          case round =>
            obtain ⟨k, A, c, hk, rfl, rfl, hO, hbr⟩ := hrel
            by_cases hlt : k < kn
            · have hkl : k < (crns b.ga b.le R).length := by rw [HKL.out]; exact hlt
              have hw := (HK1.out.call hbr).sl kC_len
              obtain ⟨eb, off, hA, hbB, c0, c1, c2, c3, c4, c5, c6⟩ := KS.at_ hw (k := k) hkl
              subst hA
              have hbd := crn_in HOK.out (List.getElem_mem hkl)
              obtain ⟨E, hE⟩ : ∃ E, E = (crns b.ga b.le R)[k] := ⟨_, rfl⟩
              rw [← hE] at hbd c0 c1 c2 c3 c4 c5 c6
              have HT : Hid (R.js.map jU ++ R.cs.map cU ++ ((crns b.ga b.le R).map kU).take (k + 1) = R.js.map jU ++ R.cs.map cU ++ ((crns b.ga b.le R).map kU).take k ++ [kU E]) := by
                show _ = _
                rw [hE]
                rw [List.take_succ_eq_append_getElem (by simpa using hkl), List.getElem_map]; simp only [List.append_assoc]
              have HCV : Hid (#[.int .i64 E.fr, .int .i64 2].toList = ptC (kU E)) := (ptOf_C hbd 2).symm
              have HO := Lib.hid hO
              have HBR := Lib.hid hbr
              have hzr := hbr.size
              clear hE hw hO hbr hbB hbd
              have hNew : BK ((wr.alloc (.cells #[.int .i64 E.fr, .int .i64 E.til, .int .i64 E.turn, .int .i64 E.rad, .int .i64 E.inn, .int .i64 E.out, .int .i64 E.ang] 56)).alloc (.cells #[.int .i64 E.fr, .int .i64 2] 140)) (wr.heap.size + 1) 140 #[.int .i64 E.fr, .int .i64 2] := bk2 _ _ _ _ _
              have hf := ptC_one (kU E)
              have hj200' : jn ≤ 200 := HJ2.out
              have hc1000' : cn ≤ 1000 := HC2.out
              have hk2000' : kn ≤ 2000 := HK2.out
              go_wp2_with (at_builtin; refine wpList_app rfl _ _ 138 rfl w1.heap.size 140 _ 2 16 Tryz.underlying138 infoP rfl (by decide) ptC A (jn + cn + k) c _ rfl ((HO.out.alloc _).alloc _) (kU E) #[.int .i64 E.fr, .int .i64 2] HCV.out rfl 140 (wr.heap.size + 1) rfl hNew hf (by omega) (by omega) (by simp; omega) ?_; intro g' c9 w8 hap; have HAP := Lib.hid hap; clear hap)
              have hbN := ((HBR.out.alloc hzr (.cells #[.int .i64 E.fr, .int .i64 E.til, .int .i64 E.turn, .int .i64 E.rad, .int .i64 E.inn, .int .i64 E.out, .int .i64 E.ang] 56)).alloc (by simp; omega) (.cells #[.int .i64 E.fr, .int .i64 2] 140)).trans HAP.out.bel
              go_roundw
              case rel => exact ⟨k + 1, some ⟨g', 0, none⟩, c9, by omega, by go_num, rfl, by rw [HT.out]; exact HAP.out.own, hbN⟩
              case measure => simp [intOf]; omega
            · obtain rfl : kn = k := by omega
              have hx : R.js.map jU ++ R.cs.map cU ++ ((crns b.ga b.le R).map kU).take kn = ptsU b R := by rw [List.take_of_length_le]; rfl; rw [List.length_map, HKL.out]; exact Nat.le_refl _
              rw [hx] at hO
              have HLP : Hid ((ptsU b R).length = jn + cn + kn) := by show _ = _; unfold ptsU; simp only [List.length_append, List.length_map]; rw [HJL.out, HCL.out, HKL.out]
              have HO3 := Lib.hid hO
              have HBR3 := Lib.hid hbr
              have hn32 : jn + cn + kn ≤ 3200 := by have := HJ2.out; have := HC2.out; have := HK2.out; omega
              have HN3 := Lib.hid hn32
              clear hx hO hbr hlt hk HO2 HBR2 hn32
              go_wp2_with fail
              refine (SortU_ow w1.heap.size A _ c _ _ HO3.out (Nat.le_trans HN3.out (by decide))).mono ?_
              rintro e w4 ⟨⟨v, rfl⟩, hO4, hg4⟩
              have hb4 : Below w1.heap.size w1 w4 := HBR3.out.trans ⟨hg4.os, hg4.tape, hg4.output, hg4.size, fun q hq => hg4.block q (Nat.lt_of_lt_of_le hq HBR3.out.size) (fun e => by
                rcases A with _ | a
                · cases e
                · injection e with e
                  dsimp only at e
                  have := (HO3.out.lt rfl).1
                  omega)⟩
              obtain ⟨n, hn⟩ : ∃ n, n = jn + cn + kn := ⟨_, rfl⟩
              obtain ⟨SU, hSU⟩ : ∃ SU, SU = ssort (fun x : PtR => x.pos) (ptsU b R) := ⟨_, rfl⟩
              rw [← hn, ← hSU] at hO4
              have HLS : Hid (SU.length = n) := by show _ = _; rw [hSU, ssort_len, HLP.out, hn]
              have HF2 : Hid (SU.map atU = placesL b R) := by show _ = _; rw [hSU]; exact HFI.out
              have HN2 : Hid (n ≤ 3200) := by show _ ≤ _; rw [hn]; exact HN3.out
              have HO4 := Lib.hid hO4
              have HB4 := Lib.hid hb4
              rw [← hn]
              clear hn hSU hO4 hg4 hb4 HO3 HBR3 HFI
              go_wp2_with fail
              go_loopw [15, 73] (fun tv iv wr => ∃ (k : Nat) (Ao : Option Addr) (co : Nat), k ≤ n ∧ iv = .int .i64 k ∧ tv = .slice Ao k co ∧ OW iC 1 3 w1.heap.size wr Ao k co ((SU.map atU).take k) ∧ OW ptC 2 140 w1.heap.size wr A n c SU ∧ Below w1.heap.size w1 wr) (fun _ iv _ => n - (intOf iv).toNat)
              case atStart => exact ⟨0, none, 0, Nat.zero_le _, rfl, rfl, OW.nil_, HO4.out, HB4.out⟩
              case round =>
                obtain ⟨k, Ao, co, hk, rfl, rfl, hO, hT, hbr⟩ := hrel
                by_cases hlt : k < n
                · have hkl : k < SU.length := by rw [HLS.out]; exact hlt
                  obtain ⟨tb, off, hA, hbB, c0, c1⟩ := US.at_ (hT.sl ptC_len) (k := k) hkl
                  subst hA
                  have HT : Hid ((SU.map atU).take (k + 1) = (SU.map atU).take k ++ [atU SU[k]]) := by
                    show _ = _
                    rw [List.take_succ_eq_append_getElem (by simpa using hkl), List.getElem_map]
                  generalize SU[k]'hkl = E at *
                  generalize atU E = ea at *
                  generalize ((E.od : Nat) : Int) = eo at *
                  have HO := Lib.hid hO
                  have HTT := Lib.hid hT
                  have HBR := Lib.hid hbr
                  have hzr := hbr.size
                  clear hO hT hbr hbB hkl
                  have hNew : BK ((wr.alloc (.cells #[.int .i64 ea, .int .i64 eo] 140)).alloc (.cells #[.int .i64 ea] 3)) (wr.heap.size + 1) 3 #[.int .i64 ea] := bk2 _ _ _ _ _
                  have hn32' : n ≤ 3200 := HN2.out
                  go_wp2_with (at_builtin; refine wpList_app rfl _ _ 27 rfl w1.heap.size 3 _ 1 8 Tryz.underlying27 infoI4 rfl (by decide) iC Ao k co _ rfl ((HO.out.alloc _).alloc _) ea #[.int .i64 ea] rfl rfl 3 (wr.heap.size + 1) rfl hNew (by simp [iC, Value.oneCell']) (by omega) (by omega) (by simp; omega) ?_; intro g' c9 w8 hap; have HAP := Lib.hid hap; clear hap)
                  have hbN := ((HBR.out.alloc hzr (.cells #[.int .i64 ea, .int .i64 eo] 140)).alloc (by simp; omega) (.cells #[.int .i64 ea] 3)).trans HAP.out.bel
                  have hTN : OW ptC 2 140 w1.heap.size w8 (some ⟨tb, off, none⟩) n c SU := ((HTT.out.alloc (.cells #[.int .i64 ea, .int .i64 eo] 140)).alloc (.cells #[.int .i64 ea] 3)).keep (fun g hg => HAP.out.far _ (by have := (HTT.out.lt hg).2; simp only [World.size_alloc]; omega) (fun q hq => OW.ne HO.out HTT.out (by decide) hq hg))
                  go_roundw
                  case rel => exact ⟨k + 1, some ⟨g', 0, none⟩, c9, by omega, by go_num, rfl, by rw [HT.out]; exact HAP.out.own, hTN, hbN⟩
                  case measure => simp [intOf]; omega
                · obtain rfl : n = k := by omega
                  have hfin : (SU.map atU).take n = placesL b R := by rw [List.take_of_length_le (by rw [List.length_map, HLS.out]; exact Nat.le_refl _)]; exact HF2.out
                  rw [hfin] at hO
                  have HLN : Hid ((placesL b R).length = n) := by show _ = _; rw [← HF2.out, List.length_map, HLS.out]
                  have HO9 := Lib.hid (hO.drop0 (Nat.le_trans HB0.out.size HB1.out.size))
                  have HB9 := Lib.hid (HB0.out.trans ((HB1.out.trans (hbr.mono HB1.out.size)).mono HB0.out.size))
                  clear hfin hO hT hbr
                  go_wp2_with fail
                  go_ret2
                  exact ⟨HB9.out, Ao, co, by rw [HLN.out]; rfl, by rw [HLN.out]; exact HO9.out⟩
end Go.Proofs.YtogkmnopggmdjaaGreatDoor
