/- The meaning of a note. Printed by genmean.py. -/
import Derived.Test.YtnmipejpjeakbaaGreatDoorPLink
import Derived.Test.YtnmipejpjeakbaaGreatDoorPNList
namespace Go.Proofs.YtnmipejpjeakbaaGreatDoor
open Go.RowKit Go.Shelf Go.Sort Go.Proofs

/-- The meaning of a corner's note. -/
structure MeanR where
  fr : Int
  to_ : Int
  lt : Int
  la : Int
  an : Int
  mo : Int
def mA (m : MeanR) : Value := .agg #[.int .i64 m.fr, .int .i64 m.to_, .int .i64 m.lt, .int .i64 m.la, .int .i64 m.an, .int .i64 m.mo]
def zeroM : MeanR := ⟨0, 0, 0, 0, 0, 0⟩
def latR (b : BkR) (nt : NoteR) : Int × Int × Bool := if nt.ch = 0 then (0, 0, true) else radI b nt.ton
def angM (b : BkR) (l : Int) : Int := if l = -1 then 0 else if l = 0 then b.sh else b.lo
def mosM (b : BkR) (l : Int) : Int := if l = -1 then b.sh - 1 else if l = 0 then b.lo - 1 else 10000
/-- The meaning; none. -/
def meanN (b : BkR) (nt : NoteR) : Option MeanR :=
  if (radI b nt.gr).2.2 && (latR b nt).2.2 then some ⟨(radI b nt.gr).1, (radI b nt.gr).2.1, (latR b nt).1, (latR b nt).2.1, angM b nt.lo, mosM b nt.lo⟩ else none
def meanOr (o : Option MeanR) : MeanR := o.getD zeroM
theorem BK.n10 {w : World} {g : Nat} {v0 v1 v2 v3 v4 v5 v6 v7 v8 v9 : Value} (h : BK w g 36 #[v0, v1, v2, v3, v4, v5, v6, v7, v8, v9]) :
    w.cell? ⟨g, 0, none⟩ = some v0 ∧ w.cell? ⟨g, 1, none⟩ = some v1 ∧ w.cell? ⟨g, 2, none⟩ = some v2 ∧ w.cell? ⟨g, 3, none⟩ = some v3 ∧ w.cell? ⟨g, 4, none⟩ = some v4 ∧ w.cell? ⟨g, 5, none⟩ = some v5 ∧ w.cell? ⟨g, 6, none⟩ = some v6 ∧ w.cell? ⟨g, 7, none⟩ = some v7 ∧ w.cell? ⟨g, 8, none⟩ = some v8 ∧ w.cell? ⟨g, 9, none⟩ = some v9 := by
  have c0 := h.cell 0
  have c1 := h.cell 1
  have c2 := h.cell 2
  have c3 := h.cell 3
  have c4 := h.cell 4
  have c5 := h.cell 5
  have c6 := h.cell 6
  have c7 := h.cell 7
  have c8 := h.cell 8
  have c9 := h.cell 9
  simp only [List.getElem?_toArray, List.getElem?_cons_zero, List.getElem?_cons_succ] at c0 c1 c2 c3 c4 c5 c6 c7 c8 c9
  exact ⟨c0, c1, c2, c3, c4, c5, c6, c7, c8, c9⟩
theorem BK.t6 {w : World} {g : Nat} {t : TypeId} {v0 v1 v2 v3 v4 v5 : Value} (h : BK w g t #[v0, v1, v2, v3, v4, v5]) :
    w.cell? ⟨g, 0, none⟩ = some v0 ∧ w.cell? ⟨g, 1, none⟩ = some v1 ∧ w.cell? ⟨g, 2, none⟩ = some v2 ∧ w.cell? ⟨g, 3, none⟩ = some v3 ∧ w.cell? ⟨g, 4, none⟩ = some v4 ∧ w.cell? ⟨g, 5, none⟩ = some v5 := by
  have c0 := h.cell 0
  have c1 := h.cell 1
  have c2 := h.cell 2
  have c3 := h.cell 3
  have c4 := h.cell 4
  have c5 := h.cell 5
  simp only [List.getElem?_toArray, List.getElem?_cons_zero, List.getElem?_cons_succ] at c0 c1 c2 c3 c4 c5
  exact ⟨c0, c1, c2, c3, c4, c5⟩
theorem res_mean_b {fn : Func} {t u : Nat} (hr : fn.results = #[.cell t 53, .tmp u]) (tm : Array Value) (w : World) (b : Nat) (v : Value) (cs : Array Value) (hsz : cs.size = 6) (ht : tm[t]? = some (.pointer (some ⟨b, 0, none⟩))) (hu : tm[u]? = some v) (hb : BK w b 53 cs) :
    (results fn tm).run Tryz.prog w = .ok (.tuple #[.agg cs, v]) w := by
  obtain ⟨l⟩ := cs
  match l, hsz with
  | [c0, c1, c2, c3, c4, c5], _ =>
  obtain ⟨x0, x1, x2, x3, x4, x5⟩ := hb.t6
  simp [results, hr, ht, hu, go_sem, Tryz.isAgg53, Tryz.sizeOf53, x0, x1, x2, x3, x4, x5]
theorem BK.set6 {w : World} {b : Nat} {t : TypeId} {cs : Array Value} {c0 c1 c2 c3 c4 c5 : Value} (h : BK w b t cs) (hsz : cs.size = 6) : BK ((((((w.setCell ⟨b, 0, none⟩ c0).setCell ⟨b, 1, none⟩ c1).setCell ⟨b, 2, none⟩ c2).setCell ⟨b, 3, none⟩ c3).setCell ⟨b, 4, none⟩ c4).setCell ⟨b, 5, none⟩ c5) b t #[c0, c1, c2, c3, c4, c5] := by
  obtain ⟨l⟩ := cs
  match l, hsz with
  | [_, _, _, _, _, _], _ => exact (((((h.set_ 0 c0).set_ 1 c1).set_ 2 c2).set_ 3 c3).set_ 4 c4).set_ 5 c5
theorem below6 {B b : Nat} {w0 w : World} {c0 c1 c2 c3 c4 c5 : Value} (h : Below B w0 w) (hb : B ≤ b) : Below B w0 ((((((w.setCell ⟨b, 0, none⟩ c0).setCell ⟨b, 1, none⟩ c1).setCell ⟨b, 2, none⟩ c2).setCell ⟨b, 3, none⟩ c3).setCell ⟨b, 4, none⟩ c4).setCell ⟨b, 5, none⟩ c5) :=
  (((((h.setCell (p := ⟨b, 0, none⟩) hb c0).setCell (p := ⟨b, 1, none⟩) hb c1).setCell (p := ⟨b, 2, none⟩) hb c2).setCell (p := ⟨b, 3, none⟩) hb c3).setCell (p := ⟨b, 4, none⟩) hb c4).setCell (p := ⟨b, 5, none⟩) hb c5
set_option maxRecDepth 100000 in
set_option maxHeartbeats 4000000 in
theorem nmeaning_any (b : BkR) (hv : BkOK b) (A : Option Addr) (c : Nat) (nt : NoteR) (w : World) (h : SL iC 1 w w.heap.size A b.gs.length b.gs) :
    Calls Tryz.prog 57 #[bkA A c b, nA nt] w fun e w' => e = .returned (.tuple #[mA (meanOr (meanN b nt)), .bool (meanN b nt).isSome]) ∧ Below w.heap.size w w' := by
  have hmo : Tryz.prog.follows .mixedOrders = true := by kernel_rfl
  obtain ⟨w0, hw0⟩ : ∃ w0, w0 = (((w.alloc (.cells #[.slice A b.gs.length c, .int .i64 b.sh, .int .i64 b.lo, .int .i64 b.ra, .int .i64 b.an, .int .i64 b.io, .int .i64 b.st, .int .i64 b.ga, .int .i64 b.le] 50)).alloc (.cells #[.int .i64 nt.k, .int .i64 nt.tu, .int .i64 nt.gr, .int .i64 nt.lo, .int .i64 nt.ch, .int .i64 nt.ton, .int .i64 nt.me, .int .i64 nt.si, .int .i64 nt.wa, .int .i64 nt.ar] 36)).alloc (.cells #[.int .i64 0, .int .i64 0, .int .i64 0, .int .i64 0, .int .i64 0, .int .i64 0] 53)).alloc (.cells #[.int .i64 0, .int .i64 0, .int .i64 0, .int .i64 0, .int .i64 0, .int .i64 0] 53) := ⟨_, rfl⟩
  have HM0 : Hid (BK w0 w.heap.size 50 #[.slice A b.gs.length c, .int .i64 b.sh, .int .i64 b.lo, .int .i64 b.ra, .int .i64 b.an, .int .i64 b.io, .int .i64 b.st, .int .i64 b.ga, .int .i64 b.le]) := by show BK _ _ _ _; rw [hw0]; exact (((BK.new w _ _).alloc _).alloc _).alloc _
  have HN0 : Hid (BK w0 (w.heap.size + 1) 36 #[.int .i64 nt.k, .int .i64 nt.tu, .int .i64 nt.gr, .int .i64 nt.lo, .int .i64 nt.ch, .int .i64 nt.ton, .int .i64 nt.me, .int .i64 nt.si, .int .i64 nt.wa, .int .i64 nt.ar]) := by show BK _ _ _ _; rw [hw0]; exact ((bk2 w _ _ _ _).alloc _).alloc _
  have HR0 : Hid (BK w0 (w.heap.size + 1 + 1) 53 #[.int .i64 0, .int .i64 0, .int .i64 0, .int .i64 0, .int .i64 0, .int .i64 0]) := by
    show BK _ _ _ _
    rw [hw0]
    have := bk2 (w.alloc (.cells #[.slice A b.gs.length c, .int .i64 b.sh, .int .i64 b.lo, .int .i64 b.ra, .int .i64 b.an, .int .i64 b.io, .int .i64 b.st, .int .i64 b.ga, .int .i64 b.le] 50)) 53 36 #[.int .i64 0, .int .i64 0, .int .i64 0, .int .i64 0, .int .i64 0, .int .i64 0] #[.int .i64 nt.k, .int .i64 nt.tu, .int .i64 nt.gr, .int .i64 nt.lo, .int .i64 nt.ch, .int .i64 nt.ton, .int .i64 nt.me, .int .i64 nt.si, .int .i64 nt.wa, .int .i64 nt.ar]
    rw [World.size_alloc] at this
    exact this.alloc _
  have HO0 : Hid (BK w0 (w.heap.size + 1 + 1 + 1) 53 #[.int .i64 0, .int .i64 0, .int .i64 0, .int .i64 0, .int .i64 0, .int .i64 0]) := by
    show BK _ _ _ _
    rw [hw0]
    have := bk2 ((w.alloc (.cells #[.slice A b.gs.length c, .int .i64 b.sh, .int .i64 b.lo, .int .i64 b.ra, .int .i64 b.an, .int .i64 b.io, .int .i64 b.st, .int .i64 b.ga, .int .i64 b.le] 50)).alloc (.cells #[.int .i64 nt.k, .int .i64 nt.tu, .int .i64 nt.gr, .int .i64 nt.lo, .int .i64 nt.ch, .int .i64 nt.ton, .int .i64 nt.me, .int .i64 nt.si, .int .i64 nt.wa, .int .i64 nt.ar] 36)) 53 53 #[.int .i64 0, .int .i64 0, .int .i64 0, .int .i64 0, .int .i64 0, .int .i64 0] #[.int .i64 0, .int .i64 0, .int .i64 0, .int .i64 0, .int .i64 0, .int .i64 0]
    rw [World.size_alloc, World.size_alloc] at this
    exact this
  have HB0 : Hid (Below w.heap.size w w0) := by show Below _ _ _; rw [hw0]; exact ((((Below.refl _ w).alloc (Nat.le_refl _) _).alloc (by simp) _).alloc (by simp; omega) _).alloc (by simp; omega) _
  have HS0 := Lib.hid (h.grow HB0.out HB0.out.size)
  have HV := Lib.hid hv
  have HS := Lib.hid h
  have KR : Hid (w.heap.size + 1 + 1 ≠ w.heap.size + 1 + 1 + 1) := by show _ ≠ _; omega
  have KM : Hid (w.heap.size ≠ w.heap.size + 1 + 1 + 1) := by show _ ≠ _; omega
  have KN : Hid (w.heap.size + 1 ≠ w.heap.size + 1 + 1 + 1) := by show _ ≠ _; omega
  have KL : Hid (w.heap.size ≤ w.heap.size + 1 + 1 + 1) := by show _ ≤ _; omega
  have KR2 : Hid (w.heap.size ≤ w.heap.size + 1 + 1) := by show _ ≤ _; omega
  obtain ⟨m0, m1, m2, m3, m4, m5, m6, m7, m8⟩ := bk9 HM0.out
  obtain ⟨n0, n1, n2, n3, n4, n5, n6, n7, n8, n9⟩ := HN0.out.n10
  unfold bkA nA
  clear h hv
  go_enter Tryz.func57, Tryz.ntmps57
  go_wp2_with fail
  rw [← hw0]
  clear hw0
  go_wp2_with fail
  obtain ⟨m0, m1, m2, m3, m4, m5, m6, m7, m8⟩ := bk9 HM0.out
  obtain ⟨n0, n1, n2, n3, n4, n5, n6, n7, n8, n9⟩ := HN0.out.n10
  obtain ⟨o0, o1, o2, o3, o4, o5⟩ := HO0.out.t6
  have of := HO0.out.frozen
  obtain ⟨z0, z1, z2, z3, z4, z5⟩ := HR0.out.t6
  have rf := HR0.out.frozen
  refine (nradii_any b HV.out A c nt.gr _ HS0.out).mono ?_
  rintro e w1 ⟨rfl, hb⟩
  have HBw1 := Lib.hid (HB0.out.trans (hb.mono HB0.out.size))
  have HSw1 := Lib.hid (HS0.out.grow hb hb.size)
  have HMw1 := Lib.hid (HM0.out.below hb HM0.out.lt)
  have HNw1 := Lib.hid (HN0.out.below hb HN0.out.lt)
  have HRw1 := Lib.hid (HR0.out.below hb HR0.out.lt)
  have HOw1 := Lib.hid (HO0.out.below hb HO0.out.lt)
  clear hb
  clear m0 m1 m2 m3 m4 m5 m6 m7 m8 n0 n1 n2 n3 n4 n5 n6 n7 n8 n9 o0 o1 o2 o3 o4 o5 of z0 z1 z2 z3 z4 z5 rf
  obtain ⟨q, hq⟩ : ∃ q, radI b nt.gr = q := ⟨_, rfl⟩
  rw [hq]
  obtain ⟨l, hh, ok⟩ := q
  have HQ := Lib.hid hq
  dsimp only
  have hs1 := HV.out.sh1
  have hs2 := HV.out.shl
  have hs3 := HV.out.lo1
  clear hq
  obtain ⟨m0, m1, m2, m3, m4, m5, m6, m7, m8⟩ := bk9 HMw1.out
  obtain ⟨n0, n1, n2, n3, n4, n5, n6, n7, n8, n9⟩ := HNw1.out.n10
  obtain ⟨o0, o1, o2, o3, o4, o5⟩ := HOw1.out.t6
  have of := HOw1.out.frozen
  obtain ⟨z0, z1, z2, z3, z4, z5⟩ := HRw1.out.t6
  have rf := HRw1.out.frozen
  by_cases hch : nt.ch = 0
  · have gch : (nt.ch != 0) = false := by simpa using hch
    have HL : Hid (latR b nt = (0, 0, true)) := by show _ = _; unfold latR; rw [if_pos hch]
    cases ok with
    | false =>
      have HE : Hid (meanN b nt = none) := by show _ = _; unfold meanN; rw [HQ.out]; rfl
      clear hch
      go_wp2_with fail
      exact bodyPost_ret (res_mean_b (t := 4) (u := 5) rfl _ _ _ _ _ rfl rfl rfl (((HRw1.out.far (p := ⟨w.heap.size + 1 + 1 + 1, 0, none⟩) KR.out _).far (p := ⟨w.heap.size + 1 + 1 + 1, 1, none⟩) KR.out _).set6 rfl)) rfl ⟨by rw [HE.out]; rfl, below6 ((HBw1.out.setCell (p := ⟨w.heap.size + 1 + 1 + 1, 0, none⟩) KL.out _).setCell (p := ⟨w.heap.size + 1 + 1 + 1, 1, none⟩) KL.out _) KR2.out⟩
    | true =>
      by_cases h0 : nt.lo = -1
      · have g0 : (nt.lo == -1) = true := by simpa using h0
        have HE : Hid (meanN b nt = some ⟨l, hh, 0, 0, 0, b.sh - 1⟩) := by show _ = _; unfold meanN angM mosM; rw [HQ.out, HL.out, if_pos h0, if_pos h0]; rfl
        have u1 : IntKind.i64.wrap (b.sh - 1) = b.sh - 1 := IntWalk.i64_in _ (by omega)
        have u2 : IntKind.i64.wrap (b.lo - 1) = b.lo - 1 := IntWalk.i64_in _ (by omega)
        go_wp2_with fail
        clear m0 m1 m2 m3 m4 m5 m6 m7 m8 n0 n1 n2 n3 n4 n5 n6 n7 n8 n9 o0 o1 o2 o3 o4 o5 of z0 z1 z2 z3 z4 z5 rf
        obtain ⟨w9, hww9⟩ : ∃ v, v = ((w1.setCell ⟨w.heap.size + 1 + 1 + 1, 0, none⟩ (.int .i64 l)).setCell ⟨w.heap.size + 1 + 1 + 1, 1, none⟩ (.int .i64 hh)) := ⟨_, rfl⟩
        have HOw9 : Hid (BK w9 (w.heap.size + 1 + 1 + 1) 53 #[.int .i64 l, .int .i64 hh, .int .i64 0, .int .i64 0, .int .i64 0, .int .i64 0]) := by show BK _ _ _ _; rw [hww9]; exact ((HOw1.out.set_ 0 _).set_ 1 _)
        have HMw9 : Hid (BK w9 (w.heap.size) 50 #[.slice A b.gs.length c, .int .i64 b.sh, .int .i64 b.lo, .int .i64 b.ra, .int .i64 b.an, .int .i64 b.io, .int .i64 b.st, .int .i64 b.ga, .int .i64 b.le]) := by show BK _ _ _ _; rw [hww9]; exact ((HMw1.out.far (p := ⟨w.heap.size + 1 + 1 + 1, 0, none⟩) KM.out _).far (p := ⟨w.heap.size + 1 + 1 + 1, 1, none⟩) KM.out _)
        have HNw9 : Hid (BK w9 (w.heap.size + 1) 36 #[.int .i64 nt.k, .int .i64 nt.tu, .int .i64 nt.gr, .int .i64 nt.lo, .int .i64 nt.ch, .int .i64 nt.ton, .int .i64 nt.me, .int .i64 nt.si, .int .i64 nt.wa, .int .i64 nt.ar]) := by show BK _ _ _ _; rw [hww9]; exact ((HNw1.out.far (p := ⟨w.heap.size + 1 + 1 + 1, 0, none⟩) KN.out _).far (p := ⟨w.heap.size + 1 + 1 + 1, 1, none⟩) KN.out _)
        have HRw9 : Hid (BK w9 (w.heap.size + 1 + 1) 53 #[.int .i64 0, .int .i64 0, .int .i64 0, .int .i64 0, .int .i64 0, .int .i64 0]) := by show BK _ _ _ _; rw [hww9]; exact ((HRw1.out.far (p := ⟨w.heap.size + 1 + 1 + 1, 0, none⟩) KR.out _).far (p := ⟨w.heap.size + 1 + 1 + 1, 1, none⟩) KR.out _)
        have HBw9 : Hid (Below w.heap.size w w9) := by show Below _ _ _; rw [hww9]; exact ((HBw1.out.setCell (p := ⟨w.heap.size + 1 + 1 + 1, 0, none⟩) KL.out _).setCell (p := ⟨w.heap.size + 1 + 1 + 1, 1, none⟩) KL.out _)
        have HSw9 := Lib.hid (HS.out.grow HBw9.out HBw9.out.size)
        rw [← hww9]
        clear hww9
        obtain ⟨m0, m1, m2, m3, m4, m5, m6, m7, m8⟩ := bk9 HMw9.out
        obtain ⟨n0, n1, n2, n3, n4, n5, n6, n7, n8, n9⟩ := HNw9.out.n10
        obtain ⟨o0, o1, o2, o3, o4, o5⟩ := HOw9.out.t6
        have of := HOw9.out.frozen
        obtain ⟨z0, z1, z2, z3, z4, z5⟩ := HRw9.out.t6
        have rf := HRw9.out.frozen
        go_region
        go_wp2_with fail
        exact bodyPost_ret (res_mean_b (t := 4) (u := 5) rfl _ _ _ _ _ rfl rfl rfl (((HRw9.out.far (p := ⟨w.heap.size + 1 + 1 + 1, 4, none⟩) KR.out _).far (p := ⟨w.heap.size + 1 + 1 + 1, 5, none⟩) KR.out _).set6 rfl).drew) rfl ⟨by rw [HE.out]; rfl, (below6 ((HBw9.out.setCell (p := ⟨w.heap.size + 1 + 1 + 1, 4, none⟩) KL.out _).setCell (p := ⟨w.heap.size + 1 + 1 + 1, 5, none⟩) KL.out _) KR2.out).drew⟩
      · by_cases h1 : nt.lo = 0
        · have g0 : (nt.lo == -1) = false := by simpa using h0
          have g1 : (nt.lo == 0) = true := by simpa using h1
          have HE : Hid (meanN b nt = some ⟨l, hh, 0, 0, b.sh, b.lo - 1⟩) := by show _ = _; unfold meanN angM mosM; rw [HQ.out, HL.out, if_neg h0, if_pos h1, if_neg h0, if_pos h1]; rfl
          have u1 : IntKind.i64.wrap (b.sh - 1) = b.sh - 1 := IntWalk.i64_in _ (by omega)
          have u2 : IntKind.i64.wrap (b.lo - 1) = b.lo - 1 := IntWalk.i64_in _ (by omega)
          go_wp2_with fail
          clear m0 m1 m2 m3 m4 m5 m6 m7 m8 n0 n1 n2 n3 n4 n5 n6 n7 n8 n9 o0 o1 o2 o3 o4 o5 of z0 z1 z2 z3 z4 z5 rf
          obtain ⟨w9, hww9⟩ : ∃ v, v = ((w1.setCell ⟨w.heap.size + 1 + 1 + 1, 0, none⟩ (.int .i64 l)).setCell ⟨w.heap.size + 1 + 1 + 1, 1, none⟩ (.int .i64 hh)) := ⟨_, rfl⟩
          have HOw9 : Hid (BK w9 (w.heap.size + 1 + 1 + 1) 53 #[.int .i64 l, .int .i64 hh, .int .i64 0, .int .i64 0, .int .i64 0, .int .i64 0]) := by show BK _ _ _ _; rw [hww9]; exact ((HOw1.out.set_ 0 _).set_ 1 _)
          have HMw9 : Hid (BK w9 (w.heap.size) 50 #[.slice A b.gs.length c, .int .i64 b.sh, .int .i64 b.lo, .int .i64 b.ra, .int .i64 b.an, .int .i64 b.io, .int .i64 b.st, .int .i64 b.ga, .int .i64 b.le]) := by show BK _ _ _ _; rw [hww9]; exact ((HMw1.out.far (p := ⟨w.heap.size + 1 + 1 + 1, 0, none⟩) KM.out _).far (p := ⟨w.heap.size + 1 + 1 + 1, 1, none⟩) KM.out _)
          have HNw9 : Hid (BK w9 (w.heap.size + 1) 36 #[.int .i64 nt.k, .int .i64 nt.tu, .int .i64 nt.gr, .int .i64 nt.lo, .int .i64 nt.ch, .int .i64 nt.ton, .int .i64 nt.me, .int .i64 nt.si, .int .i64 nt.wa, .int .i64 nt.ar]) := by show BK _ _ _ _; rw [hww9]; exact ((HNw1.out.far (p := ⟨w.heap.size + 1 + 1 + 1, 0, none⟩) KN.out _).far (p := ⟨w.heap.size + 1 + 1 + 1, 1, none⟩) KN.out _)
          have HRw9 : Hid (BK w9 (w.heap.size + 1 + 1) 53 #[.int .i64 0, .int .i64 0, .int .i64 0, .int .i64 0, .int .i64 0, .int .i64 0]) := by show BK _ _ _ _; rw [hww9]; exact ((HRw1.out.far (p := ⟨w.heap.size + 1 + 1 + 1, 0, none⟩) KR.out _).far (p := ⟨w.heap.size + 1 + 1 + 1, 1, none⟩) KR.out _)
          have HBw9 : Hid (Below w.heap.size w w9) := by show Below _ _ _; rw [hww9]; exact ((HBw1.out.setCell (p := ⟨w.heap.size + 1 + 1 + 1, 0, none⟩) KL.out _).setCell (p := ⟨w.heap.size + 1 + 1 + 1, 1, none⟩) KL.out _)
          have HSw9 := Lib.hid (HS.out.grow HBw9.out HBw9.out.size)
          rw [← hww9]
          clear hww9
          obtain ⟨m0, m1, m2, m3, m4, m5, m6, m7, m8⟩ := bk9 HMw9.out
          obtain ⟨n0, n1, n2, n3, n4, n5, n6, n7, n8, n9⟩ := HNw9.out.n10
          obtain ⟨o0, o1, o2, o3, o4, o5⟩ := HOw9.out.t6
          have of := HOw9.out.frozen
          obtain ⟨z0, z1, z2, z3, z4, z5⟩ := HRw9.out.t6
          have rf := HRw9.out.frozen
          go_region
          go_wp2_with fail
          exact bodyPost_ret (res_mean_b (t := 4) (u := 5) rfl _ _ _ _ _ rfl rfl rfl (((HRw9.out.far (p := ⟨w.heap.size + 1 + 1 + 1, 4, none⟩) KR.out _).far (p := ⟨w.heap.size + 1 + 1 + 1, 5, none⟩) KR.out _).set6 rfl).drew) rfl ⟨by rw [HE.out]; rfl, (below6 ((HBw9.out.setCell (p := ⟨w.heap.size + 1 + 1 + 1, 4, none⟩) KL.out _).setCell (p := ⟨w.heap.size + 1 + 1 + 1, 5, none⟩) KL.out _) KR2.out).drew⟩
        · have g0 : (nt.lo == -1) = false := by simpa using h0
          have g1 : (nt.lo == 0) = false := by simpa using h1
          have HE : Hid (meanN b nt = some ⟨l, hh, 0, 0, b.lo, 10000⟩) := by show _ = _; unfold meanN angM mosM; rw [HQ.out, HL.out, if_neg h0, if_neg h1, if_neg h0, if_neg h1]; rfl
          have u1 : IntKind.i64.wrap (b.sh - 1) = b.sh - 1 := IntWalk.i64_in _ (by omega)
          have u2 : IntKind.i64.wrap (b.lo - 1) = b.lo - 1 := IntWalk.i64_in _ (by omega)
          go_wp2_with fail
          exact bodyPost_ret (res_mean_b (t := 4) (u := 5) rfl _ _ _ _ _ rfl rfl rfl (((((HRw1.out.far (p := ⟨w.heap.size + 1 + 1 + 1, 0, none⟩) KR.out _).far (p := ⟨w.heap.size + 1 + 1 + 1, 1, none⟩) KR.out _).far (p := ⟨w.heap.size + 1 + 1 + 1, 4, none⟩) KR.out _).far (p := ⟨w.heap.size + 1 + 1 + 1, 5, none⟩) KR.out _).set6 rfl)) rfl ⟨by rw [HE.out]; rfl, below6 ((((HBw1.out.setCell (p := ⟨w.heap.size + 1 + 1 + 1, 0, none⟩) KL.out _).setCell (p := ⟨w.heap.size + 1 + 1 + 1, 1, none⟩) KL.out _).setCell (p := ⟨w.heap.size + 1 + 1 + 1, 4, none⟩) KL.out _).setCell (p := ⟨w.heap.size + 1 + 1 + 1, 5, none⟩) KL.out _) KR2.out⟩
  · have gch : (nt.ch != 0) = true := by simpa using hch
    have HL0 : Hid (latR b nt = radI b nt.ton) := by show _ = _; unfold latR; rw [if_neg hch]
    clear hch
    go_wp2_with fail
    clear m0 m1 m2 m3 m4 m5 m6 m7 m8 n0 n1 n2 n3 n4 n5 n6 n7 n8 n9 o0 o1 o2 o3 o4 o5 of z0 z1 z2 z3 z4 z5 rf
    obtain ⟨w2, hww2⟩ : ∃ v, v = ((w1.setCell ⟨w.heap.size + 1 + 1 + 1, 0, none⟩ (.int .i64 l)).setCell ⟨w.heap.size + 1 + 1 + 1, 1, none⟩ (.int .i64 hh)) := ⟨_, rfl⟩
    have HOw2 : Hid (BK w2 (w.heap.size + 1 + 1 + 1) 53 #[.int .i64 l, .int .i64 hh, .int .i64 0, .int .i64 0, .int .i64 0, .int .i64 0]) := by show BK _ _ _ _; rw [hww2]; exact ((HOw1.out.set_ 0 _).set_ 1 _)
    have HMw2 : Hid (BK w2 (w.heap.size) 50 #[.slice A b.gs.length c, .int .i64 b.sh, .int .i64 b.lo, .int .i64 b.ra, .int .i64 b.an, .int .i64 b.io, .int .i64 b.st, .int .i64 b.ga, .int .i64 b.le]) := by show BK _ _ _ _; rw [hww2]; exact ((HMw1.out.far (p := ⟨w.heap.size + 1 + 1 + 1, 0, none⟩) KM.out _).far (p := ⟨w.heap.size + 1 + 1 + 1, 1, none⟩) KM.out _)
    have HNw2 : Hid (BK w2 (w.heap.size + 1) 36 #[.int .i64 nt.k, .int .i64 nt.tu, .int .i64 nt.gr, .int .i64 nt.lo, .int .i64 nt.ch, .int .i64 nt.ton, .int .i64 nt.me, .int .i64 nt.si, .int .i64 nt.wa, .int .i64 nt.ar]) := by show BK _ _ _ _; rw [hww2]; exact ((HNw1.out.far (p := ⟨w.heap.size + 1 + 1 + 1, 0, none⟩) KN.out _).far (p := ⟨w.heap.size + 1 + 1 + 1, 1, none⟩) KN.out _)
    have HRw2 : Hid (BK w2 (w.heap.size + 1 + 1) 53 #[.int .i64 0, .int .i64 0, .int .i64 0, .int .i64 0, .int .i64 0, .int .i64 0]) := by show BK _ _ _ _; rw [hww2]; exact ((HRw1.out.far (p := ⟨w.heap.size + 1 + 1 + 1, 0, none⟩) KR.out _).far (p := ⟨w.heap.size + 1 + 1 + 1, 1, none⟩) KR.out _)
    have HBw2 : Hid (Below w.heap.size w w2) := by show Below _ _ _; rw [hww2]; exact ((HBw1.out.setCell (p := ⟨w.heap.size + 1 + 1 + 1, 0, none⟩) KL.out _).setCell (p := ⟨w.heap.size + 1 + 1 + 1, 1, none⟩) KL.out _)
    have HSw2 := Lib.hid (HS.out.grow HBw2.out HBw2.out.size)
    rw [← hww2]
    clear hww2
    refine (nradii_any b HV.out A c nt.ton _ HSw2.out).mono ?_
    rintro e w3 ⟨rfl, hb⟩
    have HBw3 := Lib.hid (HBw2.out.trans (hb.mono HBw2.out.size))
    have HSw3 := Lib.hid (HSw2.out.grow hb hb.size)
    have HMw3 := Lib.hid (HMw2.out.below hb HMw2.out.lt)
    have HNw3 := Lib.hid (HNw2.out.below hb HNw2.out.lt)
    have HRw3 := Lib.hid (HRw2.out.below hb HRw2.out.lt)
    have HOw3 := Lib.hid (HOw2.out.below hb HOw2.out.lt)
    clear hb
    obtain ⟨q, hq⟩ : ∃ q, radI b nt.ton = q := ⟨_, rfl⟩
    rw [hq] at HL0 ⊢
    obtain ⟨lt, la, too⟩ := q
    have HL : Hid (latR b nt = (lt, la, too)) := HL0
    dsimp only
    clear hq HL0
    obtain ⟨m0, m1, m2, m3, m4, m5, m6, m7, m8⟩ := bk9 HMw3.out
    obtain ⟨n0, n1, n2, n3, n4, n5, n6, n7, n8, n9⟩ := HNw3.out.n10
    obtain ⟨o0, o1, o2, o3, o4, o5⟩ := HOw3.out.t6
    have of := HOw3.out.frozen
    obtain ⟨z0, z1, z2, z3, z4, z5⟩ := HRw3.out.t6
    have rf := HRw3.out.frozen
    cases ok with
    | false =>
      have HE : Hid (meanN b nt = none) := by show _ = _; unfold meanN; rw [HQ.out]; rfl
      go_wp2_with fail
      exact bodyPost_ret (res_mean_b (t := 4) (u := 5) rfl _ _ _ _ _ rfl rfl rfl (((HRw3.out.far (p := ⟨w.heap.size + 1 + 1 + 1, 2, none⟩) KR.out _).far (p := ⟨w.heap.size + 1 + 1 + 1, 3, none⟩) KR.out _).set6 rfl)) rfl ⟨by rw [HE.out]; rfl, below6 ((HBw3.out.setCell (p := ⟨w.heap.size + 1 + 1 + 1, 2, none⟩) KL.out _).setCell (p := ⟨w.heap.size + 1 + 1 + 1, 3, none⟩) KL.out _) KR2.out⟩
    | true =>
      cases too with
      | false =>
        have HE : Hid (meanN b nt = none) := by show _ = _; unfold meanN; rw [HQ.out, HL.out]; rfl
        go_wp2_with fail
        exact bodyPost_ret (res_mean_b (t := 4) (u := 5) rfl _ _ _ _ _ rfl rfl rfl (((HRw3.out.far (p := ⟨w.heap.size + 1 + 1 + 1, 2, none⟩) KR.out _).far (p := ⟨w.heap.size + 1 + 1 + 1, 3, none⟩) KR.out _).set6 rfl)) rfl ⟨by rw [HE.out]; rfl, below6 ((HBw3.out.setCell (p := ⟨w.heap.size + 1 + 1 + 1, 2, none⟩) KL.out _).setCell (p := ⟨w.heap.size + 1 + 1 + 1, 3, none⟩) KL.out _) KR2.out⟩
      | true =>
        by_cases h0 : nt.lo = -1
        · have g0 : (nt.lo == -1) = true := by simpa using h0
          have HE : Hid (meanN b nt = some ⟨l, hh, lt, la, 0, b.sh - 1⟩) := by show _ = _; unfold meanN angM mosM; rw [HQ.out, HL.out, if_pos h0, if_pos h0]; rfl
          have u1 : IntKind.i64.wrap (b.sh - 1) = b.sh - 1 := IntWalk.i64_in _ (by omega)
          have u2 : IntKind.i64.wrap (b.lo - 1) = b.lo - 1 := IntWalk.i64_in _ (by omega)
          go_wp2_with fail
          clear m0 m1 m2 m3 m4 m5 m6 m7 m8 n0 n1 n2 n3 n4 n5 n6 n7 n8 n9 o0 o1 o2 o3 o4 o5 of z0 z1 z2 z3 z4 z5 rf
          obtain ⟨w9, hww9⟩ : ∃ v, v = ((w3.setCell ⟨w.heap.size + 1 + 1 + 1, 2, none⟩ (.int .i64 lt)).setCell ⟨w.heap.size + 1 + 1 + 1, 3, none⟩ (.int .i64 la)) := ⟨_, rfl⟩
          have HOw9 : Hid (BK w9 (w.heap.size + 1 + 1 + 1) 53 #[.int .i64 l, .int .i64 hh, .int .i64 lt, .int .i64 la, .int .i64 0, .int .i64 0]) := by show BK _ _ _ _; rw [hww9]; exact ((HOw3.out.set_ 2 _).set_ 3 _)
          have HMw9 : Hid (BK w9 (w.heap.size) 50 #[.slice A b.gs.length c, .int .i64 b.sh, .int .i64 b.lo, .int .i64 b.ra, .int .i64 b.an, .int .i64 b.io, .int .i64 b.st, .int .i64 b.ga, .int .i64 b.le]) := by show BK _ _ _ _; rw [hww9]; exact ((HMw3.out.far (p := ⟨w.heap.size + 1 + 1 + 1, 2, none⟩) KM.out _).far (p := ⟨w.heap.size + 1 + 1 + 1, 3, none⟩) KM.out _)
          have HNw9 : Hid (BK w9 (w.heap.size + 1) 36 #[.int .i64 nt.k, .int .i64 nt.tu, .int .i64 nt.gr, .int .i64 nt.lo, .int .i64 nt.ch, .int .i64 nt.ton, .int .i64 nt.me, .int .i64 nt.si, .int .i64 nt.wa, .int .i64 nt.ar]) := by show BK _ _ _ _; rw [hww9]; exact ((HNw3.out.far (p := ⟨w.heap.size + 1 + 1 + 1, 2, none⟩) KN.out _).far (p := ⟨w.heap.size + 1 + 1 + 1, 3, none⟩) KN.out _)
          have HRw9 : Hid (BK w9 (w.heap.size + 1 + 1) 53 #[.int .i64 0, .int .i64 0, .int .i64 0, .int .i64 0, .int .i64 0, .int .i64 0]) := by show BK _ _ _ _; rw [hww9]; exact ((HRw3.out.far (p := ⟨w.heap.size + 1 + 1 + 1, 2, none⟩) KR.out _).far (p := ⟨w.heap.size + 1 + 1 + 1, 3, none⟩) KR.out _)
          have HBw9 : Hid (Below w.heap.size w w9) := by show Below _ _ _; rw [hww9]; exact ((HBw3.out.setCell (p := ⟨w.heap.size + 1 + 1 + 1, 2, none⟩) KL.out _).setCell (p := ⟨w.heap.size + 1 + 1 + 1, 3, none⟩) KL.out _)
          have HSw9 := Lib.hid (HS.out.grow HBw9.out HBw9.out.size)
          rw [← hww9]
          clear hww9
          obtain ⟨m0, m1, m2, m3, m4, m5, m6, m7, m8⟩ := bk9 HMw9.out
          obtain ⟨n0, n1, n2, n3, n4, n5, n6, n7, n8, n9⟩ := HNw9.out.n10
          obtain ⟨o0, o1, o2, o3, o4, o5⟩ := HOw9.out.t6
          have of := HOw9.out.frozen
          obtain ⟨z0, z1, z2, z3, z4, z5⟩ := HRw9.out.t6
          have rf := HRw9.out.frozen
          go_region
          go_wp2_with fail
          exact bodyPost_ret (res_mean_b (t := 4) (u := 5) rfl _ _ _ _ _ rfl rfl rfl (((HRw9.out.far (p := ⟨w.heap.size + 1 + 1 + 1, 4, none⟩) KR.out _).far (p := ⟨w.heap.size + 1 + 1 + 1, 5, none⟩) KR.out _).set6 rfl).drew) rfl ⟨by rw [HE.out]; rfl, (below6 ((HBw9.out.setCell (p := ⟨w.heap.size + 1 + 1 + 1, 4, none⟩) KL.out _).setCell (p := ⟨w.heap.size + 1 + 1 + 1, 5, none⟩) KL.out _) KR2.out).drew⟩
        · by_cases h1 : nt.lo = 0
          · have g0 : (nt.lo == -1) = false := by simpa using h0
            have g1 : (nt.lo == 0) = true := by simpa using h1
            have HE : Hid (meanN b nt = some ⟨l, hh, lt, la, b.sh, b.lo - 1⟩) := by show _ = _; unfold meanN angM mosM; rw [HQ.out, HL.out, if_neg h0, if_pos h1, if_neg h0, if_pos h1]; rfl
            have u1 : IntKind.i64.wrap (b.sh - 1) = b.sh - 1 := IntWalk.i64_in _ (by omega)
            have u2 : IntKind.i64.wrap (b.lo - 1) = b.lo - 1 := IntWalk.i64_in _ (by omega)
            go_wp2_with fail
            clear m0 m1 m2 m3 m4 m5 m6 m7 m8 n0 n1 n2 n3 n4 n5 n6 n7 n8 n9 o0 o1 o2 o3 o4 o5 of z0 z1 z2 z3 z4 z5 rf
            obtain ⟨w9, hww9⟩ : ∃ v, v = ((w3.setCell ⟨w.heap.size + 1 + 1 + 1, 2, none⟩ (.int .i64 lt)).setCell ⟨w.heap.size + 1 + 1 + 1, 3, none⟩ (.int .i64 la)) := ⟨_, rfl⟩
            have HOw9 : Hid (BK w9 (w.heap.size + 1 + 1 + 1) 53 #[.int .i64 l, .int .i64 hh, .int .i64 lt, .int .i64 la, .int .i64 0, .int .i64 0]) := by show BK _ _ _ _; rw [hww9]; exact ((HOw3.out.set_ 2 _).set_ 3 _)
            have HMw9 : Hid (BK w9 (w.heap.size) 50 #[.slice A b.gs.length c, .int .i64 b.sh, .int .i64 b.lo, .int .i64 b.ra, .int .i64 b.an, .int .i64 b.io, .int .i64 b.st, .int .i64 b.ga, .int .i64 b.le]) := by show BK _ _ _ _; rw [hww9]; exact ((HMw3.out.far (p := ⟨w.heap.size + 1 + 1 + 1, 2, none⟩) KM.out _).far (p := ⟨w.heap.size + 1 + 1 + 1, 3, none⟩) KM.out _)
            have HNw9 : Hid (BK w9 (w.heap.size + 1) 36 #[.int .i64 nt.k, .int .i64 nt.tu, .int .i64 nt.gr, .int .i64 nt.lo, .int .i64 nt.ch, .int .i64 nt.ton, .int .i64 nt.me, .int .i64 nt.si, .int .i64 nt.wa, .int .i64 nt.ar]) := by show BK _ _ _ _; rw [hww9]; exact ((HNw3.out.far (p := ⟨w.heap.size + 1 + 1 + 1, 2, none⟩) KN.out _).far (p := ⟨w.heap.size + 1 + 1 + 1, 3, none⟩) KN.out _)
            have HRw9 : Hid (BK w9 (w.heap.size + 1 + 1) 53 #[.int .i64 0, .int .i64 0, .int .i64 0, .int .i64 0, .int .i64 0, .int .i64 0]) := by show BK _ _ _ _; rw [hww9]; exact ((HRw3.out.far (p := ⟨w.heap.size + 1 + 1 + 1, 2, none⟩) KR.out _).far (p := ⟨w.heap.size + 1 + 1 + 1, 3, none⟩) KR.out _)
            have HBw9 : Hid (Below w.heap.size w w9) := by show Below _ _ _; rw [hww9]; exact ((HBw3.out.setCell (p := ⟨w.heap.size + 1 + 1 + 1, 2, none⟩) KL.out _).setCell (p := ⟨w.heap.size + 1 + 1 + 1, 3, none⟩) KL.out _)
            have HSw9 := Lib.hid (HS.out.grow HBw9.out HBw9.out.size)
            rw [← hww9]
            clear hww9
            obtain ⟨m0, m1, m2, m3, m4, m5, m6, m7, m8⟩ := bk9 HMw9.out
            obtain ⟨n0, n1, n2, n3, n4, n5, n6, n7, n8, n9⟩ := HNw9.out.n10
            obtain ⟨o0, o1, o2, o3, o4, o5⟩ := HOw9.out.t6
            have of := HOw9.out.frozen
            obtain ⟨z0, z1, z2, z3, z4, z5⟩ := HRw9.out.t6
            have rf := HRw9.out.frozen
            go_region
            go_wp2_with fail
            exact bodyPost_ret (res_mean_b (t := 4) (u := 5) rfl _ _ _ _ _ rfl rfl rfl (((HRw9.out.far (p := ⟨w.heap.size + 1 + 1 + 1, 4, none⟩) KR.out _).far (p := ⟨w.heap.size + 1 + 1 + 1, 5, none⟩) KR.out _).set6 rfl).drew) rfl ⟨by rw [HE.out]; rfl, (below6 ((HBw9.out.setCell (p := ⟨w.heap.size + 1 + 1 + 1, 4, none⟩) KL.out _).setCell (p := ⟨w.heap.size + 1 + 1 + 1, 5, none⟩) KL.out _) KR2.out).drew⟩
          · have g0 : (nt.lo == -1) = false := by simpa using h0
            have g1 : (nt.lo == 0) = false := by simpa using h1
            have HE : Hid (meanN b nt = some ⟨l, hh, lt, la, b.lo, 10000⟩) := by show _ = _; unfold meanN angM mosM; rw [HQ.out, HL.out, if_neg h0, if_neg h1, if_neg h0, if_neg h1]; rfl
            have u1 : IntKind.i64.wrap (b.sh - 1) = b.sh - 1 := IntWalk.i64_in _ (by omega)
            have u2 : IntKind.i64.wrap (b.lo - 1) = b.lo - 1 := IntWalk.i64_in _ (by omega)
            go_wp2_with fail
            exact bodyPost_ret (res_mean_b (t := 4) (u := 5) rfl _ _ _ _ _ rfl rfl rfl (((((HRw3.out.far (p := ⟨w.heap.size + 1 + 1 + 1, 2, none⟩) KR.out _).far (p := ⟨w.heap.size + 1 + 1 + 1, 3, none⟩) KR.out _).far (p := ⟨w.heap.size + 1 + 1 + 1, 4, none⟩) KR.out _).far (p := ⟨w.heap.size + 1 + 1 + 1, 5, none⟩) KR.out _).set6 rfl)) rfl ⟨by rw [HE.out]; rfl, below6 ((((HBw3.out.setCell (p := ⟨w.heap.size + 1 + 1 + 1, 2, none⟩) KL.out _).setCell (p := ⟨w.heap.size + 1 + 1 + 1, 3, none⟩) KL.out _).setCell (p := ⟨w.heap.size + 1 + 1 + 1, 4, none⟩) KL.out _).setCell (p := ⟨w.heap.size + 1 + 1 + 1, 5, none⟩) KL.out _) KR2.out⟩
end Go.Proofs.YtnmipejpjeakbaaGreatDoor
