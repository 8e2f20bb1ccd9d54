/- note.Meaning of a corner's note. -/
import Derived.Test.YtnmipejpjeakbaaGreatDoorPMean
import Derived.Test.YtnmipejpjeakbaaGreatDoorPNoteV
namespace Go.Proofs.YtnmipejpjeakbaaGreatDoor
open Go.RowKit Go.Shelf Go.Sort Go.Proofs

set_option maxRecDepth 100000 in
set_option maxHeartbeats 4000000 in
theorem nMeaning_ok (b : BkR) (hv : BkOK b) (A : Option Addr) (c : Nat) (nt : NoteR) (hval : nVal nt = true) (hk : nt.k = 1) (w : World) (h : SL iC 1 w w.heap.size A b.gs.length b.gs) :
    Calls Tryz.prog 29 #[bkA A c b, nA nt] w fun e w' => e = .returned (.tuple #[mA (meanOr (meanN b nt)), .int .i64 (if (meanN b nt).isSome then 0 else 5)]) ∧ Below w.heap.size w w' := by
  obtain ⟨w0, hw0⟩ : ∃ w0, w0 = ((w.alloc (.cells #[.slice A b.gs.length c, .int .i64 b.sh, .int .i64 b.lo, .int .i64 b.ra, .int .i64 b.an, .int .i64 b.io, .int .i64 b.st, .int .i64 b.ga, .int .i64 b.le] 50)).alloc (.cells #[.int .i64 nt.k, .int .i64 nt.tu, .int .i64 nt.gr, .int .i64 nt.lo, .int .i64 nt.ch, .int .i64 nt.ton, .int .i64 nt.me, .int .i64 nt.si, .int .i64 nt.wa, .int .i64 nt.ar] 36)).alloc (.cells #[.int .i64 0, .int .i64 0, .int .i64 0, .int .i64 0, .int .i64 0, .int .i64 0] 53) := ⟨_, rfl⟩
  have HM0 : Hid (BK w0 w.heap.size 50 #[.slice A b.gs.length c, .int .i64 b.sh, .int .i64 b.lo, .int .i64 b.ra, .int .i64 b.an, .int .i64 b.io, .int .i64 b.st, .int .i64 b.ga, .int .i64 b.le]) := by show BK _ _ _ _; rw [hw0]; exact ((BK.new w _ _).alloc _).alloc _
  have HN0 : Hid (BK w0 (w.heap.size + 1) 36 #[.int .i64 nt.k, .int .i64 nt.tu, .int .i64 nt.gr, .int .i64 nt.lo, .int .i64 nt.ch, .int .i64 nt.ton, .int .i64 nt.me, .int .i64 nt.si, .int .i64 nt.wa, .int .i64 nt.ar]) := by show BK _ _ _ _; rw [hw0]; exact (bk2 w _ _ _ _).alloc _
  have HR0 : Hid (BK w0 (w.heap.size + 1 + 1) 53 #[.int .i64 0, .int .i64 0, .int .i64 0, .int .i64 0, .int .i64 0, .int .i64 0]) := by
    show BK _ _ _ _
    rw [hw0]
    have := bk2 (w.alloc (.cells #[.slice A b.gs.length c, .int .i64 b.sh, .int .i64 b.lo, .int .i64 b.ra, .int .i64 b.an, .int .i64 b.io, .int .i64 b.st, .int .i64 b.ga, .int .i64 b.le] 50)) 53 36 #[.int .i64 0, .int .i64 0, .int .i64 0, .int .i64 0, .int .i64 0, .int .i64 0] #[.int .i64 nt.k, .int .i64 nt.tu, .int .i64 nt.gr, .int .i64 nt.lo, .int .i64 nt.ch, .int .i64 nt.ton, .int .i64 nt.me, .int .i64 nt.si, .int .i64 nt.wa, .int .i64 nt.ar]
    rw [World.size_alloc] at this
    exact this
  have HB0 : Hid (Below w.heap.size w w0) := by show Below _ _ _; rw [hw0]; exact (((Below.refl _ w).alloc (Nat.le_refl _) _).alloc (by simp) _).alloc (by simp; omega) _
  have HS0 := Lib.hid (h.grow HB0.out HB0.out.size)
  have HV := Lib.hid hv
  have HVAL := Lib.hid hval
  have KR2 : Hid (w.heap.size ≤ w.heap.size + 1 + 1) := by show _ ≤ _; omega
  have hk1 : (nt.k != 1) = false := by simpa using hk
  have HK := Lib.hid hk
  obtain ⟨m0, m1, m2, m3, m4, m5, m6, m7, m8⟩ := bk9 HM0.out
  obtain ⟨n0, n1, n2, n3, n4, n5, n6, n7, n8, n9⟩ := HN0.out.n10
  unfold bkA nA
  clear h hv hval hk
  go_enter Tryz.func29, Tryz.ntmps29
  go_wp2_with fail
  rw [← hw0]
  clear hw0
  go_wp2_with fail
  refine (nCheck_ok b HV.out A c _ HS0.out).mono ?_
  rintro e w1 ⟨rfl, hb⟩
  have HB1 := Lib.hid (HB0.out.trans (hb.mono HB0.out.size))
  have HS1 := Lib.hid (HS0.out.grow hb hb.size)
  have HM1 := Lib.hid (HM0.out.below hb HM0.out.lt)
  have HN1 := Lib.hid (HN0.out.below hb HN0.out.lt)
  have HR1 := Lib.hid (HR0.out.below hb HR0.out.lt)
  clear hb m0 m1 m2 m3 m4 m5 m6 m7 m8 n0 n1 n2 n3 n4 n5 n6 n7 n8 n9 HM0 HN0 HR0 HS0 HB0
  obtain ⟨n0, n1, n2, n3, n4, n5, n6, n7, n8, n9⟩ := HN1.out.n10
  go_wp2_with fail
  refine (nvalid_any nt.k nt.tu nt.gr nt.lo nt.ch nt.ton nt.me nt.si nt.wa nt.ar _).mono ?_
  rintro e w2 ⟨rfl, hb⟩
  have HVAL2 : Hid (nVal ⟨nt.k, nt.tu, nt.gr, nt.lo, nt.ch, nt.ton, nt.me, nt.si, nt.wa, nt.ar⟩ = true) := HVAL.out
  rw [HVAL2.out]
  have HB2 := Lib.hid (HB1.out.trans (hb.mono HB1.out.size))
  have HS2 := Lib.hid (HS1.out.grow hb hb.size)
  have HM2 := Lib.hid (HM1.out.below hb HM1.out.lt)
  have HN2 := Lib.hid (HN1.out.below hb HN1.out.lt)
  have HR2 := Lib.hid (HR1.out.below hb HR1.out.lt)
  clear hb n0 n1 n2 n3 n4 n5 n6 n7 n8 n9 HM1 HN1 HR1 HS1 HB1
  obtain ⟨m0, m1, m2, m3, m4, m5, m6, m7, m8⟩ := bk9 HM2.out
  obtain ⟨n0, n1, n2, n3, n4, n5, n6, n7, n8, n9⟩ := HN2.out.n10
  go_wp2_with fail
  have hcall := nmeaning_any b HV.out A c nt w2 HS2.out
  unfold bkA nA at hcall
  refine hcall.mono ?_
  rintro e w3 ⟨rfl, hb⟩
  have HB3 := Lib.hid (HB2.out.trans (hb.mono HB2.out.size))
  have HR3 := Lib.hid (HR2.out.below hb HR2.out.lt)
  clear hcall hb m0 m1 m2 m3 m4 m5 m6 m7 m8 n0 n1 n2 n3 n4 n5 n6 n7 n8 n9 HM2 HN2 HR2 HS2 HB2
  obtain ⟨z0, z1, z2, z3, z4, z5⟩ := HR3.out.t6
  have rf := HR3.out.frozen
  have rl := HR3.out.lt
  cases hm : meanN b nt with
  | none =>
    have HE := Lib.hid hm
    clear hm
    simp only [meanOr, Option.getD_none, Option.isSome_none, zeroM, mA]
    go_wp2_with fail
    all_goals first | (exfalso; have hk2 := HE.out; simp_all; done) | exact bodyPost_ret (res_mean_b (t := 4) (u := 5) rfl _ _ _ _ _ rfl rfl rfl ((HR3.out.set6 rfl).alloc _)) rfl ⟨by rw [HE.out]; rfl, (below6 HB3.out KR2.out).alloc (by have := HB3.out.size; simpa using this) _⟩
  | some m =>
    have HE := Lib.hid hm
    clear hm
    simp only [meanOr, Option.getD_some, Option.isSome_some, mA]
    go_wp2_with fail
    all_goals first | (exfalso; have hk2 := HE.out; simp_all; done) | exact bodyPost_ret (res_mean_b (t := 4) (u := 5) rfl _ _ _ _ _ rfl rfl rfl ((HR3.out.set6 rfl).alloc _)) rfl ⟨by rw [HE.out]; rfl, (below6 HB3.out KR2.out).alloc (by have := HB3.out.size; simpa using this) _⟩
end Go.Proofs.YtnmipejpjeakbaaGreatDoor
