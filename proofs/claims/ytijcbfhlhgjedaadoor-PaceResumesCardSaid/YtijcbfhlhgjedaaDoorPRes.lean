/- What is left at a place, and whether a call ends in time. -/
import Derived.Test.YtijcbfhlhgjedaaDoorPResP
import Derived.RegionTactic
import Derived.BigRegion
namespace Go.Proofs.YtijcbfhlhgjedaaDoor
open Go.RowKit Go.Shelf Go.Sort Go.Proofs

theorem betwR_b (a b : Nat) (g : Nat) (ta : Option Addr) (tc N : Nat) (S : Spd) (R : Road) (w : World) (h : TS w w.heap.size g ta tc N S R) (hS : SOK S) (hv : OK R) (ha : a ≤ N) (hb : b ≤ N) :
    Calls Tryd.prog 60 #[.pointer (some ⟨g, 0, none⟩), .int .i64 0, .int .i64 a, .int .i64 b] w fun e w' => e = .returned (.int .i64 (tQ S R.ps b - tQ S R.ps a)) ∧ Below w.heap.size w w' :=
  (between0_any a b g ta tc N S R w h hS hv ha hb).mono fun _ _ ⟨h1, m, h2⟩ => ⟨h1, by rw [h2]; exact below_drewN (Below.refl _ _) m⟩
set_option maxRecDepth 100000 in
set_option maxHeartbeats 8000000 in
theorem ends_any (x : CallR) (a : Nat) (s : Int) (g : Nat) (ta : Option Addr) (tc N : Nat) (S : Spd) (R : Road) (w : World) (h : TS w w.heap.size g ta tc N S R) (hS : SOK S) (hv : OK R) (ha : a ≤ N) (hx : 0 ≤ x.place ∧ x.place ≤ N) (hs : -1000000000000000000 ≤ s ∧ s ≤ 1000000000000000000) (hl : 0 ≤ x.lead ∧ x.lead ≤ maxM) :
    Calls Tryd.prog 89 #[.pointer (some ⟨g, 0, none⟩), .agg #[.int .i64 x.place, .int .i64 x.lasts, .int .i64 x.lead, .int .i64 x.ahead, .int .i64 x.value], .int .i64 a, .int .i64 s] w fun e w' => e = .returned (.bool (endsB (qS S R) a x s)) ∧ Below w.heap.size w w' := by
  have hmo : Tryd.prog.follows .mixedOrders = true := by kernel_rfl
  have HS := Lib.hid hS
  have HV := Lib.hid hv
  have HT := Lib.hid h
  have hgl := h.lt
  obtain ⟨z, hz⟩ : ∃ z : Nat, x.place = (z : Int) := ⟨x.place.toNat, by omega⟩
  have hzN : z ≤ N := by omega
  have haN := ha
  obtain ⟨dq, hdq⟩ : ∃ dq, dq = tQ S R.ps z - tQ S R.ps a := ⟨_, rfl⟩
  have HDQ : Hid (tQ S R.ps z - tQ S R.ps a = dq) := hdq.symm
  obtain ⟨b, hb⟩ : ∃ b, b = endsB (qS S R) a x s := ⟨_, rfl⟩
  rw [show maxM = 1125899906842624 from rfl] at hl
  have hw : IntKind.i64.wrap (s + x.lead) = s + x.lead := IntWalk.i64_in _ (by omega)
  have hg : decide (IntKind.i64.wrap (s + x.lead) ≤ dq) = b := by
    rw [hw, hb]
    unfold endsB qS
    rw [hz, Int.toNat_natCast, Int.toNat_natCast, hdq]
  rw [← hb]
  obtain ⟨x0, x1, x2, x3, x4⟩ := x
  dsimp only at hz hg hw hl
  subst hz
  clear hb hdq hx h hS hv ha hw
  obtain ⟨w0, hw0⟩ : ∃ w0, w0 = w.alloc (.cells #[.int .i64 z, .int .i64 x1, .int .i64 x2, .int .i64 x3, .int .i64 x4] 75) := ⟨_, rfl⟩
  have hB0 : Below w.heap.size w w0 := by rw [hw0]; exact (Below.refl w.heap.size w).alloc (Nat.le_refl _) _
  have hZ0 : BK w0 w.heap.size 75 #[.int .i64 z, .int .i64 x1, .int .i64 x2, .int .i64 x3, .int .i64 x4] := by rw [hw0]; exact BK.new w 75 _
  go_enter Tryd.func89, Tryd.ntmps89
  go_wp2_with fail
  rw [← hw0]
  clear hw0
  have z0 := fun d os => cell_regrown (hZ0.cell 0) d os
  have z2 := fun d os => cell_regrown (hZ0.cell 2) d os
  have HT0 := Lib.hid (HT.out.grow hB0 hB0.size)
  have HGT := Lib.hid (fun d os => HT0.out.grow (below_regrown w0 d os) (below_regrown w0 d os).size)
  have hlZ := hZ0.lt
  have hgl0 := HT0.out.lt
  go_wp2_with fail
  refine wp_region_ch 10 [8] hmo (by kernel_rfl) ?_
  simp only [List.take_succ_cons, List.take_zero, List.drop_succ_cons, List.drop_zero]
  repeat (with_reducible refine wpC_q (by decide) (by decide) (fun K hK => ?_); go_simp; (try rw [if_neg (by simp [undef])]); refine hK _ ?_; clear hK K)
  with_reducible refine wpC_cg (ι := Unit) 60 #[.pointer (some ⟨g, 0, none⟩), .int .i64 0, .int .i64 a, .int .i64 z] (fun _ => .int .i64 dq) (fun _ _ => True) (by decide) (by decide) (by go_simp) (fun w => by go_simp) stable_true (fun _ => stable_true) (fun W hW _ => ?_) (fun i0 hs0 => ?_)
  · obtain ⟨pp, rfl⟩ := hW
    refine (betwR_b a z g ta tc N S R _ (HGT.out _ _) HS.out HV.out haN hzN).mono ?_
    rintro e w' ⟨rfl, hbl⟩
    exact ⟨(), by rw [HDQ.out], trivial, hbl⟩
  repeat (with_reducible refine wpC_q (by decide) (by decide) (fun K hK => ?_); go_simp; (try rw [if_neg (by simp [undef])]); refine hK _ ?_; clear hK K)
  refine wpC_nil ?_
  intro w1 hb1 _
  clear z0 z2 HGT hs0
  go_wp2_with fail
  go_ret
  exact ⟨rfl, hB0.trans (hb1.mono hB0.size)⟩
/-- What is left at a place, as defined. -/
def remB (n : Int) (cs : List CallR) (a : Int) : Bool := inR a 0 n && cB n cs && decide (cs.length ≤ 60) && (match cs with | [] => true | c :: _ => decide (a ≤ c.place))
structure ROK (n : Int) (cs : List CallR) (q : Int) : Prop where
  a : 0 ≤ q ∧ q ≤ n
  c : COK n cs
  l : cs.length ≤ 60
  f : ∀ c, cs[0]? = some c → q ≤ c.place
theorem remB_iff (n : Int) (cs : List CallR) (a : Int) : remB n cs a = true ↔ ROK n cs a := by
  unfold remB
  rw [Bool.and_eq_true, Bool.and_eq_true, Bool.and_eq_true, decide_eq_true_eq, cB_iff]
  constructor
  · rintro ⟨⟨⟨h1, h2⟩, h3⟩, h4⟩
    simp only [inR, Bool.and_eq_true, decide_eq_true_eq] at h1
    refine ⟨h1, h2, h3, fun c hc => ?_⟩
    cases cs with
    | nil => simp at hc
    | cons d ds => simp at hc; subst hc; simpa using h4
  · rintro ⟨h1, h2, h3, h4⟩
    refine ⟨⟨⟨by simp [inR]; omega, h2⟩, h3⟩, ?_⟩
    cases cs with
    | nil => rfl
    | cons d ds => simpa using h4 d rfl
theorem rem_places {n : Int} {cs : List CallR} {a : Int} (h : ROK n cs a) {k : Nat} (hk : k < cs.length) : a ≤ (cs[k]'hk).place := by
  have key : ∀ k, (hk : k < cs.length) → a ≤ (cs[k]'hk).place := by
    intro k
    induction k with
    | zero => intro hk; exact h.f _ (List.getElem?_eq_getElem hk)
    | succ k ih =>
      intro hk
      have h1 := ih (by omega)
      have h2 := (h.c.k (k + 1) hk _ (List.getElem?_eq_getElem hk)).2.2.2.2.2 (cs[k]'(by omega)) (by omega) (by simp)
      omega
  exact key k hk
set_option maxRecDepth 100000 in
set_option maxHeartbeats 8000000 in
theorem remain_any (a : Int) (ka : Option Addr) (kn kc : Nat) (cs : List CallR) (g : Nat) (ta : Option Addr) (tc N : Nat) (S : Spd) (R : Road) (w : World) (h : TS w w.heap.size g ta tc N S R) (hK : SL caC 5 w w.heap.size ka kn cs) (hN : N ≤ 100000) (hkn : kn ≤ 1000) :
    Calls Tryd.prog 87 #[.pointer (some ⟨g, 0, none⟩), .slice ka kn kc, .int .i64 a] w fun e w' => e = .returned (.bool (remB N cs a)) ∧ Below w.heap.size w w' := by
  have HT := Lib.hid h
  have HK := Lib.hid hK
  have HLK := Lib.hid hK.1
  clear h hK
  go_enter Tryd.func87, Tryd.ntmps87
  go_wp2_with fail
  refine (place_any a g ta tc N S R w HT.out (by omega)).mono ?_
  rintro e w' ⟨rfl, rfl⟩
  cases hpl : inR a 0 N
  case false =>
    have hE : Hid (remB N cs a = false) := by show _ = _; unfold remB; rw [hpl]; rfl
    go_wp2_with fail
    go_ret
    exact ⟨ret_bool hE.out.symm, Below.refl _ _⟩
  have HPL := Lib.hid hpl
  clear hpl
  go_wp2_with fail
  refine (calls_any ka kn kc cs g ta tc N S R w HT.out HK.out (by omega) (by omega)).mono ?_
  rintro e w1 ⟨rfl, hb1⟩
  cases hcb : cB N cs
  case false =>
    have hE : Hid (remB N cs a = false) := by show _ = _; unfold remB; rw [HPL.out, hcb]; rfl
    go_wp2_with fail
    go_ret
    exact ⟨ret_bool hE.out.symm, hb1⟩
  have HCB := Lib.hid hcb
  clear hcb
  by_cases h60 : kn ≤ 60
  case neg =>
    have hE : Hid (remB N cs a = false) := by show _ = _; unfold remB; rw [HPL.out, HCB.out, decide_eq_false (by rw [← HLK.out]; exact h60)]; rfl
    have g1 : decide ((kn : Int) ≤ 60) = false := decide_eq_false (by omega)
    go_wp2_with fail
    go_ret
    exact ⟨ret_bool hE.out.symm, hb1⟩
  have g1 : decide ((kn : Int) ≤ 60) = true := decide_eq_true (by omega)
  by_cases h0 : kn = 0
  case pos =>
    have hE : Hid (remB N cs a = true) := by
      show _ = _
      have hn : cs = [] := List.eq_nil_of_length_eq_zero (by rw [← HLK.out]; exact h0)
      unfold remB
      rw [HPL.out, HCB.out, hn]
      rfl
    have g2 : ((kn : Int) == 0) = true := by simp; omega
    go_wp2_with fail
    go_ret
    exact ⟨ret_bool hE.out.symm, hb1⟩
  have g2 : ((kn : Int) == 0) = false := by simp; omega
  have hkl : 0 < cs.length := by rw [← HLK.out]; omega
  obtain ⟨b, off, hA, hbB, c0, -, -, -, -⟩ := KS5.at_ (HK.out.grow hb1 hb1.size) (k := 0) hkl
  have hE : Hid (remB N cs a = decide (a ≤ (cs[0]'hkl).place)) := by
    show _ = _
    unfold remB
    rw [HPL.out, HCB.out, decide_eq_true (by rw [← HLK.out]; exact h60)]
    cases cs with
    | nil => exact absurd hkl (Nat.lt_irrefl _)
    | cons d ds => rfl
  generalize (cs[0]'hkl).place = p at c0 hE
  have hk0 : (0 : Int) < (kn : Int) := by omega
  simp only [Nat.zero_mul, Nat.add_zero] at c0
  subst hA
  clear hkl h0
  go_wp2_with fail
  go_ret
  exact ⟨ret_bool hE.out.symm, hb1⟩
end Go.Proofs.YtijcbfhlhgjedaaDoor
