/- The safer road of two surveys of the same length and its error: alike both ways round, the road in normal form for a road with itself. No program in sight. -/
import Derived.Test.YtijcbfhlhgjedaaGreatDoorPCBBase
import Derived.Test.YtijcbfhlhgjedaaGreatDoorPCBRoad
import Derived.Test.YtijcbfhlhgjedaaGreatDoorPCBLeaf
import Derived.Test.YtijcbfhlhgjedaaGreatDoorPCBCheck
import Derived.Test.YtijcbfhlhgjedaaGreatDoorPCBValid
import Derived.Test.YtijcbfhlhgjedaaGreatDoorPCBFind
import Derived.Test.YtijcbfhlhgjedaaGreatDoorPCBReg
import Derived.Test.YtijcbfhlhgjedaaGreatDoorPCBGrouped
import Derived.Test.YtijcbfhlhgjedaaGreatDoorPCBPG
import Derived.Test.YtijcbfhlhgjedaaGreatDoorPCBStr
import Derived.Test.YtijcbfhlhgjedaaGreatDoorPCBCmp
import Derived.Test.YtijcbfhlhgjedaaGreatDoorPCBOpen
import Derived.Test.YtijcbfhlhgjedaaGreatDoorPCBReg7
import Derived.Test.YtijcbfhlhgjedaaGreatDoorPCPRow
import Derived.Test.YtijcbfhlhgjedaaGreatDoorPCMtr
import Derived.Test.YtijcbfhlhgjedaaGreatDoorPCReg8
import Derived.Test.YtijcbfhlhgjedaaGreatDoorPCSpCk
import Derived.Test.YtijcbfhlhgjedaaGreatDoorPCPlanM
import Derived.Test.YtijcbfhlhgjedaaGreatDoorPCLast
import Derived.Test.YtijcbfhlhgjedaaGreatDoorPCBeg
import Derived.Test.YtijcbfhlhgjedaaGreatDoorPCRoom
import Derived.Test.YtijcbfhlhgjedaaGreatDoorPCCallsB
import Derived.Test.YtijcbfhlhgjedaaGreatDoorPCPlan
import Derived.Test.YtijcbfhlhgjedaaGreatDoorPCBetw
import Derived.Test.YtijcbfhlhgjedaaGreatDoorPCKn03P
import Derived.Test.YtijcbfhlhgjedaaGreatDoorPCRef3
import Derived.Test.YtijcbfhlhgjedaaGreatDoorPFBound
import Derived.Test.YtijcbfhlhgjedaaGreatDoorPFPGrouped
import Derived.Test.YtijcbfhlhgjedaaGreatDoorPFSafe
namespace Go.Proofs.YtijcbfhlhgjedaaGreatDoor
open Go.RowKit Go.Shelf Go.Sort Go.Proofs

/-- What the safer road is, and the error. -/
def sres (R R2 : Road) : Road × Int :=
  match rfM (units R.ps) (units R2.ps) (sumL R.ps).toNat with
  | none => (⟨[], [], []⟩, 5)
  | some L =>
    if mr2g (fun x : Junc => x.pos) okJ R.js R2.js = true then
      (if fitsR ⟨normP L, mr2 (fun x : Crest => x.pos) bothC R.cs R2.cs, mr2 (fun x : Junc => x.pos) bothJ R.js R2.js⟩ = true then (⟨normP L, mr2 (fun x : Crest => x.pos) bothC R.cs R2.cs, mr2 (fun x : Junc => x.pos) bothJ R.js R2.js⟩, 0) else (⟨[], [], []⟩, 4))
    else (⟨[], [], []⟩, 5)
theorem sres_none {R R2 : Road} (h : rfM (units R.ps) (units R2.ps) (sumL R.ps).toNat = none) : sres R R2 = (⟨[], [], []⟩, 5) := by
  simp only [sres, h]
theorem sres_some {R R2 : Road} {L : List Piece} (h : rfM (units R.ps) (units R2.ps) (sumL R.ps).toNat = some L) : sres R R2 =
    if mr2g (fun x : Junc => x.pos) okJ R.js R2.js = true then
      (if fitsR ⟨normP L, mr2 (fun x : Crest => x.pos) bothC R.cs R2.cs, mr2 (fun x : Junc => x.pos) bothJ R.js R2.js⟩ = true then (⟨normP L, mr2 (fun x : Crest => x.pos) bothC R.cs R2.cs, mr2 (fun x : Junc => x.pos) bothJ R.js R2.js⟩, 0) else (⟨[], [], []⟩, 4))
    else (⟨[], [], []⟩, 5) := by
  simp only [sres, h]
theorem rfM_symm {xs ys : List Piece} (hx : ∀ q ∈ xs, pOk q = true) (hy : ∀ q ∈ ys, pOk q = true) : ∀ k, rfM xs ys k = rfM ys xs k
  | 0 => rfl
  | k + 1 => by
    rw [rfM, rfM, rfM_symm hx hy k]
    congr 1
    funext L
    cases h1 : xs[k]? with
    | none => cases ys[k]? <;> rfl
    | some x =>
      cases h2 : ys[k]? with
      | none => rfl
      | some y => simp only [sfr_symm (hx x (List.mem_of_getElem? h1)) (hy y (List.mem_of_getElem? h2)) 1]
theorem mr2g_all {α : Type} (key : α → Int) (ok : α → α → Bool) (h : ∀ x y, ok x y = true) : ∀ L R : List α, mr2g key ok L R = true
  | [], R => nil_mr2g key ok R
  | l :: L, [] => mr2g_nil key ok _
  | l :: L, r :: R => by
    rw [mr2g_cons, h, mr2g_all key ok h L (r :: R), mr2g_all key ok h (l :: L) R, mr2g_all key ok h L R]
    simp
termination_by L R => L.length + R.length
theorem mr2C_symm (L R : List Crest) : mr2 (fun x : Crest => x.pos) bothC L R = mr2 (fun x : Crest => x.pos) bothC R L :=
  (mr2_symm (fun x : Crest => x.pos) bothC okC (fun x y h _ => bothC_symm x y h) (fun _ _ => rfl) L R).2 (mr2g_all _ _ (fun _ _ => rfl) L R)
theorem sres_symm {R R2 : Road} (hv : OK R) (hv2 : OK R2) (hs : sumL R.ps = sumL R2.ps) : sres R R2 = sres R2 R := by
  have e := rfM_symm (units_ok hv.pk) (units_ok hv2.pk) (sumL R.ps).toNat
  obtain ⟨g1, g2⟩ := mr2_symm (fun x : Junc => x.pos) bothJ okJ (fun x y _ h => bothJ_symm x y h) okJ_symm R.js R2.js
  cases h : rfM (units R.ps) (units R2.ps) (sumL R.ps).toNat with
  | none => rw [sres_none h, sres_none (by rw [← hs, ← e, h])]
  | some L =>
    rw [sres_some h, sres_some (show rfM (units R2.ps) (units R.ps) (sumL R2.ps).toNat = some L by rw [← hs, ← e, h]), ← g1, mr2C_symm R2.cs R.cs]
    by_cases hg : mr2g (fun x : Junc => x.pos) okJ R.js R2.js = true
    · rw [if_pos hg, if_pos hg, g2 hg]
    · rw [if_neg hg, if_neg hg]
end Go.Proofs.YtijcbfhlhgjedaaGreatDoor

/- Safer of two valid surveys of the same length: the safer road sres and its error. -/
namespace Go.Proofs.YtijcbfhlhgjedaaGreatDoor
open Go.RowKit Go.Shelf Go.Sort Go.Proofs

theorem sres_of {R R2 : Road} {w w' : World} {e : Ending}
    (h1 : rfM (units R.ps) (units R2.ps) (sumL R.ps).toNat = none → e = .returned (.tuple #[.agg #[.slice none 0 0, .slice none 0 0, .slice none 0 0], .int .i64 5]))
    (h2 : ∀ L, rfM (units R.ps) (units R2.ps) (sumL R.ps).toNat = some L → mr2g (fun x : Junc => x.pos) okJ R.js R2.js = false → e = .returned (.tuple #[.agg #[.slice none 0 0, .slice none 0 0, .slice none 0 0], .int .i64 5]))
    (h3 : ∀ L, rfM (units R.ps) (units R2.ps) (sumL R.ps).toNat = some L → mr2g (fun x : Junc => x.pos) okJ R.js R2.js = true → ∃ A1 n1 c1 A2 n2 c2 A3 n3 c3, e = .returned (boundV A1 n1 c1 A2 n2 c2 A3 n3 c3 ⟨normP L, mr2 (fun x : Crest => x.pos) bothC R.cs R2.cs, mr2 (fun x : Junc => x.pos) bothJ R.js R2.js⟩) ∧
      (OW pC 5 72 w.heap.size w' A1 n1 c1 (normP L) ∧ OW cC 2 76 w.heap.size w' A2 n2 c2 (mr2 (fun x : Crest => x.pos) bothC R.cs R2.cs) ∧ OW jC 3 78 w.heap.size w' A3 n3 c3 (mr2 (fun x : Junc => x.pos) bothJ R.js R2.js))) :
    ∃ A1 n1 c1 A2 n2 c2 A3 n3 c3, e = .returned (.tuple #[.agg #[.slice A1 n1 c1, .slice A2 n2 c2, .slice A3 n3 c3], .int .i64 (sres R R2).2]) ∧ RD w' w'.heap.size A1 n1 A2 n2 A3 n3 (sres R R2).1 := by
  cases h : rfM (units R.ps) (units R2.ps) (sumL R.ps).toNat with
  | none =>
    rw [sres_none h]
    exact ⟨none, 0, 0, none, 0, 0, none, 0, 0, h1 h, RD.zero w'⟩
  | some L =>
    rw [sres_some h]
    cases hg : mr2g (fun x : Junc => x.pos) okJ R.js R2.js with
    | false =>
      rw [if_neg (by decide)]
      exact ⟨none, 0, 0, none, 0, 0, none, 0, 0, h2 L h hg, RD.zero w'⟩
    | true =>
      rw [if_pos rfl]
      obtain ⟨A1, n1, c1, A2, n2, c2, A3, n3, c3, he, o1, o2, o3⟩ := h3 L h hg
      rw [he, boundV]
      split
      · exact ⟨A1, n1, c1, A2, n2, c2, A3, n3, c3, rfl, RD.mk (o1.sl pC_len) (o2.sl cC_len) (o3.sl jC_len)⟩
      · exact ⟨none, 0, 0, none, 0, 0, none, 0, 0, rfl, RD.zero w'⟩
theorem Safer_res (pa : Option Addr) (pn pc : Nat) (ca : Option Addr) (cn cc : Nat) (ja : Option Addr) (jn jc : Nat) (R : Road) (pa2 : Option Addr) (pn2 pc2 : Nat) (ca2 : Option Addr) (cn2 cc2 : Nat) (ja2 : Option Addr) (jn2 jc2 : Nat) (R2 : Road) (w : World)
    (h : RD w w.heap.size pa pn ca cn ja jn R) (h2 : RD w w.heap.size pa2 pn2 ca2 cn2 ja2 jn2 R2) (hv : OK R) (hv2 : OK R2) (hs : sumL R.ps = sumL R2.ps) (hsm : R.ps.length + R2.ps.length ≤ 2000) :
    Calls Tryz.prog 11 #[.agg #[.slice pa pn pc, .slice ca cn cc, .slice ja jn jc], .agg #[.slice pa2 pn2 pc2, .slice ca2 cn2 cc2, .slice ja2 jn2 jc2]] w fun e w' => (∃ A1 n1 c1 A2 n2 c2 A3 n3 c3, e = .returned (.tuple #[.agg #[.slice A1 n1 c1, .slice A2 n2 c2, .slice A3 n3 c3], .int .i64 (sres R R2).2]) ∧ RD w' w'.heap.size A1 n1 A2 n2 A3 n3 (sres R R2).1) ∧ Below w.heap.size w w' := by
  have hp1 : ∀ q ∈ R.ps, 1 ≤ q.len := fun q hq => (pOk_len (hv.pk q hq)).1
  have hp2 : ∀ q ∈ R2.ps, 1 ≤ q.len := fun q hq => (pOk_len (hv2.pk q hq)).1
  have hrf := rfM_sfM hp1 hp2 hs
  have c1 : Pw (fun x : Crest => x.pos) R.cs := ((crests_iff _ _).1 hv.ck).2
  have c2 : Pw (fun x : Crest => x.pos) R2.cs := ((crests_iff _ _).1 hv2.ck).2
  have j1 : Pw (fun x : Junc => x.pos) R.js := ((juncs_iff _ _).1 hv.jk).2
  have j2 : Pw (fun x : Junc => x.pos) R2.js := ((juncs_iff _ _).1 hv2.jk).2
  have eC := (mgd_mrg (fun x : Crest => x.pos) bothC okC (fun _ _ => rfl) c1 c2).1
  obtain ⟨eJ, eG⟩ := mgd_mrg (fun x : Junc => x.pos) bothJ okJ (fun _ _ => rfl) j1 j2
  rw [← ssort_app _ c1 c2] at eC
  rw [← ssort_app _ j1 j2] at eJ eG
  have hok : ∀ L, sfM (strL R.ps R2.ps) = some L → normP (units L) = normP L := fun L hL => norm_units fun z hz => (pOk_len (sfM_ok hv.pk hv2.pk hs hL z hz)).1
  refine (Safer_in pa pn pc ca cn cc ja jn jc R pa2 pn2 pc2 ca2 cn2 cc2 ja2 jn2 jc2 R2 w h h2 hv hv2 hs hsm).mono ?_
  rintro e w' ⟨⟨h1, h2, h3⟩, hb⟩
  refine ⟨sres_of (w := w) (fun hn => ?_) (fun L hL hg => ?_) (fun L hL hg => ?_), hb⟩
  · rw [hrf] at hn
    exact h1 (by simpa using hn)
  · rw [hrf] at hL
    obtain ⟨L', hL', rfl⟩ := Option.map_eq_some_iff.1 hL
    exact h2 L' hL' (by rw [eG]; exact hg)
  · rw [hrf] at hL
    obtain ⟨L', hL', rfl⟩ := Option.map_eq_some_iff.1 hL
    have := h3 L' hL' (by rw [eG]; exact hg)
    rw [eC, eJ, ← hok L' hL'] at this
    exact this
end Go.Proofs.YtijcbfhlhgjedaaGreatDoor
