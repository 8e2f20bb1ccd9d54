/- Safer and the document's Safer of two valid surveys of the same length: the safer road sres and its error. -/
import Derived.Test.YtomloklckpcaiaaZMr2
import Derived.Test.YtomloklckpcaiaaZSafe
import Derived.Test.YtomloklckpcaiaaZRSafe
namespace Go.Proofs.Ytomloklckpcaiaa
open Go.RowKit Go.Shelf Go.Sort Go.Proofs

theorem RD.zero (w : World) : RD w w.heap.size none 0 none 0 none 0 ⟨[], [], []⟩ :=
  RD.mk ((OW.nil_ (f := pC) (sz := 5) (e := 52) (base := 0)).sl pC_len) ((OW.nil_ (f := cC) (sz := 2) (e := 87) (base := 0)).sl cC_len) ((OW.nil_ (f := jC) (sz := 3) (e := 89) (base := 0)).sl jC_len)
theorem sres_of {R R2 : Road} {w w' : World} {e : Ending}
    (h1 : rfM (units R.ps) (units R2.ps) (sumL R.ps).toNat = none → e = .returned (.tuple #[.agg #[.slice none 0 0, .slice none 0 0, .slice none 0 0], .int .i64 5]))
    (h2 : ∀ L, rfM (units R.ps) (units R2.ps) (sumL R.ps).toNat = some L → mr2g (fun x : Junc => x.pos) okJ R.js R2.js = false → e = .returned (.tuple #[.agg #[.slice none 0 0, .slice none 0 0, .slice none 0 0], .int .i64 5]))
    (h3 : ∀ L, rfM (units R.ps) (units R2.ps) (sumL R.ps).toNat = some L → mr2g (fun x : Junc => x.pos) okJ R.js R2.js = true → ∃ A1 n1 c1 A2 n2 c2 A3 n3 c3, e = .returned (boundV A1 n1 c1 A2 n2 c2 A3 n3 c3 ⟨normP L, mr2 (fun x : Crest => x.pos) bothC R.cs R2.cs, mr2 (fun x : Junc => x.pos) bothJ R.js R2.js⟩) ∧
      (OW pC 5 52 w.heap.size w' A1 n1 c1 (normP L) ∧ OW cC 2 87 w.heap.size w' A2 n2 c2 (mr2 (fun x : Crest => x.pos) bothC R.cs R2.cs) ∧ OW jC 3 89 w.heap.size w' A3 n3 c3 (mr2 (fun x : Junc => x.pos) bothJ R.js R2.js))) :
    ∃ A1 n1 c1 A2 n2 c2 A3 n3 c3, e = .returned (.tuple #[.agg #[.slice A1 n1 c1, .slice A2 n2 c2, .slice A3 n3 c3], .int .i64 (sres R R2).2]) ∧ RD w' w'.heap.size A1 n1 A2 n2 A3 n3 (sres R R2).1 := by
  cases h : rfM (units R.ps) (units R2.ps) (sumL R.ps).toNat with
  | none =>
    rw [sres_none h]
    exact ⟨none, 0, 0, none, 0, 0, none, 0, 0, h1 h, RD.zero w'⟩
  | some L =>
    rw [sres_some h]
    cases hg : mr2g (fun x : Junc => x.pos) okJ R.js R2.js with
    | false =>
      rw [if_neg (by decide)]
      exact ⟨none, 0, 0, none, 0, 0, none, 0, 0, h2 L h hg, RD.zero w'⟩
    | true =>
      rw [if_pos rfl]
      obtain ⟨A1, n1, c1, A2, n2, c2, A3, n3, c3, he, o1, o2, o3⟩ := h3 L h hg
      rw [he, boundV]
      split
      · exact ⟨A1, n1, c1, A2, n2, c2, A3, n3, c3, rfl, RD.mk (o1.sl pC_len) (o2.sl cC_len) (o3.sl jC_len)⟩
      · exact ⟨none, 0, 0, none, 0, 0, none, 0, 0, rfl, RD.zero w'⟩
theorem rSafer_res (pa : Option Addr) (pn pc : Nat) (ca : Option Addr) (cn cc : Nat) (ja : Option Addr) (jn jc : Nat) (R : Road) (pa2 : Option Addr) (pn2 pc2 : Nat) (ca2 : Option Addr) (cn2 cc2 : Nat) (ja2 : Option Addr) (jn2 jc2 : Nat) (R2 : Road) (w : World)
    (h : RD w w.heap.size pa pn ca cn ja jn R) (h2 : RD w w.heap.size pa2 pn2 ca2 cn2 ja2 jn2 R2) (hv : OK R) (hv2 : OK R2) (hs : sumL R.ps = sumL R2.ps) (hsm : sumL R.ps ≤ 2000) :
    Calls Try.prog 47 #[.agg #[.slice pa pn pc, .slice ca cn cc, .slice ja jn jc], .agg #[.slice pa2 pn2 pc2, .slice ca2 cn2 cc2, .slice ja2 jn2 jc2]] w fun e w' => (∃ A1 n1 c1 A2 n2 c2 A3 n3 c3, e = .returned (.tuple #[.agg #[.slice A1 n1 c1, .slice A2 n2 c2, .slice A3 n3 c3], .int .i64 (sres R R2).2]) ∧ RD w' w'.heap.size A1 n1 A2 n2 A3 n3 (sres R R2).1) ∧ Below w.heap.size w w' := by
  refine (rSafer_in pa pn pc ca cn cc ja jn jc R pa2 pn2 pc2 ca2 cn2 cc2 ja2 jn2 jc2 R2 w h h2 hv hv2 hs hsm).mono ?_
  rintro e w' ⟨⟨h1, h2, h3⟩, hb⟩
  exact ⟨sres_of (w := w) h1 h2 h3, hb⟩
theorem Safer_res (pa : Option Addr) (pn pc : Nat) (ca : Option Addr) (cn cc : Nat) (ja : Option Addr) (jn jc : Nat) (R : Road) (pa2 : Option Addr) (pn2 pc2 : Nat) (ca2 : Option Addr) (cn2 cc2 : Nat) (ja2 : Option Addr) (jn2 jc2 : Nat) (R2 : Road) (w : World)
    (h : RD w w.heap.size pa pn ca cn ja jn R) (h2 : RD w w.heap.size pa2 pn2 ca2 cn2 ja2 jn2 R2) (hv : OK R) (hv2 : OK R2) (hs : sumL R.ps = sumL R2.ps) (hsm : R.ps.length + R2.ps.length ≤ 2000) :
    Calls Try.prog 46 #[.agg #[.slice pa pn pc, .slice ca cn cc, .slice ja jn jc], .agg #[.slice pa2 pn2 pc2, .slice ca2 cn2 cc2, .slice ja2 jn2 jc2]] w fun e w' => (∃ A1 n1 c1 A2 n2 c2 A3 n3 c3, e = .returned (.tuple #[.agg #[.slice A1 n1 c1, .slice A2 n2 c2, .slice A3 n3 c3], .int .i64 (sres R R2).2]) ∧ RD w' w'.heap.size A1 n1 A2 n2 A3 n3 (sres R R2).1) ∧ Below w.heap.size w w' := by
  have hp1 : ∀ q ∈ R.ps, 1 ≤ q.len := fun q hq => (pOk_len (hv.pk q hq)).1
  have hp2 : ∀ q ∈ R2.ps, 1 ≤ q.len := fun q hq => (pOk_len (hv2.pk q hq)).1
  have hrf := rfM_sfM hp1 hp2 hs
  have c1 : Pw (fun x : Crest => x.pos) R.cs := ((crests_iff _ _).1 hv.ck).2
  have c2 : Pw (fun x : Crest => x.pos) R2.cs := ((crests_iff _ _).1 hv2.ck).2
  have j1 : Pw (fun x : Junc => x.pos) R.js := ((juncs_iff _ _).1 hv.jk).2
  have j2 : Pw (fun x : Junc => x.pos) R2.js := ((juncs_iff _ _).1 hv2.jk).2
  have eC := (mgd_mrg (fun x : Crest => x.pos) bothC okC (fun _ _ => rfl) c1 c2).1
  obtain ⟨eJ, eG⟩ := mgd_mrg (fun x : Junc => x.pos) bothJ okJ (fun _ _ => rfl) j1 j2
  rw [← ssort_app _ c1 c2] at eC
  rw [← ssort_app _ j1 j2] at eJ eG
  have hok : ∀ L, sfM (strL R.ps R2.ps) = some L → normP (units L) = normP L := fun L hL => norm_units fun z hz => (pOk_len (sfM_ok hv.pk hv2.pk hs hL z hz)).1
  refine (Safer_in pa pn pc ca cn cc ja jn jc R pa2 pn2 pc2 ca2 cn2 cc2 ja2 jn2 jc2 R2 w h h2 hv hv2 hs hsm).mono ?_
  rintro e w' ⟨⟨h1, h2, h3⟩, hb⟩
  refine ⟨sres_of (w := w) (fun hn => ?_) (fun L hL hg => ?_) (fun L hL hg => ?_), hb⟩
  · rw [hrf] at hn
    exact h1 (by simpa using hn)
  · rw [hrf] at hL
    obtain ⟨L', hL', rfl⟩ := Option.map_eq_some_iff.1 hL
    exact h2 L' hL' (by rw [eG]; exact hg)
  · rw [hrf] at hL
    obtain ⟨L', hL', rfl⟩ := Option.map_eq_some_iff.1 hL
    have := h3 L' hL' (by rw [eG]; exact hg)
    rw [eC, eJ, ← hok L' hL'] at this
    exact this
end Go.Proofs.Ytomloklckpcaiaa
