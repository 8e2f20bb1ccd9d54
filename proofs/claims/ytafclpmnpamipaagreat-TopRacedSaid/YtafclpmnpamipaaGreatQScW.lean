/- Package score: the cars of the power stage, sorted (slices.SortStableFunc at twenty cars or fewer): some order. Printed by genscw.py. -/
import Derived.Test.YtafclpmnpamipaaGreatQScS
import Derived.Test.YtafclpmnpamipaaGreatQScG
namespace Go.Proofs.YtafclpmnpamipaaGreat
open Go.RowKit Go.Shelf Go.Sort Go.Proofs

/-- What the comparison by times reads, as it lies. -/
structure PW (W : World) (blk xb pb eb : Nat) (L : PlF) (ca : Option Addr) (cn cc : Nat) (oa : Option Addr) (oc : Nat) (xs : List CdV) (B : Nat) : Prop where
  x : BK W xb 111 #[.pointer (some ⟨eb, 0, none⟩)]
  p : BK W pb 42 #[.slice (some ⟨L.ib, 0, none⟩) 1 L.ic, .int .i64 1, .int .i64 0, .int .i64 0, .int .i64 L.ml, .int .i64 L.ll, .slice (some ⟨L.jb, 0, none⟩) 1 L.jc, .bool false, .int .i64 0, .int .i64 1, .int .i64 100, .int .i64 L.pow, .slice L.pa L.ps.length L.pc, .slice none 0 0]
  e : EV W B eb L ca cn cc oa oc xs
  nx : xb ≠ blk
  np : pb ≠ blk
  nB : B ≤ blk
  nW : B ≤ W.heap.size
theorem PW.keep {W W' : World} {blk xb pb eb cn cc oc B : Nat} {L : PlF} {ca oa : Option Addr} {xs : List CdV} (h : PW W blk xb pb eb L ca cn cc oa oc xs B) (hg : W.grownBy W' (some blk)) : PW W' blk xb pb eb L ca cn cc oa oc xs B where
  x := (hg.block _ h.x.lt (fun e => by injection e with e; exact h.nx e)).trans h.x
  p := (hg.block _ h.p.lt (fun e => by injection e with e; exact h.np e)).trans h.p
  e := h.e.grow ⟨hg.os, hg.tape, hg.output, hg.size, fun q hq => hg.block q (Nat.lt_of_lt_of_le hq h.nW) (fun e => by injection e with e; have := h.nB; omega)⟩ (Nat.le_refl _)
  nx := h.nx
  np := h.np
  nB := h.nB
  nW := Nat.le_trans h.nW hg.size
set_option maxRecDepth 100000 in
set_option maxHeartbeats 8000000 in
theorem resC5 (W : World) (blk xb pb eb cn cc oc B : Nat) (L : PlF) (ca oa : Option Addr) (xs : List CdV) (h : PW W blk xb pb eb L ca cn cc oa oc xs B) (hpow : L.pow = 0) (a b : Nat) (x y : CdV) (hx : xs[a]? = some x) (hy : xs[b]? = some y) :
    Calls Tryz.prog 54 #[.int .i64 a, .int .i64 b, .pointer (some ⟨xb, 0, none⟩), .pointer (some ⟨pb, 0, none⟩)] W fun e w' => e = .returned (.int .i64 (cmpI x.t y.t)) ∧ ∃ q, w' = W.drewN q := by
  have q0 : W.cell? ⟨xb, 0, none⟩ = some (.pointer (some ⟨eb, 0, none⟩)) := h.x.cell 0
  have p11 : W.cell? ⟨pb, 11, none⟩ = some (.int .i64 0) := by have := h.p.cell 11; rw [hpow] at this; exact this
  have hE : ∀ q, EV (W.drewN q) (W.drewN q).heap.size eb L ca cn cc oa oc xs := fun q => EV.grow h.e (below_drewN (Below.refl _ _) q) h.nW
  have HA := Lib.hid (fun q => scTook (W.drewN q) (hE q) a x hx)
  have HB := Lib.hid (fun q => scTook (W.drewN q) (hE q) b y hy)
  clear h hE
  go_enter Tryz.func54, Tryz.ntmps54
  go_wp2_with fail
  go_quiet (first
    | (go_at_call 43; first | with_reducible exact (HA.out _).mono fun _ _ ⟨e1, e2⟩ => ⟨e1, _, e2.symm⟩ | with_reducible exact (HB.out _).mono fun _ _ ⟨e1, e2⟩ => ⟨e1, _, e2.symm⟩)
    | (go_at_call 48; exact (Compare_int _ _ _).mono fun _ _ ⟨e1, e2⟩ => ⟨e1, _, e2⟩))
  go_wp2_with fail
  go_ret
  exact ⟨rfl, _, rfl⟩
def cfP (n : Nat) (ts : List Int) (a b : Fin n) : Int := cmpI (ts.getD a.1 0) (ts.getD b.1 0)
theorem cfP_swo (n : Nat) (ts : List Int) : SWO (ltOf (cfP n ts)) where
  irrefl x := by unfold ltOf cfP; rw [decide_eq_false_iff_not, cmpI_neg]; omega
  trans x y z h1 h2 := by unfold ltOf cfP at *; rw [decide_eq_true_eq, cmpI_neg] at *; omega
  ntrans x y z h1 h2 := by unfold ltOf cfP at *; rw [decide_eq_false_iff_not, cmpI_neg] at *; omega
set_option maxRecDepth 100000 in
set_option maxHeartbeats 8000000 in
theorem stabCars (base blk c n : Nat) (hn : 0 < n) (hn12 : n ≤ 12) (xb pb eb cc oc B : Nat) (L : PlF) (ca oa : Option Addr) (xs : List CdV) (w : World) (hpow : L.pow = 0) (hO : OW iC 1 3 base w (some ⟨blk, 0, none⟩) n c (rng n)) (hP : PW w blk xb pb eb L ca n cc oa oc xs B) :
    Calls Tryz.prog 53 #[.slice (some ⟨blk, 0, none⟩) n c, .func (.func 54) #[] #[.pointer (some ⟨xb, 0, none⟩), .pointer (some ⟨pb, 0, none⟩)]] w fun e w' => e = .returned (.tuple #[]) ∧ ∃ l : List Nat, l.Perm (List.range n) ∧ OW iC 1 3 base w' (some ⟨blk, 0, none⟩) n c (l.map fun (i : Nat) => (i : Int)) ∧ w.grownBy w' (some blk) := by
  letI : Inhabited (Fin n) := ⟨⟨0, hn⟩⟩
  have hxl : n = xs.length := hP.e.len
  obtain ⟨b, hb, hlt, hbase, _, hcells⟩ := hO.at_ iC_len _ rfl
  obtain rfl : blk = b := by injection hb
  rcases hO.1.2 with ⟨h3, _⟩ | ⟨g, cap, cur, h3, hbg, hg, hnc, hcm, hcs, htk⟩
  · cases h3
  have e3 : (⟨blk, 0, none⟩ : Addr) = ⟨g, 0, none⟩ ∧ c = cap := by injection h3 with q1 q2 q3; injection q1 with q1; exact ⟨q1, q3⟩
  obtain ⟨e3, rfl⟩ := e3
  obtain rfl : blk = g := by injection e3
  have hH : Holds (eF n) w blk 0 (allF n) := by
    intro j hj
    rw [allF_size] at hj
    refine ⟨?_, by simp [World.frozen?, hg]⟩
    have := hcells j (j : Int) (by rw [List.getElem?_eq_getElem (by rw [rng_len]; exact hj), rng_at]) 0 (.int .i64 (j : Int)) rfl
    rw [getElem!_pos _ j (by rw [allF_size]; exact hj)]
    simpa [allF, eF] using this
  have hcmp : CmpReads Tryz.prog 54 #[.pointer (some ⟨xb, 0, none⟩), .pointer (some ⟨pb, 0, none⟩)] (eF n) (cfP n (xs.map (·.t))) blk 0 (allF n).size w := by
    intro m os dk hdk x y
    have hg2 : w.grownBy (sortWorld (eF n) w blk 0 m dk os) (some blk) := by
      refine ⟨rfl, rfl, rfl, by unfold sortWorld; simp, fun q hq hne => ?_⟩
      unfold sortWorld
      rw [heap_grow_old _ _ (by simpa using hq)]
      have : blk ≠ q := fun e => hne (by rw [e])
      simp [putRow, mapBlock, Sort.ahead, Array.getElem?_modify, this]
    obtain ⟨u, hu⟩ : ∃ u, xs[x.1]? = some u := ⟨_, List.getElem?_eq_getElem (by have := x.2; omega)⟩
    obtain ⟨v, hv⟩ : ∃ u, xs[y.1]? = some u := ⟨_, List.getElem?_eq_getElem (by have := y.2; omega)⟩
    have e1 : cfP n (xs.map (·.t)) x y = cmpI u.t v.t := by
      unfold cfP
      rw [List.getD_eq_getElem?_getD, List.getD_eq_getElem?_getD, List.getElem?_map, List.getElem?_map, hu, hv]
      rfl
    rw [e1]
    exact resC5 _ blk xb pb eb n cc oc B L ca oa xs (hP.keep hg2) hpow x.1 y.1 u v hu hv
  have eg : ∀ args w, (callFunc 54 args).run Tryz.prog w = .ok (.enter 54 args) w := enters_of Tryz.func54 (by kernel_rfl) rfl
  have hcon := Any.insertionSortCmpFunc_one (P := Tryz.prog) (ρ := srt_sortF_ren) { srt_sortF with } (eF n) (eF_one n) (cfP n (xs.map (·.t))) 54 #[.pointer (some ⟨xb, 0, none⟩), .pointer (some ⟨pb, 0, none⟩)] blk 0 c 0 n (allF n) w eg hcmp hH (Nat.zero_le _) (by rw [allF_size]; exact Nat.le_refl _) (by rw [allF_size]; omega)
  rw [allF_size] at hcon
  have HC : Hid (Calls Tryz.prog 139 #[.slice (some ⟨blk, 0, none⟩) n c, .int .i64 0, .int .i64 n, .func (.func 54) #[] #[.pointer (some ⟨xb, 0, none⟩), .pointer (some ⟨pb, 0, none⟩)]] w fun e w' =>
      e = .returned (.tuple #[]) ∧ ∃ q, w' = (putRow (eF n) w blk 0 (insertionSort (ltOf (cfP n (xs.map (·.t)))) (allF n) 0 n)).drewN q) := hcon
  obtain ⟨d, hd⟩ : ∃ d, d = insertionSort (ltOf (cfP n (xs.map (·.t)))) (allF n) 0 n := ⟨_, rfl⟩
  have hper := insertionSort_holds (lt := ltOf (cfP n (xs.map (·.t)))) (cfP_swo n _) (allF n) 0 n (Nat.zero_le _) (by rw [allF_size]; exact Nat.le_refl _)
  rw [← hd] at HC hper
  obtain ⟨⟨hs1, _, hs2⟩, _⟩ := hper
  rw [allF_size] at hs1
  have e1 : (d.extract 0 n).toList = d.toList := by
    rw [Array.toList_extract, List.extract_eq_take_drop, List.drop_zero]
    exact List.take_of_length_le (by rw [Array.length_toList]; exact Nat.le_of_eq hs1)
  have e2 : ((allF n).extract 0 n).toList = (allF n).toList := by
    rw [Array.toList_extract, List.extract_eq_take_drop, List.drop_zero]
    exact List.take_of_length_le (by rw [Array.length_toList, allF_size]; exact Nat.le_refl _)
  rw [e1, e2] at hs2
  have hperm : Hid ((d.toList.map fun i => i.1).Perm (List.range n)) := by
    have h := hs2.map fun i => i.1
    have e : (allF n).toList.map (fun i => i.1) = List.range n := by
      unfold allF
      refine List.ext_getElem (by simp) fun i h1 h2 => ?_
      simp
    rw [e] at h
    exact h
  have hres : Hid (∀ q, OW iC 1 3 base ((putRow (eF n) w blk 0 d).drewN q) (some ⟨blk, 0, none⟩) n c ((d.toList.map fun i => i.1).map fun (i : Nat) => (i : Int)) ∧ w.grownBy ((putRow (eF n) w blk 0 d).drewN q) (some blk)) := by
    intro q
    rw [putRow_fin]
    have hl : (d.toList.map fun i => i.1).map (fun (i : Nat) => (i : Int)) = (d.map fun i => ((i.1 : Nat) : Int)).toList := by simp
    have hw : (putRow (Value.int .i64) w blk 0 (d.map fun i => ((i.1 : Nat) : Int))).drewN q = grow (putRow (Value.int .i64) (Sort.ahead w q) blk 0 ((d.toList.map fun i => i.1).map fun (i : Nat) => (i : Int)).toArray) #[] := by
      rw [grow_empty, hl]
      rfl
    rw [hw]
    have hll : ((d.toList.map fun i => i.1).map fun (i : Nat) => (i : Int)).length = (rng n).length := by rw [List.length_map, List.length_map, Array.length_toList, hs1, rng_len]
    have hr := ownsRow_sortedI (w := w) (base := base) (g := blk) (cap := c) (n := q) (e := 3) (os := #[]) (cur := cur) (ss := rng n) (ts := (d.toList.map fun i => i.1).map fun (i : Nat) => (i : Int)) hll hbg hg (by rw [rng_len]; exact hnc) hcm hcs
    rw [rng_len] at hr
    refine ⟨⟨?_, by rw [hll, rng_len]⟩, grownBy_sortedI _⟩
    rw [flat_iC]
    exact hr
  have g1 : decide ((20 : Int) ≤ (n : Int)) = false := by simp; omega
  have g2 : decide ((20 : Int) < (n : Int)) = false := by simp; omega
  have g3 : decide (20 ≤ n) = false := by simp; omega
  have g4 : decide (20 < n) = false := by simp; omega
  have hStab : Hid (Calls Tryz.prog 105 #[.slice (some ⟨blk, 0, none⟩) n c, .int .i64 n, .func (.func 54) #[] #[.pointer (some ⟨xb, 0, none⟩), .pointer (some ⟨pb, 0, none⟩)]] w fun e w' => e = .returned (.tuple #[]) ∧ ∃ q, w' = (putRow (eF n) w blk 0 d).drewN q) := by
    show Calls _ _ _ _ _
    clear hO hP hH hcmp eg hcon hd hs1 hs2 e1 e2 hperm hres hcells htk hg hcs hcm hnc hxl
    go_enter Tryz.func105, Tryz.ntmps105
    go_wp2_with fail
    refine wp_loop_rounds 1 ?_
    rw [rounds_succ]
    go_wp2_with fail
    refine HC.out.mono ?_
    rintro e w' ⟨rfl, q, rfl⟩
    go_wp2_with fail
    refine wp_loop_rounds 1 ?_
    rw [rounds_succ]
    go_wp2_with fail
    go_end0
    exact ⟨rfl, q, rfl⟩
  clear hO hP hH hcmp eg hcon hd hs1 hs2 e1 e2 hcells htk hg hcs hcm hnc HC hxl
  go_enter Tryz.func53, Tryz.ntmps53
  go_wp2_with fail
  refine hStab.out.mono ?_
  rintro e w' ⟨rfl, q, rfl⟩
  go_wp2_with fail
  go_end0
  exact ⟨rfl, _, hperm.out, (hres.out q).1, (hres.out q).2⟩
end Go.Proofs.YtafclpmnpamipaaGreat
