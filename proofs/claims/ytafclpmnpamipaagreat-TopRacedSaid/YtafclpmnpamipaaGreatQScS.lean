/- Package score: the cars that count, sorted (slices.SortFunc at twelve cars or fewer). Printed by genscs.py. -/
import Derived.Test.YtafclpmnpamipaaGreatQSrt
import Derived.Test.YtafclpmnpamipaaGreatQScH
import Derived.Sort.LotA
import Derived.Sort.OwnSortedInts
namespace Go.Proofs.YtafclpmnpamipaaGreat
open Go.RowKit Go.Shelf Go.Sort Go.Proofs

theorem flat_iC : ∀ l : List Int, l.flatMap iC = l.map (Value.int .i64)
  | [] => rfl
  | x :: l => by rw [List.flatMap_cons, flat_iC l]; rfl
/-- A number of a car as a value. -/
def eF (n : Nat) (i : Fin n) : Value := .int .i64 ((i : Nat) : Int)
theorem eF_one (n : Nat) : OneCell (eF n) := fun _ => rfl
def cfF (n : Nat) (ts : List Int) (a b : Fin n) : Int := cfT ts a b
def allF (n : Nat) : Array (Fin n) := Array.ofFn fun i => i
theorem allF_size (n : Nat) : (allF n).size = n := by simp [allF]
theorem cmpI_neg (x y : Int) : cmpI x y < 0 ↔ x < y := by
  unfold cmpI
  split
  · simp [*]
  · split <;> simp [*]
theorem cfT_neg (ts : List Int) (a b : Nat) : cfT ts a b < 0 ↔ (ts.getD a 0 < ts.getD b 0 ∨ (ts.getD a 0 = ts.getD b 0 ∧ a < b)) := by
  unfold cfT
  by_cases h : cmpI (ts.getD a 0) (ts.getD b 0) = 0
  · have e := cmpI_zero h
    rw [if_neg (by simpa using h), cmpI_neg, e]
    omega
  · have e : ts.getD a 0 ≠ ts.getD b 0 := fun q => h (by rw [q]; exact cmpI_self _)
    rw [if_pos h, cmpI_neg]
    omega
theorem cfF_swo (n : Nat) (ts : List Int) : SWO (ltOf (cfF n ts)) where
  irrefl x := by unfold ltOf cfF; rw [decide_eq_false_iff_not, cfT_neg]; omega
  trans x y z h1 h2 := by unfold ltOf cfF at *; rw [decide_eq_true_eq, cfT_neg] at *; omega
  ntrans x y z h1 h2 := by unfold ltOf cfF at *; rw [decide_eq_false_iff_not, cfT_neg] at *; omega
/-- The cars in the order of their totals, then of their numbers. -/
def ordF (n : Nat) [Inhabited (Fin n)] (ts : List Int) : Array (Fin n) := insertionSort (ltOf (cfF n ts)) (allF n) 0 n
def ordL (n : Nat) (ts : List Int) : List Nat := if h : 0 < n then (@ordF n ⟨⟨0, h⟩⟩ ts).toList.map fun i => i.1 else []
theorem putCells_fin {n : Nat} [Inhabited (Fin n)] (d : Array (Fin n)) (c : Array Value) : putCells (eF n) 0 d c = putCells (Value.int .i64) 0 (d.map fun i => ((i.1 : Nat) : Int)) c := by
  unfold putCells
  refine Array.ext (by simp) fun k h1 h2 => ?_
  simp only [Array.getElem_mapIdx, Array.size_map, Nat.zero_le, true_and, Nat.zero_add, Nat.sub_zero]
  split
  · rename_i hk
    rw [getElem!_pos _ k hk, getElem!_pos _ k (by simpa using hk)]
    simp [eF]
  · rfl
theorem putRow_fin {n : Nat} [Inhabited (Fin n)] (d : Array (Fin n)) (w : World) (blk : Nat) : putRow (eF n) w blk 0 d = putRow (Value.int .i64) w blk 0 (d.map fun i => ((i.1 : Nat) : Int)) := by
  unfold putRow
  congr 1
  funext c
  exact putCells_fin d c
theorem ordF_perm (n : Nat) [Inhabited (Fin n)] (ts : List Int) : (ordF n ts).toList.Perm (allF n).toList ∧ (ordF n ts).size = n ∧ SortedIn (ltOf (cfF n ts)) 0 n (ordF n ts) := by
  have h := insertionSort_holds (lt := ltOf (cfF n ts)) (cfF_swo n ts) (allF n) 0 n (Nat.zero_le _) (by rw [allF_size]; exact Nat.le_refl _)
  obtain ⟨⟨h1, _, h2⟩, h3⟩ := h
  have hs : (ordF n ts).size = n := h1.trans (allF_size n)
  refine ⟨?_, hs, h3⟩
  have e1 : ((insertionSort (ltOf (cfF n ts)) (allF n) 0 n).extract 0 n).toList = (ordF n ts).toList := by
    unfold ordF
    rw [Array.toList_extract]
    rw [List.extract_eq_take_drop, List.drop_zero]
    exact List.take_of_length_le (by rw [Array.length_toList]; exact Nat.le_of_eq hs)
  have e2 : ((allF n).extract 0 n).toList = (allF n).toList := by
    rw [Array.toList_extract]
    rw [List.extract_eq_take_drop, List.drop_zero]
    exact List.take_of_length_le (by rw [Array.length_toList, allF_size]; exact Nat.le_refl _)
  rw [e1, e2] at h2
  exact h2
theorem ordL_len {n : Nat} (hn : 0 < n) (ts : List Int) : (ordL n ts).length = n := by
  unfold ordL
  rw [dif_pos hn, List.length_map, Array.length_toList]
  exact (@ordF_perm n ⟨⟨0, hn⟩⟩ ts).2.1
/-- Every car once. -/
theorem ordL_perm {n : Nat} (hn : 0 < n) (ts : List Int) : (ordL n ts).Perm (List.range n) := by
  unfold ordL
  rw [dif_pos hn]
  have h := (@ordF_perm n ⟨⟨0, hn⟩⟩ ts).1.map fun i => i.1
  have e : (allF n).toList.map (fun i => i.1) = List.range n := by
    unfold allF
    refine List.ext_getElem (by simp) fun i h1 h2 => ?_
    simp
  rw [e] at h
  exact h
theorem ordL_lt {n : Nat} (hn : 0 < n) (ts : List Int) : ∀ x ∈ ordL n ts, x < n := fun _ hx => List.mem_range.1 ((ordL_perm hn ts).mem_iff.1 hx)
/-- In order. -/
theorem ordL_sorted {n : Nat} (hn : 0 < n) (ts : List Int) {i j : Nat} (hij : i < j) (hj : j < n) : ts.getD ((ordL n ts).getD i 0) 0 ≤ ts.getD ((ordL n ts).getD j 0) 0 := by
  letI : Inhabited (Fin n) := ⟨⟨0, hn⟩⟩
  obtain ⟨_, h2, h3⟩ := ordF_perm n ts
  have h4 := h3 i j (Nat.zero_le _) hij hj
  have hi : i < (ordF n ts).size := by omega
  have hj' : j < (ordF n ts).size := by omega
  rw [getElem!_pos _ i hi, getElem!_pos _ j hj'] at h4
  unfold ltOf cfF at h4
  rw [decide_eq_false_iff_not, cfT_neg] at h4
  have ei : (ordL n ts).getD i 0 = ((ordF n ts)[i]'hi).1 := by
    unfold ordL
    rw [dif_pos hn]
    simp [List.getD_eq_getElem?_getD, hi]
  have ej : (ordL n ts).getD j 0 = ((ordF n ts)[j]'hj').1 := by
    unfold ordL
    rw [dif_pos hn]
    simp [List.getD_eq_getElem?_getD, hj']
  rw [ei, ej]
  omega
set_option maxRecDepth 100000 in
set_option maxHeartbeats 8000000 in
theorem sortCars (base blk c n : Nat) (hn : 0 < n) (hn12 : n ≤ 12) (ob fb tb TA wb WA sb SA : Nat) (ts wn : List Int) (sg : List (Nat × Nat)) (w : World) (hO : OW iC 1 3 base w (some ⟨blk, 0, none⟩) n c (rng n)) (hK : RK w blk ob fb tb TA wb WA sb SA n ts wn sg) :
    Calls Tryz.prog 45 #[.slice (some ⟨blk, 0, none⟩) n c, .func (.func 103) #[] #[.pointer (some ⟨ob, 0, none⟩)]] w fun e w' => e = .returned (.tuple #[]) ∧ OW iC 1 3 base w' (some ⟨blk, 0, none⟩) n c ((ordL n ts).map fun (i : Nat) => (i : Int)) ∧ w.grownBy w' (some blk) := by
  letI : Inhabited (Fin n) := ⟨⟨0, hn⟩⟩
  obtain ⟨b, hb, hlt, hbase, _, hcells⟩ := hO.at_ iC_len _ rfl
  obtain rfl : blk = b := by injection hb
  have hblk := hlt
  rcases hO.1.2 with ⟨h3, _⟩ | ⟨g, cap, cur, h3, hbg, hg, hnc, hcm, hcs, htk⟩
  · cases h3
  have e3 : (⟨blk, 0, none⟩ : Addr) = ⟨g, 0, none⟩ ∧ c = cap := by injection h3 with q1 q2 q3; injection q1 with q1; exact ⟨q1, q3⟩
  obtain ⟨e3, rfl⟩ := e3
  obtain rfl : blk = g := by injection e3
  have hH : Holds (eF n) w blk 0 (allF n) := by
    intro j hj
    rw [allF_size] at hj
    refine ⟨?_, by simp [World.frozen?, hg]⟩
    have := hcells j (j : Int) (by rw [List.getElem?_eq_getElem (by rw [rng_len]; exact hj), rng_at]) 0 (.int .i64 (j : Int)) rfl
    rw [getElem!_pos _ j (by rw [allF_size]; exact hj)]
    simpa [allF, eF] using this
  have hcmp : CmpReads Tryz.prog 103 #[.pointer (some ⟨ob, 0, none⟩)] (eF n) (cfF n ts) blk 0 (allF n).size w := by
    intro m os dk hdk x y
    have hk : RK (sortWorld (eF n) w blk 0 m dk os) blk ob fb tb TA wb WA sb SA n ts wn sg := by
      refine hK.keep ?_ ?_
      · unfold sortWorld; simp
      · intro q hq hne
        unfold sortWorld
        rw [heap_grow_old _ _ (by simpa using hq)]
        simp [putRow, mapBlock, Sort.ahead, Array.getElem?_modify, Ne.symm hne]
    exact ord_any _ blk ob fb tb TA wb WA sb SA n ts wn sg hk x.1 y.1 x.2 y.2
  have eg : ∀ args w, (callFunc 103 args).run Tryz.prog w = .ok (.enter 103 args) w := enters_of Tryz.func103 (by kernel_rfl) rfl
  have hlen : ∀ (k : Nat) (W : World), k ≤ 12 → Calls Tryz.prog (srt_sortF_ren.f 15) #[.int .u64 k] W fun e w' => (∃ l : Int, e = .returned (.int .i64 l)) ∧ w' = W :=
    fun k W hk => (srt_bits_Len (k : Int) W (by omega) (by omega)).mono fun _ _ ⟨h1, h2⟩ => ⟨⟨_, h1⟩, h2⟩
  have hcon := Any.slices_SortFunc_small srt_sortF (eF n) (eF_one n) (cfF n ts) 103 #[.pointer (some ⟨ob, 0, none⟩)] blk 0 c (allF n) w eg hcmp hH (by rw [allF_size]; exact hn12) hlen
  rw [allF_size] at hcon
  refine Calls.mono (f := 45) hcon ?_
  rintro e w' ⟨rfl, q, rfl⟩
  have hd : insertionSort (ltOf (cfF n ts)) (allF n) 0 n = ordF n ts := rfl
  rw [hd, putRow_fin]
  have hl : (ordL n ts).map (fun (i : Nat) => (i : Int)) = ((ordF n ts).map fun i => ((i.1 : Nat) : Int)).toList := by
    unfold ordL
    rw [dif_pos hn]
    simp
  have hw : (putRow (Value.int .i64) w blk 0 ((ordF n ts).map fun i => ((i.1 : Nat) : Int))).drewN q = grow (putRow (Value.int .i64) (Sort.ahead w q) blk 0 ((ordL n ts).map fun (i : Nat) => (i : Int)).toArray) #[] := by
    rw [grow_empty, hl]
    rfl
  rw [hw]
  have hll : ((ordL n ts).map fun (i : Nat) => (i : Int)).length = (rng n).length := by rw [List.length_map, ordL_len hn, rng_len]
  have hr := ownsRow_sortedI (w := w) (base := base) (g := blk) (cap := c) (n := q) (e := 3) (os := #[]) (cur := cur) (ss := rng n) (ts := (ordL n ts).map fun (i : Nat) => (i : Int)) hll hbg hg (by rw [rng_len]; exact hnc) hcm hcs
  rw [rng_len] at hr
  refine ⟨rfl, ⟨?_, by rw [List.length_map, ordL_len hn]⟩, grownBy_sortedI _⟩
  have e5 : ((ordL n ts).map fun (i : Nat) => (i : Int)).flatMap iC = ((ordL n ts).map fun (i : Nat) => (i : Int)).map (Value.int .i64) := by
    exact flat_iC _
  rw [e5]
  exact hr
end Go.Proofs.YtafclpmnpamipaaGreat
