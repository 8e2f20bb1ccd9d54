/- The laws of Reg3 for a region inside a loop's round. Plain theorems over any program. -/
import Derived.Test.YtomloklckpcaiaaReg3
namespace Go.Proofs.Ytomloklckpcaiaa
open Go.RowKit Go.Sort

section
variable {P : Program} {ops : Array Oper} {md : Region.Mode} {C : World → Prop} {lp mr : Nat}
theorem wpIn_of_run {o : Oper} {a : Act} {v : Value} {K' : Act → World → Prop} {Q' : Exit → Act → World → Prop} {w w' : World} (hd : ∀ c, o.op ≠ .defer c) (h1 : (execOp a.eval o).run P w = .ok (.value v) w') (h : K' (a.put o.dst v) w') : o.wpIn (Fence.wide.inRound lp) mr P a w K' Q' := by
  refine ⟨fun _ _ => trivial, ?_⟩
  rw [Oper.semAt_eq _ _ _ hd, h1]
  exact h
theorem wpIn_of_q {o : Oper} {a : Act} {v : Value} {K' : Act → World → Prop} {Q' : Exit → Act → World → Prop} {w : World} (hd : ∀ c, o.op ≠ .defer c) (h1 : qAt P o a w v) (h : K' (a.put o.dst v) w) : o.wpIn (Fence.wide.inRound lp) mr P a w K' Q' := by
  refine ⟨fun _ _ => trivial, ?_⟩
  rw [Oper.semAt_eq _ _ _ hd]
  unfold qAt at h1
  generalize (execOp a.eval o).run P w = r at *
  cases r with
  | ok n w' =>
    cases n <;> simp only [qUpon] at h1 <;> simp only [Oper.uponIn]
    · rw [h1.1, h1.2]; exact h
    · rw [h1.1, ← h1.2]; exact h
  | halt x w' => simp only [qUpon] at h1
theorem wpIn_of_call {o : Oper} {a : Act} {R : Value → World → Prop} {K' : Act → World → Prop} {Q' : Exit → Act → World → Prop} {w : World} (hd : ∀ c, o.op ≠ .defer c) (h1 : callAt P o a w R) (h : ∀ v w', R v w' → K' (a.put o.dst v) w') : o.wpIn (Fence.wide.inRound lp) mr P a w K' Q' := by
  refine ⟨fun _ _ => trivial, ?_⟩
  rw [Oper.semAt_eq _ _ _ hd]
  unfold callAt at h1
  generalize (execOp a.eval o).run P w = r at *
  cases r with
  | ok n w' =>
    cases n <;> simp only [cUpon] at h1 <;> simp only [Oper.uponIn]
    case value => exact h _ _ h1
    case enter f args =>
      obtain ⟨e1, hc⟩ := h1
      rw [e1]
      refine ⟨(fun q => by cases q), CallsIn.inRound lp (callsIn_wide.2 (hc.mono ?_))⟩
      rintro e w'' ⟨v, he, hr⟩
      subst he
      exact h _ _ hr
  | halt x w' => simp only [cUpon] at h1
theorem wpAnyIn_of_cHead {m g B : Nat} {fs : List FS} {ks : List Nat} {L : Array Bool → Act → Fact → Prop} {Q' : Exit → Act → World → Prop} (hm : m < ops.size) (hsel : ∀ (j : Nat) (o : Oper) cs b, ops[j]? = some o → o.op ≠ .select cs b)
    (hfl : ∀ f ∈ fs, Floats P ops m f) (hCl : ∀ w w', C w → Below w.heap.size w w' → C w') (hCB : ∀ w, C w → B ≤ w.heap.size)
    (hdf : ∀ (j : Nat) (o : Oper) c, ops[j]? = some o → o.op ≠ .defer c) (hL : ∀ listed a ac w Φ, HeadInv md ops m listed → C w → Φ w → L listed a Φ → tRelS fs B listed a ac w → wpAnyIn (Fence.wide.inRound lp) mr P md ops Q' g listed ac w) :
    ∀ (f : Nat) (listed : Array Bool) (a ac : Act) (w : World) (Φ : Fact), HeadInv md ops m listed → C w → stable Φ → Φ w → tRelS fs B listed a ac w → cHead P md ops C (fs.map (·.n)) m ks L f listed a Φ → wpAnyIn (Fence.wide.inRound lp) mr P md ops Q' (f + g) listed ac w := by
  intro f
  induction f with
  | zero => intro listed a ac w Φ inv hw hst hp hr h; rw [Nat.zero_add]; exact hL _ _ _ _ _ inv hw hp h hr
  | succ f ih =>
    intro listed a ac w Φ inv hw hst hp hr h
    rw [show f + 1 + g = (f + g) + 1 by omega]
    refine ⟨fun h0 => absurd h0 h.1, fun i hi => ?_⟩
    obtain ⟨him, h1⟩ := h.2 i hi
    have hun := (mem_ready.1 hi).1
    obtain ⟨bs, ⟨hbs, hnd1, hnd2⟩, hlst, hall, rfl⟩ := hr
    by_cases hin : i ∈ fs.map (·.n)
    · unfold cOp at h1
      rw [if_pos hin] at h1
      obtain ⟨F, hF, rfl⟩ := List.mem_map.1 hin
      obtain ⟨_, oa, ho, hd, hgd, hrun, _⟩ := hfl F hF
      unfold wpOpIn
      simp only [ho]
      rw [if_pos (by simp [Region.wanted, hgd])]
      refine wpIn_of_run (fun c => hdf _ _ c ho) (hrun _ _) ?_
      show wpAnyIn (Fence.wide.inRound lp) mr P md ops Q' (f + g) (listed.setIfInBounds F.n true) ((puts bs a).put oa.dst (.pointer (some ⟨w.heap.size, 0, none⟩))) (w.alloc (.cells F.zs F.t))
      rw [hd]
      have hba : Below w.heap.size w (w.alloc (.cells F.zs F.t)) := (Below.refl _ _).alloc (Nat.le_refl _) _
      refine ih _ a _ _ Φ (inv.set hi him) (hCl _ _ hw hba) hst (hst _ _ hp hba) ⟨(F, w.heap.size) :: bs, ⟨fun p hp' => ?_, ?_, ?_⟩, fun p hp' => ?_, fun f' hf' hl' => ?_, rfl⟩ h1
      · rcases List.mem_cons.1 hp' with rfl | hp'
        · exact ⟨hF, hCB _ hw, BK.new w _ _⟩
        · obtain ⟨q1, q2, q3⟩ := hbs p hp'
          exact ⟨q1, q2, q3.alloc _⟩
      · rw [List.map_cons]
        refine List.nodup_cons.2 ⟨fun hmem => ?_, hnd1⟩
        obtain ⟨p, hp', hpe⟩ := List.mem_map.1 hmem
        have := hlst p hp'
        rw [hpe, getD_both hun] at this
        cases this
      · rw [List.map_cons]
        refine List.nodup_cons.2 ⟨fun hmem => ?_, hnd2⟩
        obtain ⟨p, hp', hpe⟩ := List.mem_map.1 hmem
        have := (hbs p hp').2.2.lt
        simp only at hpe
        omega
      · rcases List.mem_cons.1 hp' with rfl | hp'
        · simp [inv.size]; omega
        · exact getD_set_true (hlst p hp')
      · rw [List.map_cons]
        by_cases he : F.n = f'.n
        · rw [he]; exact List.mem_cons_self ..
        · rw [getD_set_ne false he] at hl'
          exact List.mem_cons_of_mem _ (hall f' hf' hl')
    · have key : ∀ a' w' Φ', C w' → stable Φ' → Φ' w' → Below w.heap.size w w' → cHead P md ops C (fs.map (·.n)) m ks L f (listed.setIfInBounds i true) a' Φ' → wpAnyIn (Fence.wide.inRound lp) mr P md ops Q' (f + g) (listed.setIfInBounds i true) (puts bs a') w' := by
        intro a' w' Φ' hw' hst' hp' hb h2
        refine ih _ a' _ w' Φ' (inv.set hi him) hw' hst' hp' ⟨bs, ⟨fun p hp => ?_, hnd1, hnd2⟩, fun p hp => getD_set_true (hlst p hp), fun f' hf' hl' => ?_, rfl⟩ h2
        · obtain ⟨q1, q2, q3⟩ := hbs p hp
          exact ⟨q1, q2, q3.below hb q3.lt⟩
        · rw [getD_set_ne false (fun e : i = f'.n => hin (List.mem_map.2 ⟨f', hf', e.symm⟩))] at hl'
          exact hall f' hf' hl'
      unfold cOp at h1
      rw [if_neg hin] at h1
      unfold wpOpIn
      cases ho : ops[i]? with
      | none =>
        simp only [ho] at h1 ⊢
        exact key a w Φ hw hst hp (Below.refl _ _) h1
      | some o =>
        simp only [ho] at h1 ⊢
        have hapart : ∀ p ∈ bs, p.1.d ∉ o.looksAt ops ∧ o.dst ≠ some p.1.d := fun p hp => by
          obtain ⟨q1, _, _⟩ := hbs p hp
          obtain ⟨_, oa, _, hd, _, _, hap⟩ := hfl p.1 q1
          obtain ⟨p1, p2, _⟩ := Oper.apart_spec (hap i o ho him (fun e => hin (List.mem_map.2 ⟨p.1, q1, e.symm⟩)))
          exact ⟨p1 _ hd, p2 _ hd⟩
        have hpe : execOp (puts bs a).eval o = execOp a.eval o := puts_exec (fun cs q => hsel i o cs q ho) bs a (fun p hp => (hapart p hp).1)
        have hpw : Region.wanted o (yielded ops (puts bs a).tmps) = Region.wanted o (yielded ops a.tmps) := puts_wanted bs a (fun p hp => (hapart p hp).1)
        have hpp : ∀ v, puts bs (a.put o.dst v) = (puts bs a).put o.dst v := fun v => puts_put bs a (fun p hp => (hapart p hp).2)
        rw [hpw]
        by_cases hw' : Region.wanted o (yielded ops a.tmps) = true
        · rw [if_pos hw'] at h1 ⊢
          by_cases hik : i ∈ ks
          · rw [if_pos hik] at h1
            have h2 := h1 w hw hp
            unfold callAt at h2
            rw [← hpe] at h2
            refine wpIn_of_call (P := P) (o := o) (a := puts bs a) (fun c => hdf _ _ c ho) h2 (fun v w' ⟨q1, Φ', q2, q3, q4, q5⟩ => ?_)
            rw [← hpp v]
            exact key _ w' Φ' (hCl _ _ hw q1) q2 q4 q1 q5
          · rw [if_neg hik] at h1
            obtain ⟨v, h2, h3⟩ := h1
            have h4 := h2 w hw
            unfold qAt at h4
            rw [← hpe] at h4
            refine wpIn_of_q (P := P) (o := o) (a := puts bs a) (fun c => hdf _ _ c ho) h4 ?_
            rw [← hpp v]
            exact key _ w Φ hw hst hp (Below.refl _ _) h3
        · rw [if_neg hw'] at h1 ⊢
          rw [← hpp undef]
          exact ⟨fun _ _ => trivial, key _ w Φ hw hst hp (Below.refl _ _) h1⟩
theorem wpIn_region_ch0 {id : Nat} {Q : Exit → Act → World → Prop} {a : Act} {w : World} {l : List Oper} (m : Nat) (fs : List FS) (ks : List Nat) (hm : P.follows .mixedOrders = true)
    (hB : (okB .any l.toArray m ks && noDefer l.toArray) = true) (hfl : ∀ f ∈ fs, Floats P l.toArray m f)
    (h : wpC P l.toArray (fun w' => ∃ p : Regrown, w' = grow (redrawn w p.d) p.os) (fs.map (·.n)) ks (fun a' Φ => ∀ w', Below w.heap.size w w' → Φ w' → ∀ bs, made fs w.heap.size w' bs → (∀ f ∈ fs, f.n ∈ bs.map (·.1.n)) → wpListIn (Fence.wide.inRound lp) mr P l.toArray Q (l.drop m) (puts bs a') w') 0 (l.take m) a (fun _ => True)) :
    (Code.region id l.toArray true).wpIn (Fence.wide.inRound lp) mr P Q a w := by
  simp only [okB, Region.lexTailB, Bool.and_eq_true, decide_eq_true_eq] at hB
  obtain ⟨⟨⟨⟨⟨⟨hsel, hn⟩, hs⟩, hc⟩, hlex⟩, hch, hin⟩, hndf⟩ := hB
  have hn' : m < l.length := by simpa using hn
  have htl : (l.take m).length = m := by simp; omega
  have hdl : (l.drop m).length = l.toArray.size - m := by simp
  have hCl : ∀ w1 w2 : World, (∃ p : Regrown, w1 = grow (redrawn w p.d) p.os) → Below w1.heap.size w1 w2 → ∃ p : Regrown, w2 = grow (redrawn w p.d) p.os :=
    fun w1 w2 ⟨p, hp⟩ hb => by subst hp; exact regrown_of_below ((below_regrown w p.d p.os).trans (hb.mono (below_regrown w p.d p.os).size))
  have inv0 : HeadInv .any l.toArray m (Array.replicate l.toArray.size false) :=
    ⟨by simp, fun j oj _ hl => (by rw [getD_replicate_false] at hl; cases hl), fun t _ ht => getD_in (by simpa using ht) (getD_replicate_false _ _)⟩
  have H := cHead_lex (md := .any) (g := l.toArray.size - m) hCl hsel hs hc hn hch (incr_nodup ks hin) (incr_sort ks hin) (l.take m) 0 _ a (fun _ => True) (fun j hj => by
    have hj' : j < m := by rw [htl] at hj; exact hj
    simp [hj']) (by simpa using htl) inv0 (fun _ _ _ _ => trivial) ⟨w, ⟨⟨w.drawn, #[]⟩, by rw [grow_empty]; rfl⟩, trivial⟩ (fun j hj => by omega) (by rw [htl]; exact hlex) h
  refine wpIn_region_any hm ?_
  have := wpAnyIn_of_cHead (Q' := Q) (g := l.toArray.size - m) (B := w.heap.size) hn (lp := lp) (mr := mr) (Region.noSelect_spec hsel) hfl hCl
    (fun w1 ⟨p, hp⟩ => by subst hp; exact (below_regrown w p.d p.os).size)
    (noDefer_spec hndf) (fun listed a' ac w' Φ inv hw' hp hL hr => by
      obtain ⟨hL1, hL2⟩ := hL
      obtain ⟨p, hp'⟩ := hw'
      obtain ⟨bs, hmade, _, hall, rfl⟩ := hr
      have hin : ∀ f ∈ fs, f.n ∈ bs.map (·.1.n) := fun f hf => by
        cases e : listed.getD f.n false with
        | true => exact hall f hf e
        | false =>
          exfalso
          have hnm := (hfl f hf).1
          have hun : listed.getD f.n true = false := getD_in (by have := inv.size; omega) e
          have hB1 := hL1
          have hsz : l.toArray.size - m = (l.toArray.size - (m + 1)) + 1 := by omega
          rw [hsz] at hB1
          simp only [Region.seqB, Bool.and_eq_true, decide_eq_true_eq] at hB1
          exact tail_waits hs hc hn inv _ f.n rfl hnm hun m (Nat.le_refl _) (by rw [hB1.1]; simp)
      have := wpAnyIn_of_seq (md := .any) (Q' := Q) (l.drop m) m listed (puts bs a') w' (fun j => by simp [List.getElem?_drop]) (by rw [hdl]; exact hL1) (hL2 w' (by rw [hp']; exact below_regrown w p.d p.os) hp bs hmade hin)
      rwa [hdl] at this) _ _ _ _ _ (fun _ => True) inv0 ⟨⟨w.drawn + 1, #[]⟩, by rw [grow_empty]⟩ (fun _ _ _ _ => trivial) trivial ⟨[], ⟨fun p hp => (by cases hp), List.nodup_nil, List.nodup_nil⟩, fun p hp => (by cases hp), fun f _ hl => (by rw [getD_replicate_false] at hl; cases hl), rfl⟩ H
  rw [htl, show m + (l.toArray.size - m) = l.toArray.size by omega] at this
  exact this
/-- The law: m operations (those of ks calls), then a tail in order. -/
theorem wpIn_region_ch {id : Nat} {Q : Exit → Act → World → Prop} {a : Act} {w : World} {l : List Oper} (m : Nat) (ks : List Nat) (hm : P.follows .mixedOrders = true) (hB : (okB .any l.toArray m ks && noDefer l.toArray) = true)
    (h : wpC P l.toArray (fun w' => ∃ p : Regrown, w' = grow (redrawn w p.d) p.os) [] ks (fun a' Φ => ∀ w', Below w.heap.size w w' → Φ w' → wpListIn (Fence.wide.inRound lp) mr P l.toArray Q (l.drop m) a' w') 0 (l.take m) a (fun _ => True)) :
    (Code.region id l.toArray true).wpIn (Fence.wide.inRound lp) mr P Q a w := by
  refine wpIn_region_ch0 m [] ks hm hB (fun f hf => (by cases hf)) ?_
  refine wpC_end (fun a' Φ h w' h1 h2 bs h3 _ => ?_) _ _ _ _ h
  have : bs = [] := by
    cases bs with
    | nil => rfl
    | cons p bs => exact absurd (h3.1 p (List.mem_cons_self ..)).1 (by simp)
  subst this
  exact h w' h1 h2
/-- The law, with one block made at n. -/
theorem wpIn_region_cha {id : Nat} {Q : Exit → Act → World → Prop} {a : Act} {w : World} {l : List Oper} (m n : Nat) (ks : List Nat) (t : TypeId) (zs : Array Value) (d : Tmp) (oa : Oper) (hm : P.follows .mixedOrders = true) (hnm : n < m)
    (hoa : l.toArray[n]? = some oa) (hda : oa.dst = some d) (hga : oa.guard = none) (hrun : ∀ (a : Act) (w : World), (execOp a.eval oa).run P w = .ok (.value (.pointer (some ⟨w.heap.size, 0, none⟩))) (w.alloc (.cells zs t)))
    (hB : ((okB .any l.toArray m ks && noDefer l.toArray) && floatB l.toArray m n oa) = true)
    (h : wpC P l.toArray (fun w' => ∃ p : Regrown, w' = grow (redrawn w p.d) p.os) [n] ks (fun a' Φ => ∀ b w', Below w.heap.size w w' → Φ w' → w.heap.size ≤ b → BK w' b t zs → wpListIn (Fence.wide.inRound lp) mr P l.toArray Q (l.drop m) (a'.put (some d) (.pointer (some ⟨b, 0, none⟩))) w') 0 (l.take m) a (fun _ => True)) :
    (Code.region id l.toArray true).wpIn (Fence.wide.inRound lp) mr P Q a w := by
  rw [Bool.and_eq_true] at hB
  refine wpIn_region_ch0 m [⟨n, d, t, zs⟩] ks hm hB.1 (fun f hf => ?_) ?_
  · simp only [List.mem_singleton] at hf
    subst hf
    exact ⟨hnm, oa, hoa, hda, hga, hrun, floatB_spec hB.2⟩
  · refine wpC_end (fun a' Φ h w' h1 h2 bs h3 h4 => ?_) _ _ _ _ h
    obtain ⟨h5, h6, h7⟩ := h3
    match bs, h4, h5, h6, h7 with
    | [], h4, _, _, _ => exact absurd (h4 _ (List.mem_cons_self ..)) (by simp)
    | [(f, b)], _, h5, _, _ =>
      obtain ⟨q1, q2, q3⟩ := h5 _ (List.mem_cons_self ..)
      simp only [List.mem_singleton] at q1
      subst q1
      exact h b w' h1 h2 q2 q3
    | p :: q :: bs, _, h5, h6, _ =>
      exfalso
      have e1 := (h5 p (by simp)).1
      have e2 := (h5 q (by simp)).1
      simp only [List.mem_singleton] at e1 e2
      simp [e1, e2] at h6
/-- The law, with two blocks made at n1 and n2. -/
theorem wpIn_region_chaa {id : Nat} {Q : Exit → Act → World → Prop} {a : Act} {w : World} {l : List Oper} (m n1 n2 : Nat) (ks : List Nat) (t1 t2 : TypeId) (zs1 zs2 : Array Value) (d1 d2 : Tmp) (oa1 oa2 : Oper) (hm : P.follows .mixedOrders = true) (hn1 : n1 < m) (hn2 : n2 < m) (hne : n1 ≠ n2) (hd : d1 ≠ d2)
    (hoa1 : l.toArray[n1]? = some oa1) (hda1 : oa1.dst = some d1) (hga1 : oa1.guard = none) (hrun1 : ∀ (a : Act) (w : World), (execOp a.eval oa1).run P w = .ok (.value (.pointer (some ⟨w.heap.size, 0, none⟩))) (w.alloc (.cells zs1 t1)))
    (hoa2 : l.toArray[n2]? = some oa2) (hda2 : oa2.dst = some d2) (hga2 : oa2.guard = none) (hrun2 : ∀ (a : Act) (w : World), (execOp a.eval oa2).run P w = .ok (.value (.pointer (some ⟨w.heap.size, 0, none⟩))) (w.alloc (.cells zs2 t2)))
    (hB : ((okB .any l.toArray m ks && noDefer l.toArray) && (floatB l.toArray m n1 oa1 && floatB l.toArray m n2 oa2)) = true)
    (h : wpC P l.toArray (fun w' => ∃ p : Regrown, w' = grow (redrawn w p.d) p.os) [n1, n2] ks (fun a' Φ => ∀ b1 b2 w', Below w.heap.size w w' → Φ w' → w.heap.size ≤ b1 → w.heap.size ≤ b2 → b1 ≠ b2 → BK w' b1 t1 zs1 → BK w' b2 t2 zs2 →
      wpListIn (Fence.wide.inRound lp) mr P l.toArray Q (l.drop m) ((a'.put (some d1) (.pointer (some ⟨b1, 0, none⟩))).put (some d2) (.pointer (some ⟨b2, 0, none⟩))) w') 0 (l.take m) a (fun _ => True)) :
    (Code.region id l.toArray true).wpIn (Fence.wide.inRound lp) mr P Q a w := by
  rw [Bool.and_eq_true] at hB
  refine wpIn_region_ch0 m [⟨n1, d1, t1, zs1⟩, ⟨n2, d2, t2, zs2⟩] ks hm hB.1 (fun f hf => ?_) ?_
  · simp only [List.mem_cons, List.not_mem_nil, or_false] at hf
    rcases hf with rfl | rfl
    · exact ⟨hn1, oa1, hoa1, hda1, hga1, hrun1, floatB_spec (Bool.and_eq_true_iff.1 hB.2).1⟩
    · exact ⟨hn2, oa2, hoa2, hda2, hga2, hrun2, floatB_spec (Bool.and_eq_true_iff.1 hB.2).2⟩
  · refine wpC_end (fun a' Φ h w' h1 h2 bs h3 h4 => ?_) _ _ _ _ h
    obtain ⟨h5, h6, h7⟩ := h3
    match bs, h4, h5, h6, h7 with
    | [], h4, _, _, _ => exact absurd (h4 _ (List.mem_cons_self ..)) (by simp)
    | [p], h4, _, _, _ =>
      exfalso
      have e1 := h4 ⟨n1, d1, t1, zs1⟩ (by simp)
      have e2 := h4 ⟨n2, d2, t2, zs2⟩ (by simp)
      simp only [List.map_cons, List.map_nil, List.mem_singleton] at e1 e2
      exact hne (e1.trans e2.symm)
    | [(f, b), (f', b')], _, h5, h6, h7 =>
      obtain ⟨q1, q2, q3⟩ := h5 (f, b) (by simp)
      obtain ⟨r1, r2, r3⟩ := h5 (f', b') (by simp)
      simp only [List.mem_cons, List.not_mem_nil, or_false] at q1 r1
      simp only [List.map_cons, List.map_nil, List.nodup_cons, List.mem_singleton] at h6 h7
      rcases q1 with rfl | rfl <;> rcases r1 with rfl | rfl
      · exact absurd rfl h6.1
      · have := h b b' w' h1 h2 q2 r2 h7.1 q3 r3
        show wpListIn (Fence.wide.inRound lp) mr P l.toArray Q (l.drop m) ((a'.put (some d2) _).put (some d1) _) w'
        rw [Act.put_comm a' _ _ (fun d hd' e => by cases hd'; cases e; exact hd rfl)]
        exact this
      · exact h b' b w' h1 h2 r2 q2 (fun e => h7.1 e.symm) r3 q3
      · exact absurd rfl h6.1
    | p :: q :: r :: bs, _, h5, h6, _ =>
      exfalso
      have e1 := (h5 p (by simp)).1
      have e2 := (h5 q (by simp)).1
      have e3 := (h5 r (by simp)).1
      simp only [List.mem_cons, List.not_mem_nil, or_false] at e1 e2 e3
      rcases e1 with e1 | e1 <;> rcases e2 with e2 | e2 <;> rcases e3 with e3 | e3 <;> simp [e1, e2, e3] at h6
end
/-! ### Under the wide fence, outside a round -/
section
variable {P : Program} {ops : Array Oper} {md : Region.Mode} {C : World → Prop} {m : Nat}
theorem wpWIn_of_quiet {o : Oper} {a : Act} {K : Act → Prop} {K' : Act → World → Prop} {Q' : Exit → Act → World → Prop} {w : World} (hd : ∀ c, o.op ≠ .defer c) (hw : C w) (h : ∀ a w', C w' → K a → K' a w') (hh : o.quiet P a C K) :
    o.wpIn Fence.wide m P a w K' Q' := by
  obtain ⟨v, h1, h2⟩ := hh
  have h3 := h1 w hw
  unfold Oper.quietAt at h3
  refine ⟨fun _ _ => trivial, ?_⟩
  rw [Oper.semAt_eq _ _ _ hd]
  generalize (execOp a.eval o).run P w = r at *
  cases r with
  | ok n w' =>
    cases n <;> simp only [Oper.quietUpon] at h3 <;> simp only [Oper.uponIn]
    case value u =>
      obtain ⟨e1, e2⟩ := h3
      rw [e1, e2]
      exact h _ _ hw h2
    case skip =>
      obtain ⟨e1, e2⟩ := h3
      rw [e1, ← e2]
      exact h _ _ hw h2
    case enter f args =>
      obtain ⟨e1, hc⟩ := h3
      rw [e1]
      refine ⟨(fun q => by cases q), callsIn_wide.2 (hc.mono ?_)⟩
      rintro e w'' ⟨he, hw''⟩
      subst he
      exact h _ _ hw'' h2
  | halt x w' => simp only [Oper.quietUpon] at h3
theorem wpWOpIn_of_qOp {i : Nat} {a : Act} {K : Act → Prop} {K' : Act → World → Prop} {Q' : Exit → Act → World → Prop} {w : World} (hd : ∀ (j : Nat) (o : Oper) c, ops[j]? = some o → o.op ≠ .defer c) (hC : C w) (h : ∀ a w', C w' → K a → K' a w') (hh : qOp P ops C i K a) :
    wpOpIn Fence.wide m P ops Q' i K' a w := by
  unfold qOp at hh
  unfold wpOpIn
  split
  · rename_i ho; simp only [ho] at hh; exact h _ _ hC hh
  · rename_i o ho
    simp only [ho] at hh
    split
    · rename_i hw; simp only [hw, if_true] at hh; exact wpWIn_of_quiet (fun c => hd i o c ho) hC h hh
    · rename_i hw; simp only [hw] at hh; exact ⟨fun _ _ => trivial, h _ _ hC hh⟩
theorem wpWAnyIn_of_anyHead {n g : Nat} {L : Array Bool → Act → Prop} {Q' : Exit → Act → World → Prop} (hd : ∀ (j : Nat) (o : Oper) c, ops[j]? = some o → o.op ≠ .defer c) (hL : ∀ listed a w, C w → L listed a → wpAnyIn Fence.wide m P md ops Q' g listed a w) :
    ∀ (f : Nat) (listed : Array Bool) (a : Act) (w : World), C w → anyHead P md ops C n L f listed a → wpAnyIn Fence.wide m P md ops Q' (f + g) listed a w
  | 0, listed, a, w, hw, h => by rw [Nat.zero_add]; exact hL _ _ _ hw h
  | f + 1, listed, a, w, hw, h => by
    rw [show f + 1 + g = (f + g) + 1 by omega]
    exact ⟨fun h0 => absurd h0 h.1, fun i hi => wpWOpIn_of_qOp hd hw (fun a' w' hw' h' => wpWAnyIn_of_anyHead hd hL f _ a' w' hw' h') (h.2 i hi).2⟩
theorem wpWIn_region_quiet_tail {id : Nat} {Q : Exit → Act → World → Prop} {a : Act} {w : World} {l : List Oper} (n : Nat) (hm : P.follows .mixedOrders = true) (hB : (Region.lexTailB .any l.toArray n && noDefer l.toArray) = true) (hC : C { w with drawn := w.drawn + 1 })
    (h : wpQuiet P l.toArray C (fun a' => ∀ w', C w' → wpListIn Fence.wide m P l.toArray Q (l.drop n) a' w') (l.take n) a) : (Code.region id l.toArray true).wpIn Fence.wide m P Q a w := by
  simp only [Region.lexTailB, Bool.and_eq_true, decide_eq_true_eq] at hB
  obtain ⟨⟨⟨⟨⟨hsel, hn⟩, hs⟩, hc⟩, hlex⟩, hnd⟩ := hB
  have hn' : n < l.length := by simpa using hn
  have htl : (l.take n).length = n := by simp; omega
  have hdl : (l.drop n).length = l.toArray.size - n := by simp
  have inv0 : HeadInv .any l.toArray n (Array.replicate l.toArray.size false) :=
    ⟨by simp, fun j oj _ hl => (by rw [getD_replicate_false] at hl; cases hl), fun t _ ht => getD_in (by simpa using ht) (getD_replicate_false _ _)⟩
  have H := anyHead_lex (md := .any) (g := l.toArray.size - n) hsel hs hc hn (l.take n) 0 _ a (fun j hj => by
    have hj' : j < n := by rw [htl] at hj; exact hj
    simp [hj']) (by simpa using htl) inv0 (by rw [htl]; exact hlex) h
  refine wpIn_region_any hm ?_
  have := wpWAnyIn_of_anyHead (Q' := Q) (g := l.toArray.size - n) (m := m) (noDefer_spec hnd) (fun listed a' w' hw' hL => by
    have := wpAnyIn_of_seq (md := .any) (Q' := Q) (l.drop n) n listed a' w' (fun j => by simp [List.getElem?_drop]) (by rw [hdl]; exact hL.1) (hL.2 w' hw')
    rwa [hdl] at this) _ _ _ _ hC H
  rw [htl, show n + (l.toArray.size - n) = l.toArray.size by omega] at this
  exact this
theorem wpWIn_region_qt {id : Nat} {Q : Exit → Act → World → Prop} {a : Act} {w : World} {l : List Oper} (n : Nat) (hm : P.follows .mixedOrders = true) (hB : (Region.lexTailB .any l.toArray n && noDefer l.toArray) = true)
    (h : wpQuiet P l.toArray (fun w' => ∃ p : Regrown, w' = grow (redrawn w p.d) p.os) (fun a' => ∀ w', Below w.heap.size w w' → wpListIn Fence.wide m P l.toArray Q (l.drop n) a' w') (l.take n) a) :
    (Code.region id l.toArray true).wpIn Fence.wide m P Q a w :=
  wpWIn_region_quiet_tail (C := fun w' => ∃ p : Regrown, w' = grow (redrawn w p.d) p.os) n hm hB ⟨⟨w.drawn + 1, #[]⟩, by rw [grow_empty]; rfl⟩ (wpQuiet_mono (fun a' h w' ⟨p, hp⟩ => h w' (by rw [hp]; exact below_regrown w p.d p.os)) h)
end
theorem grownBy_of_below {w w' : World} (h : Below w.heap.size w w') : w.grownBy w' none := ⟨h.os, h.tape, h.output, h.size, fun i hi _ => h.block i hi⟩
end Go.Proofs.Ytomloklckpcaiaa
