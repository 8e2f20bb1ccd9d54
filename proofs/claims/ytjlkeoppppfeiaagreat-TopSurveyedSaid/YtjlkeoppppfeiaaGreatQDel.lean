/- Lemmas. -/
import Derived.Test.YtjlkeoppppfeiaaGreatQStab
import Derived.Deep.RegionLaw
import Derived.Deep.Upon
import Derived.Shelf.RegionOpenPlain
import Derived.Lib.SliceRun
namespace Go.Proofs.YtjlkeoppppfeiaaGreat
open Go.RowKit Go.Shelf Go.Sort Go.Proofs
def sets:Array Value→Nat→List Value→Array Value
 |cs,_,[]=>cs
 |cs,o,v::r=>sets (cs.setIfInBounds o v) (o+1) r
theorem jS:∀(vs:List Value) (cs:Array Value) (o:Nat),(sets cs o vs).size=cs.size
 | [],_,_=>rfl
 |v::r,cs,o=>by rw[sets,jS r];simp
theorem mL:∀(vs:List Value) (cs:Array Value) (o:Nat),o+vs.length≤cs.size→(sets cs o vs).toList=cs.toList.take o++(vs++cs.toList.drop (o+vs.length))
 | [],cs,o,_=>by simp[sets]
 |v::r,cs,o,h=>by
  rw[List.length_cons]at h;rw[sets,mL r _ (o+1) (by simp;omega),Array.toList_setIfInBounds,List.take_set,List.drop_set]
  have ho:o<cs.toList.length:=by simp;omega
  rw[if_pos (by omega),List.take_succ_eq_append_getElem ho,List.set_append_right _ _ (by simp;omega)]
  rw[show o-(cs.toList.take o).length=0 by simp;omega]
  simp only[List.set_cons_zero,List.append_assoc,List.cons_append,List.nil_append];rw[List.length_cons,show o+1+r.length=o+(r.length+1) by omega]
theorem BK.sets {g:Nat} {t:TypeId}:∀(vs:List Value) {w:World} {cs:Array Value} (_:BK w g t cs) (o:Nat),BK (w.setCells g o vs) g t (Go.Proofs.YtjlkeoppppfeiaaGreat.sets cs o vs)
 | [],_,_,h,_=>h
 |v::r,_,_,h,o=>BK.sets r (h.set_ o v) (o+1)
theorem j9 {P:Program} (w:World) (t e ty:TypeId) (z:Value) (ht:P.underlying t=some (.slice e)) (hv:∀w,(zeroValue e).run P w = .ok z w) (zs:List Value) (hz:z.cells.toList=zs) (h1:∀u∈zs,u.oneCell'=true) (b o c:Nat)
  (hc:∀j,j<zs.length→(w.cell? ⟨b,o+j,none⟩).isSome=true) (hf:∀j,j<zs.length→w.frozen? ⟨b,o+j,none⟩=false) :
  (Builtin.clear_ #[t] ty #[.slice (some ⟨b,o,none⟩) 1 c]).run P w = .ok (.tuple #[]) (w.setCells b o zs):=by
 have hzs:z.cells.size=zs.length:=by rw[←hz];simp
 have hzc:(Builtin.zeroCells z.cells 1).toList=zs:=by
  apply List.ext_getElem?
  intro i;rw[←hz];simp only[Builtin.zeroCells,Array.getElem?_toList,Nat.one_mul]
  rcases Nat.lt_or_ge i z.cells.size with hlt|hge
  ·simp[hlt,Nat.mod_eq_of_lt hlt]
  ·simp[Nat.not_lt.2 hge]
 have hst:=run_storeCells_cells (P:=P) b o zs 0 w (by simpa using hc) (by simpa using hf) h1
 simp only[Nat.add_zero]at hst;simp[Builtin.clear_,run_underlying ht,hv,hzc,hst]
theorem OW.dele {α:Type} {f:α→List Value} {sz:Nat} {e:TypeId} {base:Nat} {w:World} {b n c i:Nat} {A B:List α} {x:α} (h:OW f sz e base w (some ⟨b,0,none⟩) n c (A++x::B)) (hf:∀x,(f x).length=sz) (hi:A.length=i) (zs:List Value) (hz:zs.length=sz) :
  OW f sz e base ((w.setCells b (i*sz) (B.flatMap f)).setCells b ((n-1)*sz) zs) (some ⟨b,0,none⟩) (n-1) c (A++B):=by
 have hn:n=i+1+B.length:=by rw[h.2];simp;omega
 have hlb:=cE hf B;have hla:(A.flatMap f).length=i*sz:=by rw[cE hf A,hi]
 rcases h.1.2 with⟨h3,_⟩|⟨g,cap,cur,h3,hb,hg,hn',hc,hs,ht⟩
 ·cases h3
 ·injection h3 with h3 h4 h5
  injection h3 with h3
  injection h3 with h3
  subst h3 h5;have hn1:n*sz=i*sz+sz+B.length*sz:=by rw[hn,Nat.add_mul,Nat.add_mul,Nat.one_mul]
  have hcs:n*sz≤cur.size:=by rw[hs];exact Nat.mul_le_mul_right _ hn'
  have hn2:(n-1)*sz=i*sz+B.length*sz:=by rw[hn,show i+1+B.length-1=i+B.length by omega,Nat.add_mul]
  have k1:BK w b e cur:=hg;have k2:=BK.sets zs (BK.sets (B.flatMap f) k1 (i*sz)) ((n-1)*sz);have hsz2:(sets cur (i*sz) (B.flatMap f)).size=cur.size:=jS _ _ _;have hta:cur.toList.take (i*sz)=A.flatMap f:=by
   have:=congrArg (List.take (i*sz)) ht;rw[List.take_take,Nat.min_eq_left (by omega),List.flatMap_append,List.take_left' hla]at this
   exact this
  refine⟨⟨by rw[List.flatMap_append,List.length_append,hla,hlb,hn2],.inr ⟨b,c,_,rfl,hb,k2,by omega,hc,by rw[jS,jS,hs],?_⟩⟩,by rw[hn];simp;omega⟩
  rw[mL _ _ _ (by rw[hsz2,hz];omega),List.take_left' (by rw[List.length_take,Array.length_toList,hsz2];omega),mL _ _ _ (by rw[hlb];omega),hta,hn2,List.flatMap_append,←List.append_assoc]
  exact List.take_left' (by rw[List.length_append,hla,hlb])
theorem gG {a:World} {g:Nat}:∀(vs:List Value) {w:World} (o:Nat),a.grownBy w (some g)→a.grownBy (w.setCells g o vs) (some g)
 | [],_,_,h=>h
 |v::r,_,o,h=>gG r (o+1) (aA h v)
set_option maxRecDepth 100000 in
set_option maxHeartbeats 4000000 in
theorem aBE (base b n c i : Nat) (A B : List Crest) (x : Crest) (w : World) (h : OW cC 2 52 base w (some ⟨b, 0, none⟩) n c (A ++ x :: B)) (hi : A.length = i) (hn : n ≤ 100000) :
    Calls Tryz.prog 125 #[.slice (some ⟨b, 0, none⟩) n c, .int .i64 i, .int .i64 ((i + 1 : Nat) : Int)] w fun ev w' => ev = .returned (.slice (some ⟨b, 0, none⟩) (n - 1) c) ∧ OW cC 2 52 base w' (some ⟨b, 0, none⟩) (n - 1) c (A ++ B) ∧ w.grownBy w' (some b) := by
  have HH := Lib.hid h
  have hnl : n = i + 1 + B.length := by rw [h.2]; simp; omega
  obtain ⟨hnc, hcm⟩ : n ≤ c ∧ c ≤ maxLen := by
    rcases h.1.2 with ⟨h3, _⟩ | ⟨g, cap, cur, h3, hb, hg, hn', hc, hs, ht⟩
    · cases h3
    · injection h3 with h3 h4 h5
      subst h5
      exact ⟨hn', hc⟩
  obtain ⟨j, hj⟩ : ∃ j, j = i + 1 := ⟨_, rfl⟩
  obtain ⟨m, hm⟩ : ∃ m, m = B.length := ⟨_, rfl⟩
  rw [← hj]
  have hij : i < j := by omega
  have hjn : j ≤ n := by omega
  have hjc : j ≤ c := by omega
  have hic : i ≤ c := by omega
  have hmn : n - j = m := by omega
  have hcm2 : c ≤ 9223372036854775807 := by unfold maxLen at hcm; omega
  have HJ := Lib.hid hj
  have HM := Lib.hid hm
  have HI := Lib.hid hi
  have HNL := Lib.hid hnl
  clear h hnl hj hm hi hcm
  have hne : ((i : Int) == (j : Int)) = false := by simp; omega
  obtain ⟨i0, hi0, hzz, hz1, _⟩ := info_parts uD
  obtain ⟨news, hnews⟩ : ∃ news, news = B.flatMap cC := ⟨_, rfl⟩
  have hnl2 : Hid (news.length = m * 2) := by show _ = _; rw [hnews, cE aZ B, HM.out]
  have hone : Hid (∀ u ∈ news, u.oneCell' = true) := by
    intro u hu
    rw [hnews] at hu
    obtain ⟨y, _, hy⟩ := List.mem_flatMap.1 hu
    exact aCT y u hy
  obtain ⟨b', hb', hbl, _, hfz, hrow⟩ := HH.out.at_ aZ _ rfl
  cases hb'
  have hcell : Hid (∀ q u, ((A ++ x :: B).flatMap cC)[q]? = some u → w.cell? ⟨b, q, none⟩ = some u) := by
    intro q u hq
    have hfl := cE aZ (A ++ x :: B)
    have hql : q < ((A ++ x :: B).flatMap cC).length := (List.getElem?_eq_some_iff.1 hq).1
    rw [hfl] at hql
    have hdl : q / 2 < (A ++ x :: B).length := by omega
    have e0 : q = q / 2 * 2 + q % 2 := by omega
    obtain ⟨y, hy⟩ : ∃ y, (A ++ x :: B)[q / 2]? = some y := ⟨_, List.getElem?_eq_getElem hdl⟩
    have hm2 : q % 2 < (cC y).length := by rw [aZ y]; omega
    have h2 := oF aZ (A ++ x :: B) (q / 2) y hy (q % 2) _ (List.getElem?_eq_getElem hm2)
    rw [← e0, hq] at h2
    have h3 := hrow (q / 2) y hy (q % 2) _ (List.getElem?_eq_getElem hm2)
    rw [show 0 + q / 2 * 2 + q % 2 = q by omega] at h3
    rw [h3, h2]
  obtain ⟨AD, hA, hsrc⟩ : ∃ AD : Addr, (if c = j then (some ⟨b, 0, none⟩ : Option Addr) else some ⟨b, j * 2, none⟩) = some AD ∧ Hid (∀ t u, news[t]? = some u → w.drew.cell? (AD.add t) = some u) := by
    by_cases hcj : c = j
    · refine ⟨⟨b, 0, none⟩, by simp [hcj], fun t u hu => ?_⟩
      have h0 : news.length = 0 := by rw [hnl2.out]; have : m = 0 := by omega
                                      rw [this, Nat.zero_mul]
      rw [List.length_eq_zero_iff.1 h0] at hu
      simp at hu
    · refine ⟨⟨b, j * 2, none⟩, by simp [hcj], fun t u hu => ?_⟩
      have e0 : ((⟨b, j * 2, none⟩ : Addr).add t) = ⟨b, j * 2 + t, none⟩ := by unfold Addr.add; split <;> simp_all
      rw [e0]
      refine hcell.out _ _ ?_
      have e1 : (A ++ x :: B).flatMap cC = (A ++ [x]).flatMap cC ++ news := by rw [hnews, ← List.flatMap_append]; simp
      rw [e1, List.getElem?_append_right (by rw [cE aZ, List.length_append, HI.out]; have := HJ.out; simp; omega), cE aZ, List.length_append, HI.out]
      rw [show j * 2 + t - (i + [x].length) * 2 = t by have := HJ.out; simp; omega]
      exact hu
  have hfits : Hid (∀ t, t < news.length → (w.drew.cell? ⟨b, 0 + i * 2 + t, none⟩).isSome = true ∧ w.drew.frozen? ⟨b, 0 + i * 2 + t, none⟩ = false) := by
    intro t ht
    rw [hnl2.out] at ht
    have hq : 0 + i * 2 + t < ((A ++ x :: B).flatMap cC).length := by rw [cE aZ]; have := HNL.out; simp; have := HI.out; have := HM.out; omega
    refine ⟨?_, hfz _⟩
    show (w.cell? _).isSome = true
    rw [hcell.out _ _ (List.getElem?_eq_getElem hq)]
    rfl
  clear hrow
  have HNEWS := Lib.hid hnews
  clear hnews
  obtain ⟨W1, hW1⟩ : ∃ W1, W1 = w.drew.setCells b (0 + i * 2) news := ⟨_, rfl⟩
  have hW := Lib.hid hW1
  have hclear : ∀ ty, (Builtin.clear_ #[23] ty #[.slice (some ⟨b, (i + m) * 2, none⟩) 1 (c - (i + m))]).run Tryz.prog W1 = .ok (.tuple #[]) (W1.setCells b ((i + m) * 2) [.int .i64 0, .int .i64 0]) := fun ty =>
    j9 W1 _ _ ty (.agg #[.int .i64 0, .int .i64 0]) Tryz.underlying23 (fun w => by simp [zeroValue, typeInfo, hi0, hzz]) [.int .i64 0, .int .i64 0] rfl (by intro u hu; simp at hu; subst hu; rfl) b ((i + m) * 2) (c - (i + m))
      (fun q hq => by
        rw [hW1]
        refine World.isSome_setCells b news _ _ _ ?_
        have hql : (i + m) * 2 + q < ((A ++ x :: B).flatMap cC).length := by rw [cE aZ]; have := HM.out; have := HI.out; simp at hq ⊢; omega
        show (w.cell? _).isSome = true
        rw [hcell.out _ _ (List.getElem?_eq_getElem hql)]
        rfl)
      (fun q _ => by rw [hW1, World.frozen?_setCells]; exact hfz _)
  have hqn : n - (i + m) = 1 := by have := HNL.out; have := HM.out; omega
  have hcne : ¬ c = i + m := by omega
  have hcle : i + m ≤ n := by omega
  have hcle2 : i + m < c := by omega
  clear hfz hW1 hcell
  go_enter Tryz.func125, Tryz.ntmps125
  go_wp2_with fail
  go_region_law (refine step_append_room rfl (.tmp 22) (.tmp 25) 23 rfl 52 i0 2 Tryz.underlying23 hi0 hz1 b 0 i c (by simp [Act.eval, Act.put]) AD m (c - j) news (by simp [Act.eval, Act.put]) hnl2.out hsrc.out hone.out (by omega) hfits.out ?_; rw [← hW.out])
  go_wp2_with fail
  go_ret
  have e2 : i + m = n - 1 := by omega
  have hdd : OW cC 2 52 base ((w.drew.setCells b (0 + i * 2) news).setCells b ((n - 1) * 2) [.int .i64 0, .int .i64 0]) (some ⟨b, 0, none⟩) (n - 1) c (A ++ B) := by
    have h2 := OW.dele (HH.out.drew) aZ HI.out [.int .i64 0, .int .i64 0] rfl
    rw [HNEWS.out, Nat.zero_add]
    exact h2
  refine ⟨by rw [e2]; rfl, ?_, ?_⟩
  · rw [hW.out, e2]; exact hdd
  · rw [hW.out]; exact gG _ _ (gG _ _ (cB (World.grownBy.refl w _)))
set_option maxRecDepth 100000 in
set_option maxHeartbeats 4000000 in
theorem aBF (base b n c i : Nat) (A B : List Junc) (x : Junc) (w : World) (h : OW jC 3 54 base w (some ⟨b, 0, none⟩) n c (A ++ x :: B)) (hi : A.length = i) (hn : n ≤ 100000) :
    Calls Tryz.prog 129 #[.slice (some ⟨b, 0, none⟩) n c, .int .i64 i, .int .i64 ((i + 1 : Nat) : Int)] w fun ev w' => ev = .returned (.slice (some ⟨b, 0, none⟩) (n - 1) c) ∧ OW jC 3 54 base w' (some ⟨b, 0, none⟩) (n - 1) c (A ++ B) ∧ w.grownBy w' (some b) := by
  have HH := Lib.hid h
  have hnl : n = i + 1 + B.length := by rw [h.2]; simp; omega
  obtain ⟨hnc, hcm⟩ : n ≤ c ∧ c ≤ maxLen := by
    rcases h.1.2 with ⟨h3, _⟩ | ⟨g, cap, cur, h3, hb, hg, hn', hc, hs, ht⟩
    · cases h3
    · injection h3 with h3 h4 h5
      subst h5
      exact ⟨hn', hc⟩
  obtain ⟨j, hj⟩ : ∃ j, j = i + 1 := ⟨_, rfl⟩
  obtain ⟨m, hm⟩ : ∃ m, m = B.length := ⟨_, rfl⟩
  rw [← hj]
  have hij : i < j := by omega
  have hjn : j ≤ n := by omega
  have hjc : j ≤ c := by omega
  have hic : i ≤ c := by omega
  have hmn : n - j = m := by omega
  have hcm2 : c ≤ 9223372036854775807 := by unfold maxLen at hcm; omega
  have HJ := Lib.hid hj
  have HM := Lib.hid hm
  have HI := Lib.hid hi
  have HNL := Lib.hid hnl
  clear h hnl hj hm hi hcm
  have hne : ((i : Int) == (j : Int)) = false := by simp; omega
  obtain ⟨i0, hi0, hzz, hz1, _⟩ := info_parts uE
  obtain ⟨news, hnews⟩ : ∃ news, news = B.flatMap jC := ⟨_, rfl⟩
  have hnl2 : Hid (news.length = m * 3) := by show _ = _; rw [hnews, cE aV B, HM.out]
  have hone : Hid (∀ u ∈ news, u.oneCell' = true) := by
    intro u hu
    rw [hnews] at hu
    obtain ⟨y, _, hy⟩ := List.mem_flatMap.1 hu
    exact aCU y u hy
  obtain ⟨b', hb', hbl, _, hfz, hrow⟩ := HH.out.at_ aV _ rfl
  cases hb'
  have hcell : Hid (∀ q u, ((A ++ x :: B).flatMap jC)[q]? = some u → w.cell? ⟨b, q, none⟩ = some u) := by
    intro q u hq
    have hfl := cE aV (A ++ x :: B)
    have hql : q < ((A ++ x :: B).flatMap jC).length := (List.getElem?_eq_some_iff.1 hq).1
    rw [hfl] at hql
    have hdl : q / 3 < (A ++ x :: B).length := by omega
    have e0 : q = q / 3 * 3 + q % 3 := by omega
    obtain ⟨y, hy⟩ : ∃ y, (A ++ x :: B)[q / 3]? = some y := ⟨_, List.getElem?_eq_getElem hdl⟩
    have hm2 : q % 3 < (jC y).length := by rw [aV y]; omega
    have h2 := oF aV (A ++ x :: B) (q / 3) y hy (q % 3) _ (List.getElem?_eq_getElem hm2)
    rw [← e0, hq] at h2
    have h3 := hrow (q / 3) y hy (q % 3) _ (List.getElem?_eq_getElem hm2)
    rw [show 0 + q / 3 * 3 + q % 3 = q by omega] at h3
    rw [h3, h2]
  obtain ⟨AD, hA, hsrc⟩ : ∃ AD : Addr, (if c = j then (some ⟨b, 0, none⟩ : Option Addr) else some ⟨b, j * 3, none⟩) = some AD ∧ Hid (∀ t u, news[t]? = some u → w.drew.cell? (AD.add t) = some u) := by
    by_cases hcj : c = j
    · refine ⟨⟨b, 0, none⟩, by simp [hcj], fun t u hu => ?_⟩
      have h0 : news.length = 0 := by rw [hnl2.out]; have : m = 0 := by omega
                                      rw [this, Nat.zero_mul]
      rw [List.length_eq_zero_iff.1 h0] at hu
      simp at hu
    · refine ⟨⟨b, j * 3, none⟩, by simp [hcj], fun t u hu => ?_⟩
      have e0 : ((⟨b, j * 3, none⟩ : Addr).add t) = ⟨b, j * 3 + t, none⟩ := by unfold Addr.add; split <;> simp_all
      rw [e0]
      refine hcell.out _ _ ?_
      have e1 : (A ++ x :: B).flatMap jC = (A ++ [x]).flatMap jC ++ news := by rw [hnews, ← List.flatMap_append]; simp
      rw [e1, List.getElem?_append_right (by rw [cE aV, List.length_append, HI.out]; have := HJ.out; simp; omega), cE aV, List.length_append, HI.out]
      rw [show j * 3 + t - (i + [x].length) * 3 = t by have := HJ.out; simp; omega]
      exact hu
  have hfits : Hid (∀ t, t < news.length → (w.drew.cell? ⟨b, 0 + i * 3 + t, none⟩).isSome = true ∧ w.drew.frozen? ⟨b, 0 + i * 3 + t, none⟩ = false) := by
    intro t ht
    rw [hnl2.out] at ht
    have hq : 0 + i * 3 + t < ((A ++ x :: B).flatMap jC).length := by rw [cE aV]; have := HNL.out; simp; have := HI.out; have := HM.out; omega
    refine ⟨?_, hfz _⟩
    show (w.cell? _).isSome = true
    rw [hcell.out _ _ (List.getElem?_eq_getElem hq)]
    rfl
  clear hrow
  have HNEWS := Lib.hid hnews
  clear hnews
  obtain ⟨W1, hW1⟩ : ∃ W1, W1 = w.drew.setCells b (0 + i * 3) news := ⟨_, rfl⟩
  have hW := Lib.hid hW1
  have hclear : ∀ ty, (Builtin.clear_ #[24] ty #[.slice (some ⟨b, (i + m) * 3, none⟩) 1 (c - (i + m))]).run Tryz.prog W1 = .ok (.tuple #[]) (W1.setCells b ((i + m) * 3) [.int .i64 0, .int .i64 0, .int .i64 0]) := fun ty =>
    j9 W1 _ _ ty (.agg #[.int .i64 0, .int .i64 0, .int .i64 0]) Tryz.underlying24 (fun w => by simp [zeroValue, typeInfo, hi0, hzz]) [.int .i64 0, .int .i64 0, .int .i64 0] rfl (by intro u hu; simp at hu; subst hu; rfl) b ((i + m) * 3) (c - (i + m))
      (fun q hq => by
        rw [hW1]
        refine World.isSome_setCells b news _ _ _ ?_
        have hql : (i + m) * 3 + q < ((A ++ x :: B).flatMap jC).length := by rw [cE aV]; have := HM.out; have := HI.out; simp at hq ⊢; omega
        show (w.cell? _).isSome = true
        rw [hcell.out _ _ (List.getElem?_eq_getElem hql)]
        rfl)
      (fun q _ => by rw [hW1, World.frozen?_setCells]; exact hfz _)
  have hqn : n - (i + m) = 1 := by have := HNL.out; have := HM.out; omega
  have hcne : ¬ c = i + m := by omega
  have hcle : i + m ≤ n := by omega
  have hcle2 : i + m < c := by omega
  clear hfz hW1 hcell
  go_enter Tryz.func129, Tryz.ntmps129
  go_wp2_with fail
  go_region_law (refine step_append_room rfl (.tmp 22) (.tmp 25) 24 rfl 54 i0 3 Tryz.underlying24 hi0 hz1 b 0 i c (by simp [Act.eval, Act.put]) AD m (c - j) news (by simp [Act.eval, Act.put]) hnl2.out hsrc.out hone.out (by omega) hfits.out ?_; rw [← hW.out])
  go_wp2_with fail
  go_ret
  have e2 : i + m = n - 1 := by omega
  have hdd : OW jC 3 54 base ((w.drew.setCells b (0 + i * 3) news).setCells b ((n - 1) * 3) [.int .i64 0, .int .i64 0, .int .i64 0]) (some ⟨b, 0, none⟩) (n - 1) c (A ++ B) := by
    have h2 := OW.dele (HH.out.drew) aV HI.out [.int .i64 0, .int .i64 0, .int .i64 0] rfl
    rw [HNEWS.out, Nat.zero_add]
    exact h2
  refine ⟨by rw [e2]; rfl, ?_, ?_⟩
  · rw [hW.out, e2]; exact hdd
  · rw [hW.out]; exact gG _ _ (gG _ _ (cB (World.grownBy.refl w _)))
end Go.Proofs.YtjlkeoppppfeiaaGreat
namespace Go.Proofs.YtjlkeoppppfeiaaGreat
open Go.RowKit Go.Shelf Go.Sort Go.Proofs
def bA (x y:Crest):Crest:=⟨x.pos,if x.siz<y.siz then y.siz else x.siz⟩
def aX (x _:Junc):Junc:=x
def okC (_ _:Crest):Bool:=true
def okJ (x y:Junc):Bool:=decide (x.pos=y.pos)&&(decide (x.arms=y.arms)&&decide (x.way=y.way))
section
variable {α:Type} (key:α→Int) (both:α→α→α) (ok:α→α→Bool)
def ded:α→List α→List α
 |x,[]=>[x]
 |x,y::r=>if key x=key y then ded (both x y) r else x::ded y r
def iS:α→List α→Bool
 |_,[]=>true
 |x,y::r=>if key x=key y then (ok x y&&iS (both x y) r) else iS y r
def mgd (l:List α):List α:=match l with | []=>[]|x::r=>ded key both x r
def fH (l:List α):Bool:=match l with | []=>true|x::r=>iS key both ok x r
end
set_option maxRecDepth 100000 in
theorem aAM (x y:Crest) (w:World):Calls Tryz.prog 46 #[.agg #[.int .i64 x.pos,.int .i64 x.siz],.agg #[.int .i64 y.pos,.int .i64 y.siz]] w fun e w'=>
  e = .returned (.tuple #[.agg #[.int .i64 (bA x y).pos,.int .i64 (bA x y).siz],.bool (okC x y)])∧Below w.heap.size w w':=by
 obtain⟨M,hM⟩ : ∃M,M=(bA x y).siz:=⟨_,rfl⟩
 have hite:(if x.siz<y.siz then y.siz else x.siz)=M:=hM.symm
 rw[←hM];have hz:BK (((w.alloc (.cells #[.int .i64 x.pos,.int .i64 x.siz] 52)).alloc (.cells #[.int .i64 y.pos,.int .i64 y.siz] 52)).alloc (.cells #[.int .i64 x.pos,.int .i64 M] 52)) (w.heap.size+1+1) 52 #[.int .i64 x.pos,.int .i64 M]:=by
  have:=BK.new ((w.alloc (.cells #[.int .i64 x.pos,.int .i64 x.siz] 52)).alloc (.cells #[.int .i64 y.pos,.int .i64 y.siz] 52)) 52 #[.int .i64 x.pos,.int .i64 M];rw[World.size_alloc,World.size_alloc]at this;exact this
 have hb:Below w.heap.size w (((w.alloc (.cells #[.int .i64 x.pos,.int .i64 x.siz] 52)).alloc (.cells #[.int .i64 y.pos,.int .i64 y.siz] 52)).alloc (.cells #[.int .i64 x.pos,.int .i64 M] 52)):=(((Below.refl _ _).alloc (Nat.le_refl _) _).alloc (by simp) _).alloc (by simp<;>omega) _
 have HZ:=Lib.hid hz;have HB:=Lib.hid hb;clear hM hz hb;go_enter Tryz.func46,Tryz.ntmps46
 go_wp2_with fail
 refine bodyPost_ret (v:=.tuple #[.agg #[.int .i64 x.pos,.int .i64 M],.bool true]) (by simp[results,Tryz.results46,go_sem]) rfl ⟨rfl,HB.out⟩
set_option maxRecDepth 100000 in
theorem aAN (x y:Junc) (w:World):Calls Tryz.prog 49 #[.agg #[.int .i64 x.pos,.int .i64 x.arms,.int .i64 x.way],.agg #[.int .i64 y.pos,.int .i64 y.arms,.int .i64 y.way]] w fun e w'=>
  e = .returned (.tuple #[.agg #[.int .i64 (aX x y).pos,.int .i64 (aX x y).arms,.int .i64 (aX x y).way],.bool (okJ x y)])∧Below w.heap.size w w':=by
 simp only[aX];go_enter Tryz.func49,Tryz.ntmps49
 by_cases h1:x.pos=y.pos
 ·by_cases h2:x.arms=y.arms
  ·by_cases h3:x.way=y.way
   ·have e:x=y:=by cases x;cases y;simp at h1 h2 h3;simp[h1,h2,h3]
    subst e;clear h1 h2 h3;go_wp2_with fail
    go_region
    go_wp2_with fail
    refine bodyPost_ret (v:=.tuple #[.agg #[.int .i64 x.pos,.int .i64 x.arms,.int .i64 x.way],.bool true]) (by simp[results,Tryz.results49,go_sem]) rfl ⟨by simp[okJ],aD ((((Below.refl _ _).alloc (Nat.le_refl _) _).alloc (by simp) _).alloc (by simp<;>omega) _) 1⟩
   ·have h3':(x.way == y.way)=false:=by simpa using h3
    go_wp2_with fail
    go_region
    go_wp2_with fail
    refine bodyPost_ret (v:=.tuple #[.agg #[.int .i64 x.pos,.int .i64 x.arms,.int .i64 x.way],.bool false]) (by simp[results,Tryz.results49,go_sem,h1,h2]) rfl ⟨by simp[okJ,h3],aD ((((Below.refl _ _).alloc (Nat.le_refl _) _).alloc (by simp) _).alloc (by simp<;>omega) _) 1⟩
  ·have h2':(x.arms == y.arms)=false:=by simpa using h2
   go_wp2_with fail
   go_region
   go_wp2_with fail
   refine bodyPost_ret (v:=.tuple #[.agg #[.int .i64 x.pos,.int .i64 x.arms,.int .i64 x.way],.bool false]) (by simp[results,Tryz.results49,go_sem,h1]) rfl ⟨by simp[okJ,h2],aD ((((Below.refl _ _).alloc (Nat.le_refl _) _).alloc (by simp) _).alloc (by simp<;>omega) _) 1⟩
 ·have h1':(x.pos == y.pos)=false:=by simpa using h1
  go_wp2_with fail
  go_region
  go_wp2_with fail
  refine bodyPost_ret (v:=.tuple #[.agg #[.int .i64 x.pos,.int .i64 x.arms,.int .i64 x.way],.bool false]) (by simp[results,Tryz.results49,go_sem]) rfl ⟨by simp[okJ,h1],aD ((((Below.refl _ _).alloc (Nat.le_refl _) _).alloc (by simp) _).alloc (by simp<;>omega) _) 1⟩
end Go.Proofs.YtjlkeoppppfeiaaGreat
