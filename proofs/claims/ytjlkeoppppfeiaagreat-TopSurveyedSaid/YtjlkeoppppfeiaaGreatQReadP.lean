/- Lemmas. -/
import Derived.Test.YtjlkeoppppfeiaaGreatQNoteP
import Derived.Laws.RangeAny
import Derived.WalkLawsBesides
import Derived.Deep.AppendLies
import Derived.Lib.Join
namespace Go.Proofs.YtjlkeoppppfeiaaGreat
open Go.Lib
abbrev Wd:=List UInt8
def bK:List UInt8→List Wd
 | []=>[[]]
 |b::r=>if b=32 then []::bK r else match bK r with
  | []=>[[b]]
  |x::xs=>(b::x)::xs
def dQ (s:List UInt8):List Wd:=if s=[] then [] else bK s
def gM (b:UInt8):Bool:=decide (48≤b.toNat)&&decide (b.toNat≤57)
def numV (w:Wd):Int:=w.foldl (fun n b=>10*n+((b.toNat:Int)-48)) 0
def dK (w:Wd):Option Int:=if (decide (1≤w.length)&&decide (w.length≤4)&&w.head? != some 48&&w.all gM) then some (numV w) else none
def eD:Wd:=[105,110,116,111]
def iT:Wd:=[97,110,100]
def cL:Wd:=[99,114,101,115,116]
def dJ:Wd:=[106,117,109,112]
def bJ:Wd:=[98,105,103,106,117,109,112]
def bD:Wd:=[106,117,110,99,116,105,111,110]
def wShort:Wd:=[115,104,111,114,116]
def wLong:Wd:=[108,111,110,103]
def wOpens:Wd:=[111,112,101,110,115]
def wTightens:Wd:=[116,105,103,104,116,101,110,115]
def wOf:Wd:=[111,102]
def bP (x y:Wd) (r:List Wd):Int×List Wd:=
 match r with
 | []=>(0,[])
 |w::r'=>if w=x then (-1,r') else if w=y then (1,r') else (0,w::r')
def fO (w:Wd) (r:List Wd):Option (NoteR×List Wd):=
 match dK w.tail with
 |none=>none
 |some g=>
  let a:=bP wShort wLong r
  let b:=bP wOpens wTightens a.2
  let tu:Int:=if w.head?=some 76 then -1 else 1
  if b.1=0 then some (⟨1,tu,g,a.1,0,0,0,0,0,0⟩,b.2)
  else match b.2 with
   | []=>none
   |x::r3=>match dK x with
    |none=>none
    |some t=>some (⟨1,tu,g,a.1,b.1,t,0,0,0,0⟩,r3)
def j7 (r:List Wd):Option (NoteR×List Wd):=
 match r with
 |x::o::y::r3=>match dK x with
  |none=>none
  |some a=>if o=wOf then (match dK y with|none=>none|some b=>some (⟨7,0,0,0,0,0,0,0,a,b⟩,r3)) else none
 |_=>none
def eL (w:Wd) (r:List Wd):Option (NoteR×List Wd):=
 if w=eD then some (⟨3,0,0,0,0,0,0,0,0,0⟩,r)
 else if w=iT then some (⟨4,0,0,0,0,0,0,0,0,0⟩,r)
 else if w=cL then some (⟨5,0,0,0,0,0,0,1,0,0⟩,r)
 else if w=dJ then some (⟨5,0,0,0,0,0,0,2,0,0⟩,r)
 else if w=bJ then some (⟨5,0,0,0,0,0,0,3,0,0⟩,r)
 else if w=[33] then some (⟨6,0,0,0,0,0,0,1,0,0⟩,r)
 else if w=[33,33] then some (⟨6,0,0,0,0,0,0,2,0,0⟩,r)
 else if w=[33,33,33] then some (⟨6,0,0,0,0,0,0,3,0,0⟩,r)
 else if w=bD then j7 r
 else if w.head?=some 76∨w.head?=some 82 then fO w r
 else match dK w with
  |none=>none
  |some m=>some (⟨2,0,0,0,0,0,m,0,0,0⟩,r)
def aQ (l:List Wd):Option (NoteR×List Wd):=
 match l with
 | []=>none
 |w::r=>match eL w r with
  |none=>none
  |some (n,r')=>if aR n then some (n,r') else none
theorem vO (x y:Wd) (r:List Wd):(bP x y r).2.length≤r.length:=by
 cases r with
 |nil=>exact Nat.le_refl _
 |cons w r'=>
  unfold bP
  dsimp only
  split
  ·simp
  ·split<;>simp
theorem aDA {w:Wd} {r r':List Wd} {n:NoteR} (h:fO w r=some (n,r')):r'.length≤r.length:=by
 unfold fO at h
 split at h
 ·cases h
 ·dsimp only at h
  have h1:=vO wShort wLong r;have h2:=vO wOpens wTightens (bP wShort wLong r).2
  split at h
  ·injection h with h;injection h with _ h;subst h;omega
  ·split at h
   ·cases h
   ·rename_i x r3 he
    split at h
    ·cases h
    ·injection h with h;injection h with _ h;subst h
     rw[he]at h2;simp at h2;omega
theorem aDB {r r':List Wd} {n:NoteR} (h:j7 r=some (n,r')):r'.length≤r.length:=by
 unfold j7 at h
 split at h
 ·split at h
  ·cases h
  ·split at h
   ·split at h
    ·cases h
    ·injection h with h;injection h with _ h;subst h;simp;omega
   ·cases h
 ·cases h
theorem aDC {w:Wd} {r r':List Wd} {n:NoteR} (h:eL w r=some (n,r')):r'.length≤r.length:=by
 unfold eL at h
 repeat' split at h
 all_goals first
  |(injection h with h;injection h with _ h;subst h;exact Nat.le_refl _)
  |exact aDB h
  |exact aDA h
  |cases h
theorem vP {l r':List Wd} {n:NoteR} (h:aQ l=some (n,r')):r'.length<l.length:=by
 unfold aQ at h
 split at h
 ·cases h
 ·rename_i w r
  split at h
  ·cases h
  ·rename_i n2 r2 he
   split at h
   ·injection h with h;injection h with _ h;subst h
    have:=aDC he;simp;omega
   ·cases h
def nV (l:List Wd):Option (List NoteR):=
 match l with
 | []=>some []
 |w::r=>match h:aQ (w::r) with
  |none=>none
  |some (n,r')=>
   have _hd:=vP h
   (nV r').map (n::·)
termination_by l.length
theorem pN:nV []=some []:=by rw[nV]
theorem rT {l:List Wd} (hl:l≠[]) (h:aQ l=none):nV l=none:=by
 cases l with
 |nil=>exact absurd rfl hl
 |cons w r=>
  rw[nV]
  split
  ·rfl
  ·rename_i n r' he;rw[h]at he;cases he
theorem rU {l r':List Wd} {n:NoteR} (h:aQ l=some (n,r')):nV l=(nV r').map (n::·):=by
 cases l with
 |nil=>cases h
 |cons w r=>
  rw[nV]
  split
  ·rename_i he;rw[h]at he;cases he
  ·rename_i n2 r2 he
   rw[h]at he
   injection he with he
   injection he with h1 h2
   subst h1;subst h2;rfl
def kF (s:List UInt8):Option (List NoteR):=nV (dQ s)
end Go.Proofs.YtjlkeoppppfeiaaGreat
namespace Go.Proofs.YtjlkeoppppfeiaaGreat
open Go.RowKit Go.Shelf Go.Sort Go.Proofs
abbrev unE:Ending:=.panicked [{ v:=.iface 295 (.agg #[.int .i64 3]),recovered:=false }]
theorem need_true (w:World):Calls Tryz.prog 244 #[.bool true] w fun e w'=>e = .returned (.tuple #[])∧w=w':=by
 go_enter Tryz.func244,Tryz.ntmps244
 go_wp2
 simp[bodyPost,results,Tryz.results244,go_sem]
theorem need_false (w:World):Calls Tryz.prog 244 #[.bool false] w fun e w'=>e=unE∧w=w':=by
 go_enter Tryz.func244,Tryz.ntmps244
 go_wp2
 exact⟨rfl,rfl,rfl⟩
theorem pO (t:Wd) (p:Nat) (b:UInt8) (h:t[p]?=some b):numV (t.take (p+1))=10*numV (t.take p)+((b.toNat:Int)-48):=by
 rw[List.take_add_one,h];simp[numV]
theorem zM:∀(k:Nat) (t:Wd),t.all gM=true→t.length≤k→k≤4→0≤numV t∧numV t<10 ^ k:=by
 intro k
 induction k with
 |zero=>
  intro t _ h _;have:t=[]:=List.eq_nil_of_length_eq_zero (by omega)
  subst this;exact⟨by decide,by decide⟩
 |succ k ih=>
  intro t ht hl hk;by_cases h0:t=[]
  ·subst h0
   exact⟨by decide,Int.pow_pos (by decide)⟩
  ·have e:t=t.dropLast++[t.getLast h0]:=(List.dropLast_concat_getLast h0).symm
   rw[e]at ht ⊢;rw[List.all_append,Bool.and_eq_true]at ht;have hb:=ht.2;simp only[List.all_cons,List.all_nil,gM,Bool.and_true,Bool.and_eq_true,decide_eq_true_eq]at hb;have:=ih t.dropLast ht.1 (by simp;omega) (by omega)
   have e2:numV (t.dropLast++[t.getLast h0])=10*numV t.dropLast+(((t.getLast h0).toNat:Int)-48):=by simp[numV]
   rw[e2,Int.pow_succ];omega
theorem aAb (t:Wd) (p:Nat) (b:UInt8) (h:t[p]?=some b) (hd:(t.take p).all gM=true) (hb:gM b=true):(t.take (p+1)).all gM=true:=by
 rw[List.take_add_one,h,List.all_append,hd];simp[hb]
theorem vQ (b:UInt8) (t:Wd) (w:World):(Instr.index 9 (.string (nbs (b::t))) (.int .i64 0)).run Tryz.prog w = .ok (.int .u8 b.toNat) w:=by
 rw[run_index_string w 9 (nbs (b::t)) .i64 0 Tryz.underlying9,dif_pos ⟨by omega,by rw[cS];simp⟩]
 rfl
theorem pP (b:UInt8):gM b=true↔48≤b.toNat∧b.toNat≤57:=by simp[gM]
set_option maxRecDepth 100000 in
set_option maxHeartbeats 4000000 in
theorem cF (t : Wd) (w : World) :
    Calls Tryz.prog 285 #[.string (nbs t)] w fun e w' => ((∃ g, dK t = some g ∧ e = .returned (.int .i64 g)) ∨ (dK t = none ∧ e = unE)) ∧ Below w.heap.size w w' := by
  have HSZ := Lib.hid (cS t)
  by_cases hl : 1 ≤ t.length ∧ t.length ≤ 4
  case neg =>
    have hN : Hid (dK t = none) := by
      show _ = _
      unfold dK
      rw [if_neg]
      simp only [Bool.and_eq_true, decide_eq_true_eq]
      omega
    have g1 : (decide ((1 : Int) ≤ ((nbs t).size : Int)) && decide (((nbs t).size : Int) ≤ 4)) = false := by rw [HSZ.out, ← Bool.not_eq_true]; simp only [Bool.and_eq_true, decide_eq_true_eq]; omega
    clear hl
    go_enter Tryz.func285, Tryz.ntmps285
    go_wp2_with (first | (go_at_call 131; refine (aG _ _ _ _).mono ?_; rintro e w' ⟨rfl, rfl⟩) | (go_at_call 244; refine (need_false _).mono ?_; rintro e w' ⟨rfl, rfl⟩))
    exact ⟨rfl, .inr ⟨hN.out, rfl⟩, Below.refl _ _⟩
  have g1 : (decide ((1 : Int) ≤ ((nbs t).size : Int)) && decide (((nbs t).size : Int) ≤ 4)) = true := by rw [HSZ.out]; simp only [Bool.and_eq_true, decide_eq_true_eq]; omega
  obtain ⟨b0, t', ht⟩ : ∃ b0 t', t = b0 :: t' := by
    cases t with
    | nil => simp at hl
    | cons b t' => exact ⟨b, t', rfl⟩
  have hix : ∀ w : World, (Instr.index 9 (.string (nbs t)) (.int .i64 0)).run Tryz.prog w = .ok (.int .u8 b0.toNat) w := fun w => by rw [ht]; exact vQ b0 t' w
  by_cases h48 : b0 = 48
  case pos =>
    have hN : Hid (dK t = none) := by
      show _ = _
      unfold dK
      rw [if_neg, ]
      rw [ht, h48]
      simp
    have g2 : ((b0.toNat : Int) != 48) = false := by subst h48; rfl
    clear hl h48 ht
    go_enter Tryz.func285, Tryz.ntmps285
    go_wp2_with (first | (go_at_call 131; refine (aG _ _ _ _).mono ?_; rintro e w' ⟨rfl, rfl⟩) | (go_at_call 244; refine (need_false _).mono ?_; rintro e w' ⟨rfl, rfl⟩))
    exact ⟨rfl, .inr ⟨hN.out, rfl⟩, Below.refl _ _⟩
  have g2 : ((b0.toNat : Int) != 48) = true := by
    simp only [bne_iff_ne, ne_eq]
    intro hh
    exact h48 (UInt8.toNat_inj.1 (by have : b0.toNat = 48 := by omega
                                     rw [this]; rfl))
  have HD0 : Hid (t.head? ≠ some 48) := by show _ ≠ _; rw [ht]; simpa using h48
  have HLN := Lib.hid hl
  clear hl h48 ht
  go_enter Tryz.func285, Tryz.ntmps285
  go_wp2_with (first | (go_at_call 131; refine (aG _ _ _ _).mono ?_; rintro e w' ⟨rfl, rfl⟩) | (go_at_call 244; refine (need_true _).mono ?_; rintro e w' ⟨rfl, rfl⟩))
  clear g1 g2 hix
  go_loopw [3] (fun n wr => ∃ p : Nat, p ≤ t.length ∧ (t.take p).all gM = true ∧ n = .int .i64 (numV (t.take p)) ∧ wr = w.iter (nbs t) p)
    (fun _ wr => t.length - wr.iterPos w.heap.size)
  case atStart => exact ⟨0, by omega, by simp, rfl, rfl⟩
  case round =>
    obtain ⟨p, hp, hd, rfl, rfl⟩ := hrel
    have HDG := Lib.hid hd
    clear hd
    by_cases hlt : p < t.length
    · have hlz : p < (nbs t).size := by rw [cS]; exact hlt
      have HG := Lib.hid (aCz t p hlz)
      have hV0 := zM 4 (t.take p) HDG.out (by simp; have := HLN.out; omega) (by omega)
      by_cases hdb : gM ((nbs t)[p]'hlz) = true
      · have hnx : ∀ ty, (Instr.next (.pointer (some ⟨w.heap.size, 0, none⟩)) true ty).run Tryz.prog (w.iter (nbs t) p) = .ok (.tuple #[.bool true, .int .i64 p, .int .i32 ((nbs t)[p]'hlz).toNat]) (w.iter (nbs t) (p + 1)) := fun ty =>
          run_next_ascii w (nbs t) p ty hlz (by have := (pP _).1 hdb; omega)
        have HV := Lib.hid (pO t p _ HG.out)
        have HD := Lib.hid (aAb t p _ HG.out HDG.out hdb)
        have hb := (pP _).1 hdb
        have hV1 := zM 4 (t.take (p + 1)) HD.out (by simp; have := HLN.out; omega) (by omega)
        rw [HV.out] at hV1
        generalize (nbs t)[p]'hlz = b at *
        have g3 : decide ((48 : Int) ≤ (b.toNat : Int)) = true := decide_eq_true (by omega)
        have g4 : decide ((b.toNat : Int) ≤ 57) = true := decide_eq_true (by omega)
        have e1 : IntKind.i32.wrap ((b.toNat : Int) - 48) = (b.toNat : Int) - 48 := IntWalk.i32_in _ (by omega)
        have e2 : IntKind.i64.wrap ((b.toNat : Int) - 48) = (b.toNat : Int) - 48 := IntWalk.i64_in _ (by omega)
        have e3 : IntKind.i64.wrap (10 * numV (t.take p)) = 10 * numV (t.take p) := IntWalk.i64_in _ (by omega)
        have e4 : IntKind.i64.wrap (10 * numV (t.take p) + ((b.toNat : Int) - 48)) = 10 * numV (t.take p) + ((b.toNat : Int) - 48) := IntWalk.i64_in _ (by omega)
        clear hdb hb hV0 hV1 hlz HG
        go_wp2_with (go_at_call 244; refine (need_true _).mono ?_; rintro e w' ⟨rfl, rfl⟩)
        go_roundw
        case rel => exact ⟨p + 1, by omega, HD.out, by rw [HV.out], rfl⟩
        case measure => rw [World.iterPos_iter, World.iterPos_iter]; omega
      · have hN : Hid (dK t = none) := by
          show _ = _
          unfold dK
          rw [if_neg]
          intro hh
          simp only [Bool.and_eq_true] at hh
          exact hdb (List.all_eq_true.1 hh.2 _ (List.mem_of_getElem? HG.out))
        obtain ⟨r, q, hnx, hr⟩ : ∃ (r q : Nat), (∀ ty, (Instr.next (.pointer (some ⟨w.heap.size, 0, none⟩)) true ty).run Tryz.prog (w.iter (nbs t) p) = .ok (.tuple #[.bool true, .int .i64 p, .int .i32 r]) (w.iter (nbs t) q)) ∧ (r < 48 ∨ 57 < r) := by
          by_cases h128 : ((nbs t)[p]'hlz).toNat < 128
          · exact ⟨_, _, fun ty => run_next_ascii w (nbs t) p ty hlz h128, by rw [pP] at hdb; omega⟩
          · exact ⟨_, _, fun ty => run_next_any w (nbs t) p ty hlz, by have := (decode_high (nbs t) p hlz (by omega)).1; omega⟩
        have hB : Below w.heap.size w (w.iter (nbs t) q) := (Below.refl _ _).alloc (Nat.le_refl _) _
        clear hdb HG hlz hV0
        rcases Nat.lt_or_ge r 48 with h1 | h1
        · have g3 : decide ((48 : Int) ≤ (r : Int)) = false := decide_eq_false (by omega)
          go_wp2_with (go_at_call 244; refine (need_false _).mono ?_; rintro e w' ⟨rfl, rfl⟩)
          exact ⟨rfl, .inr ⟨hN.out, rfl⟩, hB⟩
        · have g3 : decide ((48 : Int) ≤ (r : Int)) = true := decide_eq_true (by omega)
          have g4 : decide ((r : Int) ≤ 57) = false := decide_eq_false (by omega)
          go_wp2_with (go_at_call 244; refine (need_false _).mono ?_; rintro e w' ⟨rfl, rfl⟩)
          exact ⟨rfl, .inr ⟨hN.out, rfl⟩, hB⟩
    · obtain rfl : p = t.length := by omega
      have hnx : ∀ ty, (Instr.next (.pointer (some ⟨w.heap.size, 0, none⟩)) true ty).run Tryz.prog (w.iter (nbs t) t.length) = .ok (.tuple #[.bool false]) (w.iter (nbs t) t.length) := fun ty => run_next_end w (nbs t) t.length ty (by rw [cS]; omega)
      have hE : t.take t.length = t := List.take_length
      rw [hE] at HDG ⊢
      have hN : Hid (dK t = some (numV t)) := by
        show _ = _
        unfold dK
        rw [if_pos]
        have := HLN.out
        have h2 := HD0.out
        have h3 := HDG.out
        simp only [Bool.and_eq_true, decide_eq_true_eq, bne_iff_ne]
        exact ⟨⟨⟨this.1, this.2⟩, h2⟩, h3⟩
      go_wp2_with fail
      go_ret
      exact ⟨.inl ⟨_, hN.out, rfl⟩, (Below.refl _ _).alloc (Nat.le_refl _) _⟩
end Go.Proofs.YtjlkeoppppfeiaaGreat
namespace Go.Proofs.YtjlkeoppppfeiaaGreat
open Go.RowKit Go.Shelf Go.Sort Go.Proofs
def PA (w:World) (g B:Nat) (ws:List Wd):Prop:=g<B∧B≤w.heap.size∧∃A n c,BK w g 300 #[.slice A n c]∧n≤c∧n≤1000000∧n=ws.length ∧
 (0<n→∃b off,A=some ⟨b,off,none⟩∧g<b∧b<B∧∀i x,ws[i]?=some x→w.cell? ⟨b,off+i,none⟩=some (.string (nbs x)))
theorem PA.lt {w:World} {g B:Nat} {ws:List Wd} (h:PA w g B ws):g<B∧B≤w.heap.size:=⟨h.1,h.2.1⟩
theorem PA.grown {w w':World} {g B:Nat} {row:Option Nat} {ws:List Wd} (h:PA w g B ws) (hg:w.grownBy w' row) (hr:∀m,row=some m→B≤m):PA w' g B ws:=by
 obtain⟨h5,h6,A,n,c,hB,h1,h2,h3,h4⟩:=h;have hne:∀k,k<B→some k≠row:=fun k hk e=>by have:=hr k e.symm;omega
 refine⟨h5,Nat.le_trans h6 hg.size,A,n,c,hB.same (hg.block g hB.lt (hne g h5)),h1,h2,h3,fun hn=>?_⟩
 obtain⟨b,off,e,hbg,hbs,hc⟩:=h4 hn;exact⟨b,off,e,hbg,hbs,fun i x hx=>(hg.cell_far ⟨b,off+i,none⟩ (Nat.lt_of_lt_of_le hbs h6) (hne b hbs)).trans (hc i x hx)⟩
theorem PA.low {w w':World} {g B m:Nat} {ws:List Wd} (h:PA w g B ws) (hg:w.grownBy w' (some m)) (hm:m<g):PA w' g B ws:=by
 obtain⟨h5,h6,A,n,c,hB,h1,h2,h3,h4⟩:=h;refine⟨h5,Nat.le_trans h6 hg.size,A,n,c,hB.same (hg.block g hB.lt (by simp;omega)),h1,h2,h3,fun hn=>?_⟩
 obtain⟨b,off,e,hbg,hbs,hc⟩:=h4 hn;exact⟨b,off,e,hbg,hbs,fun i x hx=>(hg.cell_far ⟨b,off+i,none⟩ (Nat.lt_of_lt_of_le hbs h6) (by simp;omega)).trans (hc i x hx)⟩
theorem PA.below {w w':World} {g B:Nat} {ws:List Wd} (h:PA w g B ws) (hb:Below w.heap.size w w'):PA w' g B ws:=h.grown (row:=none) ⟨hb.os,hb.tape,hb.output,hb.size,fun k hk _=>hb.block k hk⟩ (fun _ e=>by cases e)
theorem aC {w w':World} {row:Option Nat} (hb:Below w.heap.size w w'):w.grownBy w' row:=⟨hb.os,hb.tape,hb.output,hb.size,fun k hk _=>hb.block k hk⟩
theorem oN (x v:Wd):((nbs x).toList == (nbs v).toList)=(x == v):=by rw[ByteArray.toList_eq,ByteArray.toList_eq];simp[nbs]
def zN (A:Option Addr) (c:Nat):Option Addr:=if c=1 then A else A.map fun x=>x.add 1
theorem aEQ (W:World):(sizeOf 9).run Tryz.prog W = .ok 1 W:=by kernel_rfl
theorem rV (W:World) (A:Option Addr) (n c:Nat) (hn:1≤n):(Instr.slice 298 (.slice A n c) (some (.int .i64 1)) none none).run Tryz.prog W = .ok (.slice (zN A c) (n-1) (c-1)) W:=by
 have hz:=aEQ W;have hn1:(1:Int)≤(n:Int):=by omega
 simp[Instr.slice,Instr.sliceBounds,Instr.sliceBound,asIntOf,run_underlying Tryz.underlying298,hn1,hz,Result.andThen,zN]
theorem PA.tail {w:World} {g B b off n c:Nat} {x:Wd} {r:List Wd} (hB:BK w g 300 #[.slice (some ⟨b,off,none⟩) n c]) (hnc:n≤c) (hmx:n≤1000000) (hn:n=(x::r).length) (hbg:g<b) (hbs:b<B) (hgB:g<B) (hBw:B≤w.heap.size)
  (hc:∀i y,(x::r)[i]?=some y→w.cell? ⟨b,off+i,none⟩=some (.string (nbs y))):PA (w.setCell ⟨g,0,none⟩ (.slice (zN (some ⟨b,off,none⟩) c) (n-1) (c-1))) g B r:=by
 refine⟨hgB,by simpa using hBw,_,n-1,c-1,hB.set_ 0 _,by omega,by omega,by rw[hn];simp,fun h0=>⟨b,off+1,?_,hbg,hbs,fun i y hy=>?_⟩⟩
 ·unfold zN
  rw[if_neg (by omega)]
  rfl
 ·have h1:=hc (i+1) y (by simpa using hy)
  rw[show off+1+i=off+(i+1) by omega]
  exact(World.cell?_of_block (w:=w) (a:=⟨b,off+(i+1),none⟩) (Below.heap_setCell w ⟨g,0,none⟩ _ b (by simp;omega))).trans h1
set_option maxRecDepth 100000 in
theorem bW (g B:Nat) (w:World) (h:PA w g B []):Calls Tryz.prog 240 #[.pointer (some ⟨g,0,none⟩)] w fun e w'=>e=unE∧w=w':=by
 obtain⟨hgB,hBw,A,n,c,hB,hnc,hmx,hn,hc⟩:=h;obtain rfl:n=0:=by simpa using hn
 have p0:=hB.cell 0;simp only[List.getElem?_toArray,List.getElem?_cons_zero]at p0
 clear hc hn;go_enter Tryz.func240,Tryz.ntmps240
 go_wp2_with(go_at_call 244;refine(need_false _).mono ?_;rintro e w' ⟨rfl,rfl⟩)
 exact⟨rfl,rfl,rfl⟩
set_option maxRecDepth 100000 in
theorem bN (g B:Nat) (x:Wd) (r:List Wd) (w:World) (h:PA w g B (x::r)) :
  Calls Tryz.prog 240 #[.pointer (some ⟨g,0,none⟩)] w fun e w'=>e = .returned (.string (nbs x))∧PA w' g B r∧w.grownBy w' (some g):=by
 obtain⟨hgB,hBw,A,n,c,hB,hnc,hmx,hn,hc⟩:=h;have h1n:1≤n:=by rw[hn];simp
 obtain⟨b,off,rfl,hbg,hbs,hc⟩:=hc h1n;have HT:=Lib.hid (PA.tail hB hnc hmx hn hbg hbs hgB hBw hc);have c0:=hc 0 x rfl;simp only[Nat.add_zero]at c0;have p0:=hB.cell 0;have f0:=hB.frozen 0;simp only[List.getElem?_toArray,List.getElem?_cons_zero]at p0
 have hsl:=fun W=>rV W (some ⟨b,off,none⟩) n c h1n
 have gn:decide ((0:Int)<(n:Int))=true:=decide_eq_true (by omega)
 have gnN:decide (0<n)=true:=decide_eq_true (by omega)
 have gn2:(0:Int)<(n:Int):=by omega
 clear hc hn hB;go_enter Tryz.func240,Tryz.ntmps240
 go_wp2_with(go_at_call 244;refine(need_true _).mono ?_;rintro e w' ⟨rfl,rfl⟩)
 go_ret
 exact⟨rfl,HT.out,grownBy_setCell' w g _⟩
set_option maxRecDepth 100000 in
theorem bQ (g B:Nat) (v:Wd) (ws:List Wd) (w:World) (h:PA w g B ws) :
  Calls Tryz.prog 286 #[.pointer (some ⟨g,0,none⟩),.string (nbs v)] w fun e w'=>(∃r,ws=v::r∧e = .returned (.bool true)∧PA w' g B r∧w.grownBy w' (some g))∨(ws.head?≠some v∧e = .returned (.bool false)∧w=w'):=by
 cases ws with
 |nil=>
  obtain⟨hgB,hBw,A,n,c,hB,hnc,hmx,hn,hc⟩:=h;obtain rfl:n=0:=by simpa using hn
  have p0:=hB.cell 0;simp only[List.getElem?_toArray,List.getElem?_cons_zero]at p0
  clear hc hn;go_enter Tryz.func286,Tryz.ntmps286
  go_wp2_with fail
  go_ret
  exact .inr ⟨by simp,rfl,rfl⟩
 |cons x r=>
  obtain⟨hgB,hBw,A,n,c,hB,hnc,hmx,hn,hc⟩:=h;have h1n:1≤n:=by rw[hn];simp
  obtain⟨b,off,rfl,hbg,hbs,hc⟩:=hc h1n;have HT:=Lib.hid (PA.tail hB hnc hmx hn hbg hbs hgB hBw hc);have c0:=hc 0 x rfl;simp only[Nat.add_zero]at c0;have p0:=hB.cell 0;have f0:=hB.frozen 0;simp only[List.getElem?_toArray,List.getElem?_cons_zero]at p0
  have hsl:=fun W=>rV W (some ⟨b,off,none⟩) n c h1n
  have gn:((n:Int) == 0)=false:=by simp;omega
  have gnN:(n == 0)=false:=by simp;omega
  have gn2:(0:Int)<(n:Int):=by omega
  clear hc hn hB;by_cases hx:x=v
  ·have gx:((nbs x).toList == (nbs v).toList)=true:=by rw[oN];simpa using hx
   have HX:=Lib.hid hx;clear hx;go_enter Tryz.func286,Tryz.ntmps286
   go_wp2_with fail
   go_ret
   exact .inl ⟨r,by rw[HX.out],rfl,HT.out,grownBy_setCell' w g _⟩
  ·have gx:((nbs x).toList == (nbs v).toList)=false:=by rw[oN];simpa using hx
   have HX:=Lib.hid hx;clear hx;go_enter Tryz.func286,Tryz.ntmps286
   go_wp2_with fail
   go_ret
   exact .inr ⟨by simpa using HX.out,rfl,rfl⟩
end Go.Proofs.YtjlkeoppppfeiaaGreat
namespace Go.Proofs.YtjlkeoppppfeiaaGreat
open Go.Lib
theorem mW {α:Type} {p:List α→Prop} (nil:p []) (snoc:∀l a,p l→p (l++[a])) (l:List α):p l:=by
 have h:∀r:List α,p r.reverse:=fun r=>by
  induction r with
  |nil=>exact nil
  |cons a r ih=>rw[List.reverse_cons];exact snoc _ _ ih
 have h2:=h l.reverse
 rwa [List.reverse_reverse]at h2
theorem pQ {α:Type} {xs:List α} (ys:List α) (h:xs≠[]):(xs++ys).head?=xs.head?:=by
 cases xs with
 |nil=>exact absurd rfl h
 |cons x xs=>rfl
theorem pR (d:Nat) (h:d<10):(UInt8.ofNat (48+d)).toNat=48+d:=by
 rw[UInt8.toNat_ofNat'];omega
theorem jY (w:Wd) (b:UInt8):numV (w++[b])=10*numV w+((b.toNat:Int)-48):=by simp[numV]
theorem aBl (m:Nat):numV (decDigits m)=m:=by
 induction m using Nat.strongRecOn with
 |ind m ih=>
  rw[decDigits]
  split
  ·rename_i h
   simp only[numV,List.foldl_cons,List.foldl_nil,pR m h];omega
  ·rename_i h
   rw[jY,ih _ (by omega),pR _ (by omega)]
   omega
theorem pS (m:Nat):(decDigits m).all gM=true:=by
 induction m using Nat.strongRecOn with
 |ind m ih=>
  rw[decDigits]
  split
  ·rename_i h
   simp only[List.all_cons,List.all_nil,gM,pR m h,Bool.and_true,Bool.and_eq_true,decide_eq_true_eq];omega
  ·rename_i h
   rw[List.all_append,ih _ (by omega),Bool.true_and]
   simp only[List.all_cons,List.all_nil,gM,pR (m%10) (by omega),Bool.and_true,Bool.and_eq_true,decide_eq_true_eq]
   omega
theorem yA (m:Nat):decDigits m≠[]:=by
 rw[decDigits]
 split<;>simp
theorem aDD (m k:Nat) (h:m<10 ^ (k+1)):(decDigits m).length≤k+1:=by
 induction k generalizing m with
 |zero=>
  rw[decDigits,dif_pos (by simpa using h)]
  simp
 |succ k ih=>
  rw[decDigits]
  split
  ·simp
  ·have:=ih (m / 10) (by rw[Nat.pow_succ]at h;omega)
   simp;omega
theorem aBm (m:Nat) (h:0<m):(decDigits m).head?≠some 48:=by
 induction m using Nat.strongRecOn with
 |ind m ih=>
  rw[decDigits]
  split
  ·rename_i h9
   intro hh;simp only[List.head?_cons,Option.some.injEq]at hh
   have:=congrArg UInt8.toNat hh;rw[pR m h9]at this
   change 48+m=48 at this
   omega
  ·rename_i h9
   have:=ih (m / 10) (by omega) (by omega)
   rw[pQ _ (yA _)];exact this
theorem vR (w:Wd) (h:w.all gM=true) (h0:w≠[]) (h1:w.head?≠some 48):1≤numV w:=by
 induction w using mW with
 |nil=>exact absurd rfl h0
 |snoc w b ih=>
  rw[List.all_append,Bool.and_eq_true]at h;have hb:=h.2;simp only[List.all_cons,List.all_nil,gM,Bool.and_true,Bool.and_eq_true,decide_eq_true_eq]at hb;rw[jY];by_cases hw:w=[]
  ·subst hw
   have:b.toNat≠48:=fun hh=>h1 (by
    have:b=48:=UInt8.toNat_inj.1 hh;rw[this];rfl)
   simp[numV];omega
  ·have:=ih h.1 hw (by rw[pQ _ hw]at h1;exact h1)
   omega
theorem aBn (w:Wd) (h:w.all gM=true) (h0:w≠[]) (h1:w.head?≠some 48):decDigits (numV w).toNat=w:=by
 induction w using mW with
 |nil=>exact absurd rfl h0
 |snoc w b ih=>
  rw[List.all_append,Bool.and_eq_true]at h;have hb:=h.2;simp only[List.all_cons,List.all_nil,gM,Bool.and_true,Bool.and_eq_true,decide_eq_true_eq]at hb;rw[jY];by_cases hw:w=[]
  ·subst hw
   have e:(10*numV []+((b.toNat:Int)-48)).toNat=b.toNat-48:=by simp[numV];omega
   rw[e,decDigits,dif_pos (by omega),show 48+(b.toNat-48)=b.toNat by omega]
   simp
  ·have h2:w.head?≠some 48:=by rw[pQ _ hw]at h1;exact h1
   have h3:=ih h.1 hw h2;have h4:=vR w h.1 hw h2;have e:(10*numV w+((b.toNat:Int)-48)).toNat=10*(numV w).toNat+(b.toNat-48):=by omega
   rw[e,decDigits,dif_neg (by omega),show (10*(numV w).toNat+(b.toNat-48)) / 10=(numV w).toNat by omega,show 48+(10*(numV w).toNat+(b.toNat-48))%10=b.toNat by omega,h3]
   simp
theorem gO {w:Wd} {g:Int} (h:dK w=some g):w=itoa g∧1≤g∧g≤9999∧g=numV w:=by
 unfold dK at h
 split at h
 ·rename_i hc
  injection h with h
  subst h;simp only[Bool.and_eq_true,decide_eq_true_eq,bne_iff_ne]at hc;obtain⟨⟨⟨h1,h2⟩,h3⟩,h4⟩:=hc;have h0:w≠[]:=fun hh=>by subst hh;simp at h1
  have h5:=vR w h4 h0 h3;have h6:=aBn w h4 h0 h3;refine⟨?_,h5,?_,rfl⟩
  ·rw[show numV w=((numV w).toNat:Int) by omega,itoa_nonneg,h6]
  ·have h7:∀(v:Wd) (k:Nat),v.all gM=true→v.length≤k→numV v<10 ^ k:=by
    intro v
    induction v using mW with
    |nil=>intro k _ _;simp[numV];exact Int.pow_pos (by decide)
    |snoc v b ih=>
     intro k hv hk;rw[List.all_append,Bool.and_eq_true]at hv;have hb:=hv.2;simp only[List.all_cons,List.all_nil,gM,Bool.and_true,Bool.and_eq_true,decide_eq_true_eq]at hb;cases k with
     |zero=>simp at hk
     |succ k=>
      have:=ih k hv.1 (by simp at hk;omega)
      rw[jY,Int.pow_succ];omega
   have:=h7 w 4 h4 h2;omega
 ·cases h
theorem fF {g:Int} (h1:1≤g) (h2:g≤9999):dK (itoa g)=some g:=by
 obtain⟨m,rfl⟩ : ∃m:Nat,g=(m:Int):=⟨g.toNat,by omega⟩
 rw[itoa_nonneg];unfold dK;rw[if_pos,aBl];simp only[Bool.and_eq_true,decide_eq_true_eq,bne_iff_ne];refine⟨⟨⟨?_,aDD m 3 (by omega)⟩,aBm m (by omega)⟩,pS m⟩
 exact List.length_pos_iff.2 (yA m)
def nWds (n:NoteR):List Wd:=
 if n.k=1 then ((if n.tu<0 then 76 else 82)::itoa n.gr)::((if n.lo<0 then [wShort] else if 0<n.lo then [wLong] else [])++(if n.ch<0 then [wOpens,itoa n.ton] else if 0<n.ch then [wTightens,itoa n.ton] else []))
 else if n.k=2 then [itoa n.me]
 else if n.k=3 then [eD]
 else if n.k=4 then [iT]
 else if n.k=5 then (if n.si=1 then [cL] else if n.si=2 then [dJ] else [bJ])
 else if n.k=6 then (if n.si=1 then [[33]] else if n.si=2 then [[33,33]] else [[33,33,33]])
 else [bD,itoa n.wa,wOf,itoa n.ar]
theorem dS (x:Wd) (xs:List Wd) (h:xs≠[]):join (x::xs) [32]=x++32::join xs [32]:=by
 cases xs with
 |nil=>exact absurd rfl h
 |cons y ys=>simp[join,List.intercalate_cons_cons]
theorem vS (xs ys:List Wd) (h1:xs≠[]) (h2:ys≠[]):join (xs++ys) [32]=join xs [32]++32::join ys [32]:=by
 induction xs with
 |nil=>exact absurd rfl h1
 |cons x xs ih=>
  by_cases hx:xs=[]
  ·subst hx
   rw[List.singleton_append,dS _ _ h2];simp[join,List.intercalate]
  ·rw[List.cons_append,dS _ _ (by simp[hx]),dS _ _ hx,ih hx]
   simp
theorem rW (n:NoteR):xU n=join (nWds n) [32]:=by
 have j1:∀x:Wd,join [x] [32]=x:=fun x=>by simp[join,List.intercalate]
 have j2:∀x y:Wd,join [x,y] [32]=x++32::y:=fun x y=>by rw[dS _ _ (by simp),j1]
 have j3:∀x y z:Wd,join [x,y,z] [32]=x++32::(y++32::z):=fun x y z=>by rw[dS _ _ (by simp),j2]
 have j4:∀x y z u:Wd,join [x,y,z,u] [32]=x++32::(y++32::(z++32::u)):=fun x y z u=>by rw[dS _ _ (by simp),j3]
 unfold xU nWds
 split
 ·by_cases h1:n.tu<0<;>by_cases h2:n.lo<0<;>by_cases h3:0<n.lo<;>by_cases h4:n.ch<0<;>by_cases h5:0<n.ch <;>
   simp[h1,h2,h3,h4,h5,j1,j2,j3,j4,wShort,wLong,wOpens,wTightens]
 ·split
  ·rw[j1]
  ·split
   ·rw[j1];rfl
   ·split
    ·rw[j1];rfl
    ·split
     ·split
      ·rw[j1];rfl
      ·split
       ·rw[j1];rfl
       ·rw[j1];rfl
     ·split
      ·split
       ·rw[j1]
       ·split
        ·rw[j1]
        ·rw[j1]
      ·rw[j4]
       simp[bD,wOf]
theorem zO (n:NoteR):nWds n≠[]:=by
 unfold nWds
 split
 ·simp
 ·split
  ·simp
  ·split
   ·simp
   ·split
    ·simp
    ·split
     ·split
      ·simp
      ·split<;>simp
     ·split
      ·split
       ·simp
       ·split<;>simp
      ·simp
end Go.Proofs.YtjlkeoppppfeiaaGreat
