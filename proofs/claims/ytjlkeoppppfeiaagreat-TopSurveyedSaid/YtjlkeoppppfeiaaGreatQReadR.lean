/- Lemmas. -/
import Derived.Test.YtjlkeoppppfeiaaGreatQReadP
namespace Go.Proofs.YtjlkeoppppfeiaaGreat
open Go.Lib
theorem vT {x y:Wd} {r:List Wd}:r=(if (bP x y r).1<0 then [x] else if 0<(bP x y r).1 then [y] else [])++(bP x y r).2:=by
 cases r with
 |nil=>simp[bP]
 |cons w r'=>
  unfold bP
  dsimp only
  split
  ·rename_i h;subst h;simp
  ·split
   ·rename_i h;subst h;simp
   ·simp
theorem aAc {x y:Wd} {r:List Wd}:(bP x y r).1 = -1∨(bP x y r).1=0∨(bP x y r).1=1:=by
 cases r with
 |nil=>simp[bP]
 |cons w r'=>
  unfold bP
  dsimp only
  split
  ·simp
  ·split<;>simp
theorem pCor_wds {w:Wd} {r r':List Wd} {n:NoteR} (hw:w.head?=some 76∨w.head?=some 82) (h:fO w r=some (n,r')):w::r=nWds n++r':=by
 unfold fO at h
 split at h
 ·cases h
 ·rename_i g hg
  obtain⟨hg1,-,-,-⟩:=gO hg
  dsimp only at h
  have e1:=vT (x:=wShort) (y:=wLong) (r:=r);have e2:=vT (x:=wOpens) (y:=wTightens) (r:=(bP wShort wLong r).2);have r2:=aAc (x:=wOpens) (y:=wTightens) (r:=(bP wShort wLong r).2);have hh:w=(if (if w.head?=some 76 then (-1:Int) else 1)<0 then 76 else 82)::itoa g:=by
   cases w with
   |nil=>rcases hw with hw|hw<;>cases hw
   |cons b w'=>
    rw[←hg1];simp only[List.head?_cons,Option.some.injEq,List.tail_cons]at hw ⊢
    rcases hw with rfl|rfl
    ·rfl
    ·rfl
  split at h
  ·rename_i hz
   injection h with h;injection h with h1 h2
   subst h1;subst h2;simp only[nWds,if_true];rw[hz]at e2;simp only[Int.lt_irrefl,if_false,List.nil_append,List.append_nil]at e2 ⊢;rw[←hh,List.cons_append,←e2,←e1]
  ·rename_i hz
   split at h
   ·cases h
   ·rename_i x r3 he
    split at h
    ·cases h
    ·rename_i t ht
     obtain⟨ht1,-,-,-⟩:=gO ht
     injection h with h;injection h with h1 h2
     subst h1;subst h2;simp only[nWds,if_true];rw[←hh,List.cons_append];refine congrArg (w::·) ?_
     rw[List.append_assoc];refine e1.trans (congrArg (fun z:List Wd=>(if (bP wShort wLong r).1<0 then [wShort] else if 0<(bP wShort wLong r).1 then [wLong] else [])++z) ?_)
     refine e2.trans ?_
     rw[he,←ht1];rcases r2 with q|q|q
     ·rw[q];rfl
     ·exact absurd q hz
     ·rw[q];rfl
theorem pWay_wds {r r':List Wd} {n:NoteR} (h:j7 r=some (n,r')):bD::r=nWds n++r':=by
 unfold j7 at h
 split at h
 ·split at h
  ·cases h
  ·rename_i a ha
   split at h
   ·rename_i ho
    split at h
    ·cases h
    ·rename_i b hb
     injection h with h;injection h with h1 h2
     subst h1;subst h2;subst ho;rw[(gO ha).1,(gO hb).1]
     rfl
   ·cases h
 ·cases h
theorem pRaw_wds {w:Wd} {r r':List Wd} {n:NoteR} (h:eL w r=some (n,r')):w::r=nWds n++r':=by
 unfold eL at h
 split at h
 ·rename_i hw;subst hw;injection h with h;injection h with h1 h2;subst h1;subst h2;rfl
 split at h
 ·rename_i hw;subst hw;injection h with h;injection h with h1 h2;subst h1;subst h2;rfl
 split at h
 ·rename_i hw;subst hw;injection h with h;injection h with h1 h2;subst h1;subst h2;rfl
 split at h
 ·rename_i hw;subst hw;injection h with h;injection h with h1 h2;subst h1;subst h2;rfl
 split at h
 ·rename_i hw;subst hw;injection h with h;injection h with h1 h2;subst h1;subst h2;rfl
 split at h
 ·rename_i hw;subst hw;injection h with h;injection h with h1 h2;subst h1;subst h2;rfl
 split at h
 ·rename_i hw;subst hw;injection h with h;injection h with h1 h2;subst h1;subst h2;rfl
 split at h
 ·rename_i hw;subst hw;injection h with h;injection h with h1 h2;subst h1;subst h2;rfl
 split at h
 ·rename_i hw;subst hw;exact pWay_wds h
 split at h
 ·rename_i hw;exact pCor_wds hw h
 split at h
 ·cases h
 ·rename_i m hm
  injection h with h;injection h with h1 h2;subst h1;subst h2
  rw[(gO hm).1]
  rfl
theorem aAd {l r':List Wd} {n:NoteR} (h:aQ l=some (n,r')):l=nWds n++r':=by
 unfold aQ at h
 split at h
 ·cases h
 ·split at h
  ·cases h
  ·rename_i n2 r2 he
   split at h
   ·injection h with h;injection h with h1 h2;subst h1;subst h2;exact pRaw_wds he
   ·cases h
theorem aAe (s:List UInt8):bK s≠[]:=by
 cases s with
 |nil=>simp[bK]
 |cons b r=>
  unfold bK
  split
  ·simp
  ·split<;>simp
theorem vU (w:Wd) (h:32∉w):bK w=[w]:=by
 induction w with
 |nil=>rfl
 |cons b r ih=>
  simp only[List.mem_cons,not_or]at h;unfold bK;rw[if_neg (fun hh=>h.1 hh.symm),ih h.2]
theorem yB (w:Wd) (s:List UInt8) (h:32∉w):bK (w++32::s)=w::bK s:=by
 induction w with
 |nil=>
  show bK (32::s)=_
  rw[bK,if_pos rfl]
 |cons b r ih=>
  simp only[List.mem_cons,not_or]at h;rw[List.cons_append,bK,if_neg (fun hh=>h.1 hh.symm),ih h.2]
theorem nN (ws:List Wd) (h0:ws≠[]) (h:∀w∈ws,32∉w):bK (join ws [32])=ws:=by
 induction ws with
 |nil=>exact absurd rfl h0
 |cons w ws ih=>
  by_cases hw:ws=[]
  ·subst hw
   have j1:∀x:Wd,join [x] [32]=x:=fun x=>by simp[join,List.intercalate]
   rw[j1];exact vU w (h w (by simp))
  ·rw[dS _ _ hw,yB _ _ (h w (by simp)),ih hw fun v hv=>h v (by simp[hv])]
theorem tH (m:Nat):(32:UInt8)∉decDigits m:=fun hm=>by
 have:=List.all_eq_true.1 (pS m) 32 hm;exact absurd this (by decide)
theorem cX {g:Int} (h:0≤g):(32:UInt8)∉itoa g:=by
 obtain⟨m,rfl⟩ : ∃m:Nat,g=(m:Int):=⟨g.toNat,by omega⟩
 rw[itoa_nonneg];exact tH m
theorem aBo (m:Nat):∃b,(decDigits m).head?=some b∧48≤b.toNat∧b.toNat≤57:=by
 cases h:decDigits m with
 |nil=>exact absurd h (yA m)
 |cons b r=>
  have:=List.all_eq_true.1 (pS m) b (by rw[h];simp)
  simp only[gM,Bool.and_eq_true,decide_eq_true_eq]at this;exact⟨b,rfl,this.1,this.2⟩
theorem mX {w:Wd} {b:UInt8} (r:List Wd) (hb:w.head?=some b) (h:b≠105∧b≠97∧b≠99∧b≠106∧b≠98∧b≠33) :
  eL w r=if b=76∨b=82 then fO w r else match dK w with|none=>none|some m=>some (⟨2,0,0,0,0,0,m,0,0,0⟩,r):=by
 have hne:∀v:Wd,v.head?≠some b→w≠v:=fun v hv hh=>hv (hh▸hb)
 obtain⟨h1,h2,h3,h4,h5,h6⟩:=h;unfold eL;rw[if_neg (hne _ (by simp[eD];exact Ne.symm h1)),if_neg (hne _ (by simp[iT];exact Ne.symm h2)),if_neg (hne _ (by simp[cL];exact Ne.symm h3)),if_neg (hne _ (by simp[dJ];exact Ne.symm h4)),
  if_neg (hne _ (by simp[bJ];exact Ne.symm h5)),if_neg (hne _ (by simp;exact Ne.symm h6)),if_neg (hne _ (by simp;exact Ne.symm h6)),if_neg (hne _ (by simp;exact Ne.symm h6)),if_neg (hne _ (by simp[bD];exact Ne.symm h4)),hb]
 by_cases hq:b=76∨b=82
 ·rw[if_pos hq,if_pos (by simpa using hq)]
 ·rw[if_neg hq,if_neg (by simpa using hq)]
  cases dK w<;>rfl
def noTok (r:List Wd):Prop:=∀w,r.head?=some w→w≠wShort∧w≠wLong∧w≠wOpens∧w≠wTightens
theorem lY {r:List Wd} (x y:Wd) (h:∀w,r.head?=some w→w≠x∧w≠y):bP x y r=(0,r):=by
 cases r with
 |nil=>rfl
 |cons w r'=>
  obtain⟨h1,h2⟩:=h w rfl;simp[bP,h1,h2]
theorem noTok.sl {r:List Wd} (h:noTok r):bP wShort wLong r=(0,r):=lY _ _ fun w hw=>⟨(h w hw).1,(h w hw).2.1⟩
theorem noTok.ot {r:List Wd} (h:noTok r):bP wOpens wTightens r=(0,r):=lY _ _ fun w hw=>⟨(h w hw).2.2.1,(h w hw).2.2.2⟩
theorem aBp (x y:Wd) (r:List Wd):bP x y (x::r)=(-1,r):=by simp[bP]
theorem aBq (x y:Wd) (r:List Wd) (h:y≠x):bP x y (y::r)=(1,r):=by simp[bP,h]
theorem aEf (r:List Wd):bP wShort wLong (wOpens::r)=(0,wOpens::r):=lY _ _ fun w hw=>by cases hw;exact⟨by decide,by decide⟩
theorem aEg (r:List Wd):bP wShort wLong (wTightens::r)=(0,wTightens::r):=lY _ _ fun w hw=>by cases hw;exact⟨by decide,by decide⟩
theorem aBr (r:List Wd):eL bD r=j7 r:=rfl
theorem yC {n:NoteR} (hv:aR n=true) (r:List Wd) (hr:noTok r):aQ (nWds n++r)=some (n,r):=by
 have key:∀w r0,nWds n++r=w::r0→eL w r0=some (n,r)→aQ (nWds n++r)=some (n,r):=fun w r0 e h=>by
  rw[e];simp only[aQ,h,hv,if_true]
 obtain⟨k,tu,gr,lo,ch,ton,me,si,wa,ar⟩:=n;by_cases k1:k=1
 ·subst k1
  have hv0:=hv;rw[cZ]at hv0;obtain⟨⟨htu,hgr,hlo,hch⟩,rfl,rfl,rfl,rfl⟩:=hv0;have hg:=fF (g:=gr) hgr.1 (by omega)
  have hlo:lo = -1∨lo=0∨lo=1:=by omega
  have hL:∀(a:List UInt8) (q:List Wd),eL (76::a) q=fO (76::a) q:=fun a q=>(mX q rfl (by decide)).trans (if_pos (.inl rfl))
  have hR:∀(a:List UInt8) (q:List Wd),eL (82::a) q=fO (82::a) q:=fun a q=>(mX q rfl (by decide)).trans (if_pos (.inr rfl))
  have so:=aEf;have st:=aEg;have t1:=aBp wShort wLong;have t2:=fun r=>aBq wShort wLong r (by decide)
  have t3:=aBp wOpens wTightens;have t4:=fun r=>aBq wOpens wTightens r (by decide)
  have n1:=hr.sl;have n2:=hr.ot;rcases hch with⟨rfl,rfl⟩|⟨rfl,hto⟩|⟨rfl,hto⟩
  ·rcases htu with rfl|rfl<;>rcases hlo with rfl|rfl|rfl<;>refine key _ _ rfl ?_<;>(first|rw[if_pos (by decide:(-1:Int)<0)]|skip) <;>
    simp[hL,hR,fO,hg,t1,t2,n1,n2]
  ·have ht:=fF (g:=ton) (by omega) (by omega)
   rcases htu with rfl|rfl<;>rcases hlo with rfl|rfl|rfl<;>refine key _ _ rfl ?_ <;>
    simp[hL,hR,fO,hg,ht,t1,t2,t3,so]
  ·have ht:=fF (g:=ton) (by omega) (by omega)
   rcases htu with rfl|rfl<;>rcases hlo with rfl|rfl|rfl<;>refine key _ _ rfl ?_ <;>
    simp[hL,hR,fO,hg,ht,t1,t2,t4,st]
 by_cases k2:k=2
 ·subst k2
  have hv0:=hv;rw[rO]at hv0;obtain⟨⟨rfl,rfl,rfl,rfl,rfl⟩,h1,h2,rfl,rfl,rfl⟩:=hv0;have hm:=fF h1 h2;obtain⟨m,rfl⟩ : ∃m:Nat,me=(m:Int):=⟨me.toNat,by omega⟩
  obtain⟨b,hb,h3,h4⟩:=aBo m;rw[←itoa_nonneg]at hb;have hq:∀c:UInt8,57<c.toNat∨c.toNat<48→b≠c:=fun c hc hh=>by subst hh;omega
  refine key (itoa (m:Int)) r rfl ?_
  rw[mX r hb ⟨hq _ (by decide),hq _ (by decide),hq _ (by decide),hq _ (by decide),hq _ (by decide),hq _ (by decide)⟩,if_neg (by rintro(h|h);exact hq 76 (by decide) h;exact hq 82 (by decide) h),hm]
 by_cases k3:k=3
 ·subst k3
  have hv0:=hv;rw[aDR]at hv0;obtain⟨⟨rfl,rfl,rfl,rfl,rfl⟩,rfl,rfl,rfl,rfl⟩:=hv0;exact key eD r rfl rfl
 by_cases k4:k=4
 ·subst k4
  have hv0:=hv;rw[aDS]at hv0;obtain⟨⟨rfl,rfl,rfl,rfl,rfl⟩,rfl,rfl,rfl,rfl⟩:=hv0;exact key iT r rfl rfl
 by_cases k5:k=5
 ·subst k5
  have hv0:=hv;rw[aB9]at hv0;obtain⟨⟨rfl,rfl,rfl,rfl,rfl⟩,rfl,h1,h2,rfl,rfl⟩:=hv0;rcases(show si=1∨si=2∨si=3 by omega) with rfl|rfl|rfl
  ·exact key cL r rfl rfl
  ·exact key dJ r rfl rfl
  ·exact key bJ r rfl rfl
 by_cases k6:k=6
 ·subst k6
  have hv0:=hv;rw[aBa]at hv0;obtain⟨⟨rfl,rfl,rfl,rfl,rfl⟩,rfl,h1,h2,rfl,rfl⟩:=hv0;rcases(show si=1∨si=2∨si=3 by omega) with rfl|rfl|rfl
  ·exact key [33] r rfl rfl
  ·exact key [33,33] r rfl rfl
  ·exact key [33,33,33] r rfl rfl
 by_cases k7:k=7
 ·subst k7
  have hv0:=hv;rw[vF]at hv0;obtain⟨⟨rfl,rfl,rfl,rfl,rfl⟩,rfl,rfl,h1,h2,h3,h4⟩:=hv0;have ha:=fF (g:=wa) (by omega) (by omega)
  have hb:=fF (g:=ar) (by omega) (by omega)
  refine key bD (itoa wa::wOf::itoa ar::r) rfl ?_
  rw[aBr];simp[j7,ha,hb]
 exact absurd (hv.symm.trans (aBb tu gr lo ch ton me si wa ar k k1 k2 k3 k4 k5 k6 k7)) (by decide)
theorem aDE {g:Int} (h:0≤g):∃b,(itoa g).head?=some b∧48≤b.toNat∧b.toNat≤57:=by
 obtain⟨m,rfl⟩ : ∃m:Nat,g=(m:Int):=⟨g.toNat,by omega⟩
 rw[itoa_nonneg];exact aBo m
theorem aBs {n:NoteR} (hv:aR n=true) (r:List Wd):noTok (nWds n++r):=by
 intro w hw;have hd:∀v:Wd,(∃b,v.head?=some b∧b≠115∧b≠108∧b≠111∧b≠116)→v≠wShort∧v≠wLong∧v≠wOpens∧v≠wTightens:=fun v ⟨b,hb,h1,h2,h3,h4⟩=>by
  refine⟨?_,?_,?_,?_⟩<;>intro hh<;>subst hh<;>simp[wShort,wLong,wOpens,wTightens]at hb
  ·exact h1 hb.symm
  ·exact h2 hb.symm
  ·exact h3 hb.symm
  ·exact h4 hb.symm
 obtain⟨k,tu,gr,lo,ch,ton,me,si,wa,ar⟩:=n;by_cases k1:k=1
 ·subst k1
  simp only[nWds,if_true,List.cons_append,List.head?_cons,Option.some.injEq]at hw
  subst hw;refine hd _ ⟨_,rfl,?_⟩
  split<;>decide
 by_cases k2:k=2
 ·subst k2
  rw[rO]at hv;have hw:itoa me=w:=by simpa[nWds]using hw
  subst hw;obtain⟨b,hb,h1,h2⟩:=aDE (g:=me) (by omega)
  have hq:∀c:UInt8,57<c.toNat∨c.toNat<48→b≠c:=fun c hc hh=>by subst hh;omega
  exact hd _ ⟨b,hb,hq _ (by decide),hq _ (by decide),hq _ (by decide),hq _ (by decide)⟩
 have h0:w∈[eD,iT,cL,dJ,bJ,[33],[33,33],[33,33,33],bD]:=by
  simp only[nWds,if_neg k1,if_neg k2]at hw
  (repeat' split at hw)<;>simp at hw<;>subst hw<;>simp
 refine hd w ?_
 simp only[List.mem_cons,List.not_mem_nil,or_false]at h0;rcases h0 with rfl|rfl|rfl|rfl|rfl|rfl|rfl|rfl|rfl<;>exact⟨_,rfl,by decide,by decide,by decide,by decide⟩
theorem yD {n:NoteR} (hv:aR n=true):∀w∈nWds n,(32:UInt8)∉w:=by
 intro w hw;obtain⟨k,tu,gr,lo,ch,ton,me,si,wa,ar⟩:=n;by_cases k1:k=1
 ·subst k1
  rw[cZ]at hv;obtain⟨⟨htu,hgr,hlo,hch⟩,-,-,-,-⟩:=hv;have h1:=cX (g:=gr) (by omega)
  simp only[nWds,if_true,List.mem_cons,List.mem_append]at hw;rcases hw with rfl|hw|hw
  ·simp only[List.mem_cons,not_or]
   refine⟨?_,h1⟩
   split<;>decide
  ·(repeat' split at hw)<;>simp at hw<;>subst hw<;>decide
  ·rcases hch with⟨rfl,rfl⟩|⟨rfl,hto⟩|⟨rfl,hto⟩
   ·simp at hw
   ·have h2:=cX (g:=ton) (by omega)
    simp at hw;rcases hw with rfl|rfl
    ·decide
    ·exact h2
   ·have h2:=cX (g:=ton) (by omega)
    simp at hw;rcases hw with rfl|rfl
    ·decide
    ·exact h2
 by_cases k2:k=2
 ·subst k2
  rw[rO]at hv;have hw:w=itoa me:=by simpa[nWds]using hw
  subst hw;exact cX (by omega)
 by_cases k7:k=7
 ·subst k7
  rw[vF]at hv;have hw:w=bD∨w=itoa wa∨w=wOf∨w=itoa ar:=by simpa[nWds]using hw
  rcases hw with rfl|rfl|rfl|rfl
  ·decide
  ·exact cX (by omega)
  ·decide
  ·exact cX (by omega)
 have h0:w∈[eD,iT,cL,dJ,bJ,[33],[33,33],[33,33,33]]:=by
  by_cases k3:k=3
  ·subst k3;simp[nWds]at hw;subst hw;simp
  by_cases k4:k=4
  ·subst k4;simp[nWds]at hw;subst hw;simp
  by_cases k5:k=5
  ·subst k5
   simp[nWds]at hw
   (repeat' split at hw)<;>simp at hw<;>subst hw<;>simp
  by_cases k6:k=6
  ·subst k6
   simp[nWds]at hw
   (repeat' split at hw)<;>simp at hw<;>subst hw<;>simp
  exact absurd (hv.symm.trans (aBb tu gr lo ch ton me si wa ar k k1 k2 k3 k4 k5 k6 k7)) (by decide)
 simp only[List.mem_cons,List.not_mem_nil,or_false]at h0;rcases h0 with rfl|rfl|rfl|rfl|rfl|rfl|rfl|rfl<;>decide
theorem tI {L:List NoteR} (h:L≠[]):L.flatMap nWds≠[]:=by
 cases L with
 |nil=>exact absurd rfl h
 |cons n L=>rw[List.flatMap_cons];exact List.append_ne_nil_of_left_ne_nil (zO n) _
theorem aAf (L:List NoteR):join (L.map xU) [32]=join (L.flatMap nWds) [32]:=by
 induction L with
 |nil=>rfl
 |cons n L ih=>
  by_cases hL:L=[]
  ·subst hL
   have j1:∀x:Wd,join [x] [32]=x:=fun x=>by simp[join,List.intercalate]
   rw[List.map_cons,List.map_nil,j1,rW,List.flatMap_cons,List.flatMap_nil,List.append_nil]
  ·rw[List.map_cons,dS _ _ (by simpa using hL),ih,List.flatMap_cons,vS _ _ (zO n) (tI hL),rW]
theorem rX (L:List NoteR) (h:L.all aR=true):nV (L.flatMap nWds)=some L:=by
 induction L with
 |nil=>exact pN
 |cons n L ih=>
  rw[List.all_cons,Bool.and_eq_true]at h;have ht:noTok (L.flatMap nWds):=by
   cases L with
   |nil=>intro w hw;cases hw
   |cons m L=>
    rw[List.flatMap_cons];exact aBs (by have:=h.2;rw[List.all_cons,Bool.and_eq_true]at this;exact this.1) _
  rw[List.flatMap_cons,rU (yC h.1 _ ht),ih h.2]
  rfl
theorem yE (L:List NoteR) (h:L.all aR=true):kF (join (L.map xU) [32])=some L:=by
 unfold kF dQ;by_cases hL:L=[]
 ·subst hL
  rw[if_pos (show join (List.map xU []) [32]=[] from rfl)]
  exact pN
 have hb:∀w∈L.flatMap nWds,(32:UInt8)∉w:=fun w hw=>by
  obtain⟨n,hn,hw⟩:=List.mem_flatMap.1 hw;exact yD (List.all_eq_true.1 h n hn) w hw
 rw[aAf,nN _ (tI hL) hb]
 split
 ·rename_i he
  have:=nN _ (tI hL) hb;rw[he]at this;have h1:L.flatMap nWds=[[]]:=this.symm
  exfalso
  have h2:=rX L h;rw[h1,rT (by simp) (by rfl)]at h2
  cases h2
 ·exact rX L h
end Go.Proofs.YtjlkeoppppfeiaaGreat
