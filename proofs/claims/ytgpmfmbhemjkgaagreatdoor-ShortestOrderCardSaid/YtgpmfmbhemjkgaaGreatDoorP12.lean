/- Parts of the proofs of the statement, joined and made short: EN3 EN4 ZLay ZL1. -/
import Derived.Test.YtgpmfmbhemjkgaaGreatDoorP11
import Derived.Test.YtgpmfmbhemjkgaaGreatDoorP6
import Derived.Test.YtgpmfmbhemjkgaaGreatDoorP10
import Derived.Test.YtgpmfmbhemjkgaaGreatDoorP3
import Derived.Shelf.SlGeneric
import Derived.Shelf.SlIterI.Nil
import Derived.Shelf.SortM.Plain
import Derived.Shelf.SortM.SortNone
import Derived.Ground.GgzProg
import Derived.Ground.SlgmProg
set_option linter.unusedVariables false
set_option linter.unusedSimpArgs false
set_option linter.unusedSectionVars false
set_option maxRecDepth 10000
set_option maxHeartbeats 16000000
namespace Go.Am.E
open Go.Proofs Go.Ex Go.Rc
theorem run16 (p : Pg) (hf : Fit p) (c : Cf) (k : chE p c = 0) : K 16 [.dat (PD p),.dat (CD c)] [] = some (.tup [.dat (SX (strX p c)),.dat (N 0)],[]):=by
 have h1:=run32 p hf c
 unfold chR at h1
 rw [if_pos k] at h1
 simp only [CD] at h1 ⊢
 by_cases h2 : c.md = 2
 ·have h3:=run33x p hf c h2 (chE_std k)
  have e : strX p c = ⟨thS p c.bd,newM p,buS p c.bd⟩:=by unfold strX; rw [if_pos h2]; rfl
  rw [e]
  generalize (⟨thS p c.bd,newM p,buS p c.bd⟩ : Sa) = s at *
  refine ce rfl ?_
  simp [h1,h3]
 ·have h3:=run33s p hf c h2 (chE_std k)
  have e : strX p c = ⟨thS p c.bd,newM p,[]⟩:=by unfold strX; rw [if_neg h2]; rfl
  rw [e]
  generalize (⟨thS p c.bd,newM p,[]⟩ : Sa) = s at *
  refine ce rfl ?_
  simp [h1,h3]
theorem run29 (p : Pg) (hf : Fit p) (c : Cf) (k : chE p c = 0) (s : Sa) (hs : Sb s) (a : Int) (hM : ∀ t E,effE s.me t E = 0 → Mb (effM s.me t E)) (hl : (stpS p c.bd (Go.Ex.part s) a).2.1.th.length < 1000000000) :
  K 29 [.dat (PD p),.dat (CD c),.dat (SX s),.dat (N a)] [] = some (oX (stp p c s a),[]):=by
 have h1:=run32 p hf c
 have h2:=run52 p hf c s hs a hM hl
 unfold chR at h1
 rw [if_pos k] at h1
 simp only [CD] at h1 ⊢
 unfold oX at h2 ⊢
 generalize stp p c s a = r at *
 obtain ⟨E,s',e'⟩:=r
 refine ce rfl ?_
 rcases Classical.propComplete (E = 0) with q | q
 ·simp [q] at h2
  simp [h1,h2,q]
 ·simp [q] at h2
  simp [h1,h2,q,noEv]
theorem run22e (p : Pg) (hf : Fit p) (c : Cf) (l : List Int) : K 22 [.dat (PD p),.dat (CD c),.dat (Ns l)] [] = some (outD (runE p c l),[]):=by
 have h : chE p c = 0 → K 45 [.dat (RD p c),.dat (Ns l)] [] = some (outD (if 512 < l.length then (4,[],noSa) else Go.Ex.run p c l [] (strX p c)),[]):=by
  intro k
  have k0:=chE_std k
  have hp:=(zvc7 k0).1
  by_cases hl : 512 < l.length
  ·rw [if_pos hl]
   exact run45l p hf c k0 l hl
  rw [if_neg hl]
  have H:=sts_N (c:=c) hp l (by omega)
  have he:=fun i => Nat.lt_of_le_of_lt (evN_len p c l i) (show l.length < 1000000 by omega)
  have e:=outR_run H
  have e0 : stN p c l 0 = strX p c:=rfl
  rw [← e0,← e]
  by_cases h2 : c.md = 2
  ·exact run45x p hf c h2 k0 l (by omega) _ _ H he (by rw [e0]; unfold strX; rw [if_pos h2]; rfl)
  ·exact run45s p hf c h2 k0 l (by omega) _ _ H he (by rw [e0]; unfold strX; rw [if_neg h2]; rfl)
 rw [run22 p hf c l _ h]
 unfold runE
 by_cases k : chE p c = 0
 ·simp only [k,if_true,ne_eq,not_true_eq_false,if_false]
 ·simp only [k,if_true,ne_eq,not_false_eq_true,if_false]
theorem scan_nil {α β : Type} {f : Nat → α → Option β} : ∀ {l : List α} {i : Nat},scan f l i = none → ∀ (j : Nat) (x : α),l[j]? = some x → f (i + j) x = none
 | [],i,h,j,x,hx => by simp at hx
 | y :: r,i,h,j,x,hx => by
  simp only [scan] at h
  cases c : f i y with
  | some b => rw [c] at h; cases h
  | none =>
   rw [c] at h
   cases j with
   | zero => simp only [List.getElem?_cons_zero,Option.some.injEq] at hx; rw [← hx]; exact c
   | succ j =>
    rw [List.getElem?_cons_succ] at hx
    rw [show i + (j + 1) = i + 1 + j by omega]
    exact scan_nil h j x hx
theorem scan_some {α β : Type} {f : Nat → α → Option β} : ∀ {l : List α} {i : Nat} {b : β},scan f l i = some b → ∃ (j : Nat) (x : α),l[j]? = some x ∧ f (i + j) x = some b
 | [],i,b,h => by cases h
 | y :: r,i,b,h => by
  simp only [scan] at h
  cases c : f i y with
  | some d => rw [c] at h; cases h; exact ⟨0,y,rfl,c⟩
  | none =>
   rw [c] at h
   obtain ⟨j,x,h1,h2⟩:=scan_some h
   exact ⟨j + 1,x,h1,by rw [show i + (j + 1) = i + 1 + j by omega]; exact h2⟩
theorem run_good {p : Pg} {c : Cf} {l : List Int} (h : (runE p c l).1 = 0) : chE p c = 0 ∧ l.length ≤ 512 ∧ ∀ (i : Nat) (a : Int),l[i]? = some a → (stp p c (stN p c l i) a).1 = 0:=by
 unfold runE at h
 split at h
 ·rename_i k; exact absurd h k
 rename_i k
 have k : chE p c = 0:=Decidable.not_not.1 k
 split at h
 ·simp at h
 rename_i hl
 refine ⟨k,by omega,fun i a hi => ?_⟩
 have hp:=(zvc7 (chE_std k)).1
 have H:=sts_N (c:=c) hp l (by omega)
 have e:=outR_run H
 have e0 : stN p c l 0 = strX p c:=rfl
 rw [← e0,← e] at h
 unfold outR at h
 cases q : scan (g115 p c (stN p c l) (evN p c l)) l 0 with
 | none =>
  have:=scan_nil q i a hi
  rw [Nat.zero_add] at this
  unfold g115 at this
  split at this
  ·assumption
  ·cases this
 | some b =>
  rw [q] at h
  obtain ⟨j,x,-,h2⟩:=scan_some q
  unfold g115 at h2
  split at h2
  ·cases h2
  ·rename_i k3
   cases h2
   exact absurd h k3
theorem ags_len (p : Pg) (c : Cf) (s : Sa) : (ags p c s).length ≤ s.th.length + s.bu.length:=by
 have hS : (agsS p s).length ≤ s.th.length:=List.length_filterMap_le _ _
 have hX : (agsX p s).length ≤ s.th.length + s.bu.length:=by
  unfold agsX
  rw [List.length_append]
  refine Nat.le_trans (Nat.add_le_add (List.length_filterMap_le _ _) (List.length_filterMap_le _ _)) ?_
  rw [List.length_reverse,List.length_zip]
  omega
 unfold ags
 split
 ·split
  ·exact hX
  ·simp
 ·split
  ·omega
  ·simp
def pre (p : Pg) (c : Cf) (l : List Int) : Nat → Bool
 | 0 => false
 | i + 1 => match l[i]?,l[i + 1]? with
  | some b,some a => decide (b ≠ a) && (ags p c (stN p c l (i + 1))).contains b
  | _,_ => false
def cnN (p : Pg) (c : Cf) (l : List Int) : Nat → Nat
 | 0 => 0
 | i + 1 => cnN p c l i + if pre p c l i = true then 1 else 0
theorem cnN_le (p : Pg) (c : Cf) (l : List Int) : ∀ i,cnN p c l i ≤ i
 | 0 => Nat.le_refl _
 | i + 1 => by
  have:=cnN_le p c l i
  unfold cnN
  split <;> omega
abbrev cbx (c : Cf) : TObj:=.plain (.box [.dat (N c.md),.dat (N c.bd)])
abbrev E13 (l : List Int) (n : Nat) (k : Nat) : Env:=[(2,.dat (Ns l)),(3,.ref ((4,0),0,0) 0),(4,.ref ((5,0),0,0) 0),(10,.ref ((11,0),0,0) 0),(11,.dat (N 0)),(12,.dat (N n)),(31,.dat (Ns l)),(32,.dat (N l.length)),(33,.dat (N k))]
abbrev X13 (p : Pg) (c : Cf) (s : Sa) : zta7:=[((4,0),pbx p),((5,0),cbx c),((11,0),sbx s)]
theorem loop13 (p : Pg) (hf : Fit p) (c : Cf) (l : List Int) (hr : (runE p c l).1 = 0) (s0 : St)
  (h0 : hd [2,3,4,10,11,12,31,32,33] [2,3,4,10,31] s0 = some ⟨E13 l 0 0,X13 p c (stN p c l 0)⟩) :
  Ev (zga7 (exec K l13_0) s0) (fun q => q.1 = .exit 0 ∧ hd [11,12] [] q.2 = some ⟨[(11,.dat (N 0)),(12,.dat (N (cnN p c l l.length)))],X13 p c (stN p c l l.length)⟩):=by
 obtain ⟨k,hl,hg⟩:=run_good hr
 have hp:=(zvc7 (chE_std k)).1
 have H:=sts_N (c:=c) hp l hl
 refine zjb7 (live:=[2,3,4,10,11,12,31,32,33]) (drop:=[2,3,4,10,31]) l (by omega) (fun k => ⟨E13 l (cnN p c l k) k,X13 p c (stN p c l k)⟩)
  (fun _ q => q.1 = .exit 0 ∧ hd [11,12] [] q.2 = some ⟨[(11,.dat (N 0)),(12,.dat (N (cnN p c l l.length)))],X13 p c (stN p c l l.length)⟩)
  (fun i y s h1 h2 h3 ix hs => ?_) (fun s hs => ?_) s0 h0
 ·have hst:=hg i y h1
  have hS:=(H.s i y h1 hst).1
  have h29:=run29 p hf c k (stN p c l i) (H.b i) y (H.m i) (H.h i y)
  have h24:=run24 p hf c (stN p c l i) (H.b i)
  rw [if_pos k] at h24
  unfold oX at h29
  rw [if_pos hst,← hS] at h29
  have hal:=ags_len p c (stN p c l i)
  have hb1:=(H.b i).th
  have hb2:=(H.b i).bu
  have h28:=fun x => run28 (ags p c (stN p c l i)) x (by omega)
  simp only [CD] at h24 h29
  have hcn:=cnN_le p c l i
  have il:=(List.getElem?_eq_some_iff.1 h1).1
  have wN : IntKind.wrap .i64 ((cnN p c l i : Int) + 1) = cnN p c l i + 1:=wrap_i64 (by omega) (by omega)
  have e : cnN p c l (i + 1) = cnN p c l i + if pre p c l i = true then 1 else 0:=rfl
  generalize (stp p c (stN p c l i) y).2.2 = ev at *
  cases i with
  | zero =>
   simp [pre] at e h29 hs
   simp [hs,h1,h2,h3,ix,il,h29,e]
  | succ j =>
   have j1 : j < l.length:=by omega
   have j2 : l[j]? = some l[j]:=by simp
   have j3 : (j : Int) < l.length:=by omega
   have j4 : (0 : Int) < (j : Int) + 1:=by omega
   have j5 : (j : Int) + 1 < l.length:=by omega
   have w2 : IntKind.wrap .i64 ((j : Int) + 1 + 1) = j + 1 + 1:=wrap_i64 (by omega) (by omega)
   have wj : IntKind.wrap .i64 (j : Int) = j:=wrap_i64 (by omega) (by omega)
   have e3 : pre p c l (j + 1) = (decide (l[j] ≠ y) && (ags p c (stN p c l (j + 1))).contains l[j]):=by simp only [pre,j2,h1]
   rw [e3] at e
   generalize ags p c (stN p c l (j + 1)) = L at *
   obtain ⟨b,hb⟩ : ∃ b,l[j] = b:=⟨_,rfl⟩
   rw [hb] at j2 e
   by_cases c1 : b = y
   ·simp [c1] at e
    simp [hs,h1,h2,h3,ix,h29,e,j1,j2,j3,j4,j5,wj,w2,hb,c1]
   ·cases c2 : L.contains b
    ·have h28:=h28 b
     rw [c2] at h28 e
     simp at e
     simp [hs,h1,h2,h3,ix,h29,h24,h28,e,j1,j2,j3,j4,j5,wj,w2,hb,c1]
    ·have h28:=h28 b
     rw [c2] at h28 e
     simp [c1] at e
     simp [hs,h1,h2,h3,ix,h29,h24,h28,e,j1,j2,j3,j4,j5,wj,w2,hb,c1,wN]
 ·simp [hs]
end Go.Am.E

set_option maxRecDepth 10000
set_option maxHeartbeats 16000000
namespace Go.Am.E
open Go.Proofs Go.Ex Go.Rc
theorem run13 (p : Pg) (hf : Fit p) (c : Cf) (l : List Int) : K 13 [.dat (PD p),.dat (CD c),.dat (Ns l)] [] =
  some (if (runE p c l).1 = 0 then .tup [.dat (N (cnN p c l l.length)),.dat (N 0)] else .tup [.dat (N 0),.dat (N (runE p c l).1)],[]):=by
 have h22:=run22e p hf c l
 unfold outD at h22
 simp only [CD] at h22 ⊢
 by_cases k : (runE p c l).1 = 0
 rotate_left
 ·rw [if_neg k]
  generalize runE p c l = r at *
  obtain ⟨E,es,s⟩:=r
  simp only at k h22 ⊢
  refine ce rfl ?_
  simp [h22,k]
 ·rw [if_pos k]
  obtain ⟨hc,hl,-⟩:=run_good k
  have h16:=run16 p hf c hc
  have hL:=loop13 p hf c l k
  have e0 : stN p c l 0 = strX p c:=rfl
  rw [e0] at hL
  simp only [CD] at h16
  generalize runE p c l = r at *
  obtain ⟨E,es,s⟩:=r
  simp only at k h22
  subst k
  refine ce rfl ?_
  simp [h22,h16]
  simp only [zaa7]
  refine (hL _ (by simp)).mono ?_
  rintro ⟨y,s⟩ ⟨rfl,hq⟩
  simp [hq]
def lesS (p : Pg) (c : Cf) (a b : List Int) : Bool :=
 if a.length ≠ b.length then decide (a.length < b.length)
 else if cnN p c a a.length ≠ cnN p c b b.length then decide (cnN p c a a.length < cnN p c b b.length)
 else decide (cmpX a b < 0)
theorem run6 (p : Pg) (hf : Fit p) (c : Cf) (a b : List Int) (ha : a.length < 100000000000) (hb : b.length < 100000000000) : K 6 [.dat (PD p),.dat (CD c),.dat (Ns a),.dat (Ns b)] [] =
  some (if (runE p c a).1 = 0 then (if (runE p c b).1 = 0 then .tup [.dat (.bool (lesS p c a b)),.dat (N 0)] else .tup [.dat (.bool false),.dat (N (runE p c b).1)]) else .tup [.dat (.bool false),.dat (N (runE p c a).1)],[]):=by
 have h1:=run13 p hf c a
 have h2:=run13 p hf c b
 have h3:=run14 a b ha hb
 unfold lesS
 simp only [CD] at h1 h2 ⊢
 generalize cnN p c a a.length = m at *
 generalize cnN p c b b.length = n at *
 generalize (runE p c a).1 = e at *
 generalize (runE p c b).1 = f at *
 by_cases k1 : e = 0
 rotate_left
 ·rw [if_neg k1] at h1 ⊢
  refine ce rfl ?_
  simp [h1,k1]
 rw [if_pos k1] at h1 ⊢
 by_cases k2 : f = 0
 rotate_left
 ·rw [if_neg k2] at h2 ⊢
  refine ce rfl ?_
  simp [h1,h2,k2]
 rw [if_pos k2] at h2 ⊢
 generalize cmpX a b = v at *
 refine ce rfl ?_
 by_cases k3 : a.length = b.length
 rotate_left
 ·have k3' : ¬ (a.length : Int) = b.length:=by omega
  simp [h1,h2,k3,k3']
 have k3' : (a.length : Int) = b.length:=by omega
 by_cases k4 : m = n
 rotate_left
 ·have k4' : ¬ (m : Int) = n:=by omega
  simp [h1,h2,k3,k3',k4,k4']
 have k4' : (m : Int) = n:=by omega
 simp [h1,h2,h3,k3,k3',k4,k4']
theorem cmpI_0 {a b : Int} : cmpI a b = 0 ↔ a = b:=by unfold cmpI; split <;> (try split) <;> omega
theorem cmpI_neg (a b : Int) : cmpI b a = -cmpI a b:=by unfold cmpI; split <;> split <;> (try split) <;> omega
theorem cmpX_neg : ∀ a b : List Int,a.length = b.length → cmpX b a = -cmpX a b
 | [],[],_ => rfl
 | x :: r,y :: s,h => by
  unfold cmpX
  rw [cmpI_neg x y]
  by_cases k : cmpI x y = 0
  ·rw [if_pos k,if_pos (by omega)]
   exact cmpX_neg r s (by simpa using h)
  ·rw [if_neg k,if_neg (by omega)]
theorem cmpX_0 : ∀ a b : List Int,a.length = b.length → cmpX a b = 0 → a = b
 | [],[],_,_ => rfl
 | x :: r,y :: s,h,h0 => by
  unfold cmpX at h0
  by_cases k : cmpI x y = 0
  ·rw [if_pos k] at h0
   rw [cmpI_0.1 k,cmpX_0 r s (by simpa using h) h0]
  ·rw [if_neg k] at h0; exact absurd h0 k
theorem les_eq {p : Pg} {c : Cf} {a b : List Int} (k : a.length = b.length) : lesS p c a b = if cnN p c a a.length = cnN p c b b.length then decide (cmpX a b < 0) else decide (cnN p c a a.length < cnN p c b b.length):=by
 unfold lesS
 rw [if_neg (show ¬ a.length ≠ b.length by omega)]
 by_cases h : cnN p c a a.length = cnN p c b b.length
 ·rw [if_pos h,if_neg (show ¬ cnN p c a a.length ≠ cnN p c b b.length by omega)]
 ·rw [if_neg h,if_pos h]
theorem les_total (p : Pg) (c : Cf) (a b : List Int) : (lesS p c a b != lesS p c b a) = !decide (a = b):=by
 by_cases k : a = b
 ·subst k; simp
 by_cases k1 : a.length = b.length
 rotate_left
 ·unfold lesS
  rw [if_pos k1,if_pos fun e => k1 e.symm]
  simp only [ne_eq,k,decide_false,Bool.not_false,bne_iff_ne,decide_eq_decide]
  omega
 rw [les_eq k1,les_eq k1.symm]
 by_cases k2 : cnN p c a a.length = cnN p c b b.length
 ·have k3 : cmpX a b ≠ 0:=fun e => k (cmpX_0 a b k1 e)
  have k4:=cmpX_neg a b k1
  rw [if_pos k2,if_pos k2.symm]
  simp only [ne_eq,k,decide_false,Bool.not_false,bne_iff_ne,decide_eq_decide]
  omega
 ·rw [if_neg k2,if_neg fun e => k2 e.symm]
  simp only [ne_eq,k,decide_false,Bool.not_false,bne_iff_ne,decide_eq_decide]
  omega
theorem les_half (p : Pg) (c : Cf) (b : List Int) : lesS p c (b.take (b.length / 2)) b = decide (0 < b.length):=by
 unfold lesS
 have h : (b.take (b.length / 2)).length = b.length / 2:=by rw [List.length_take]; omega
 rw [h]
 by_cases k : b = []
 ·subst k; rfl
 have k1 : 0 < b.length:=List.length_pos_iff.2 k
 rw [if_pos (by omega)]
 simp only [k1,decide_true,decide_eq_true_eq]
 omega
theorem run_take (p : Pg) (c : Cf) : ∀ (l r : List Int) (es : List Evt) (s : Sa),(Go.Ex.run p c (l ++ r) es s).1 = 0 → (Go.Ex.run p c l es s).1 = 0
 | [],r,es,s,h => rfl
 | a :: l,r,es,s,h => by
  rw [List.cons_append] at h
  unfold Go.Ex.run at h ⊢
  split at h
  ·rename_i k; exact absurd h k
  ·rename_i k
   rw [if_neg k]
   exact run_take p c l r _ _ h
theorem runE_take {p : Pg} {c : Cf} {l : List Int} (n : Nat) (h : (runE p c l).1 = 0) : (runE p c (l.take n)).1 = 0:=by
 unfold runE at h ⊢
 split at h
 ·rename_i k; exact absurd h k
 rename_i k
 rw [if_neg k]
 split at h
 ·simp at h
 rename_i k2
 rw [if_neg (by rw [List.length_take]; omega)]
 have : (Go.Ex.run p c (l.take n ++ l.drop n) [] (strX p c)).1 = 0:=by rw [List.take_append_drop]; exact h
 exact run_take p c _ _ _ _ this
abbrev JDl (p : Pg) (c : Cf) (a : List Int) : List Dat:=PDl p ++ [N c.md,N c.bd,Ns a]
theorem run5 : K 5 [] [] = some (.dat (.bool true),[]):=callT_law rfl (by simp [tblE,lawE,memoL,findM,argsEq])
theorem run3 (p : Pg) (c : Cf) (a b : List Int) : K 3 [.dat (.agg (JDl p c a)),.dat (Ns b)] [] = some (.dat (.bool true),[]):=by
 obtain ⟨sm,h4,hsm⟩:=run4 p c.bd
 have h5:=run5
 refine ce rfl ?_
 cases sm
 ·simp [h4,h5]
 by_cases ka : 30 < a.length
 ·have ka' : (30 : Int) < a.length:=by omega
  simp [h4,h5,ka']
 have ka' : ¬ (30 : Int) < a.length:=by omega
 by_cases kb : 30 < b.length
 ·have kb' : (30 : Int) < b.length:=by omega
  simp [h4,h5,ka',kb']
 have kb' : ¬ (30 : Int) < b.length:=by omega
 obtain ⟨g1,g2,g3,g4,g5,g6⟩:=hsm rfl
 have hf : Fit p:=⟨by omega,by omega,by omega,by omega,fun F hF => by have:=g6 F hF; omega⟩
 have h1:=run6 p hf c a b (by omega) (by omega)
 have h2:=run6 p hf c b a (by omega) (by omega)
 have hl : (b.take (b.length / 2)).length < 100000000000:=by rw [List.length_take]; omega
 have h6:=run6 p hf c (b.take (b.length / 2)) b hl (by omega)
 have h7:=run7 a b (by omega) (by omega)
 have ht:=les_total p c a b
 have hh:=les_half p c b
 have hT:=fun h => runE_take (p:=p) (c:=c) (l:=b) (b.length / 2) h
 rw [hh] at h6
 simp only [CD] at h1 h2 h6
 generalize lesS p c a b = x at *
 generalize lesS p c b a = y at *
 generalize (runE p c (b.take (b.length / 2))).1 = g at *
 generalize (runE p c a).1 = e at *
 generalize (runE p c b).1 = f at *
 by_cases k1 : e = 0
 rotate_left
 ·rw [if_neg k1] at h1
  by_cases k2 : f = 0
  ·rw [if_pos k2,if_neg k1] at h2
   simp [h4,h5,ka',kb',h1,h2,k1]
  ·rw [if_neg k2] at h2
   simp [h4,h5,ka',kb',h1,h2,k1]
 by_cases k2 : f = 0
 rotate_left
 ·rw [if_pos k1,if_neg k2] at h1
  rw [if_neg k2] at h2
  simp [h4,h5,ka',kb',h1,h2,k2]
 rw [if_pos k1,if_pos k2] at h1
 rw [if_pos k2,if_pos k1] at h2
 rw [if_pos (hT k2),if_pos k2] at h6
 have wq : IntKind.wrap .i64 ((b.length : Int) / 2) = (b.length : Int) / 2:=wrap_i64 (by omega) (by omega)
 have l1 : (0 : Int) ≤ (b.length : Int) / 2:=by omega
 have l2 : (b.length : Int) / 2 ≤ b.length:=by omega
 have l3 : ((b.length : Int) / 2).toNat = b.length / 2:=by omega
 rw [show Ns (b.take (b.length / 2)) = Dat.sl ((b.map N).take (b.length / 2)) by rw [← List.map_take]] at h6
 have l4 : (0 < (b.length : Int)) = (0 < b.length):=by simp
 generalize decide (a = b) = d at *
 cases x <;> cases y <;> cases d <;> first | (simp at ht; done) | simp [h4,h5,ka',kb',h1,h2,h7,wq,l1,l2,l3,h6]
end Go.Am.E

namespace Go.Proofs
open Go.Shelf
def TryzL.keys_ren : Go.Shelf.Ren:=⟨fun | 10 => 272 | n => n,fun | 33 => 124 | 23 => 360 | 0 => 0 | 4 => 4 | 26 => 3 | 3 => 4 | n => n,fun | n => n⟩
theorem TryzL.keys : Go.Proofs.SlLaysZI.n10 Tryz.prog TryzL.keys_ren:={
 mixed:=by kernel_rfl
 f10:=⟨Tryz.f272.name,by decide,Tryz.func272.trans (congrArg some (by kernel_rfl))⟩
 t0:=Tryz.underlying0
 a0:=Tryz.isAgg0
 z0:=Tryz.sizeOf0
 v0:=Tryz.zeroValue0
 t4:=Tryz.underlying4
 a4:=Tryz.isAgg4
 z4:=Tryz.sizeOf4
 v4:=Tryz.zeroValue4
 t23:=Tryz.underlying360
 a23:=Tryz.isAgg360
 z23:=Tryz.sizeOf360
 v23:=Tryz.zeroValue360
 t26:=Tryz.underlying3
 a26:=Tryz.isAgg3
 z26:=Tryz.sizeOf3
 v26:=Tryz.zeroValue3
 t33:=Tryz.underlying124
 a33:=Tryz.isAgg124
 z33:=Tryz.sizeOf124
 v33:=Tryz.zeroValue124 }
def TryzL.sorted_ren : Go.Shelf.Ren:=⟨fun | 6 => 252 | 8 => 271 | 9 => 61 | 11 => 284 | 13 => 98 | 12 => 97 | 23 => 161 | 24 => 162 | 14 => 152 | 15 => 153 | 16 => 154 | 17 => 155 | 18 => 156 | 19 => 157 | 20 => 158 | 21 => 159 | 22 => 160 | 25 => 224 | 26 => 225 | 27 => 226 | 28 => 227 | 29 => 228 | 30 => 86 | 31 => 265 | n => n,fun | 26 => 3 | 28 => 221 | 24 => 31 | 0 => 0 | 3 => 3 | 37 => 201 | 48 => 273 | 50 => 224 | 4 => 4 | 40 => 266 | 39 => 265 | 45 => 121 | 5 => 5 | 9 => 9 | 51 => 334 | 55 => 338 | 57 => 379 | 58 => 317 | 33 => 124 | n => n,fun | n => n⟩
theorem TryzL.sorted : Go.Proofs.SlLaysZI.n6 Tryz.prog TryzL.sorted_ren:={
 mixed:=by kernel_rfl
 f6:=⟨Tryz.f252.name,by decide,Tryz.func252.trans (congrArg some (by kernel_rfl))⟩
 f8:=⟨Tryz.f271.name,by decide,Tryz.func271.trans (congrArg some (by kernel_rfl))⟩
 f11:=⟨Tryz.f284.name,by decide,Tryz.func284.trans (congrArg some (by kernel_rfl))⟩
 t0:=Tryz.underlying0
 a0:=Tryz.isAgg0
 z0:=Tryz.sizeOf0
 v0:=Tryz.zeroValue0
 t24:=Tryz.underlying31
 a24:=Tryz.isAgg31
 z24:=Tryz.sizeOf31
 v24:=Tryz.zeroValue31
 t26:=Tryz.underlying3
 a26:=Tryz.isAgg3
 z26:=Tryz.sizeOf3
 v26:=Tryz.zeroValue3
 t28:=Tryz.underlying221
 a28:=Tryz.isAgg221
 z28:=Tryz.sizeOf221
 v28:=Tryz.zeroValue221
 i26:=by kernel_rfl }
def TryzL.sort_ren : Go.Shelf.Ren:=⟨fun | 5 => 61 | 8 => 98 | 7 => 97 | 19 => 161 | 20 => 162 | 10 => 152 | 11 => 153 | 12 => 154 | 13 => 155 | 14 => 156 | 15 => 157 | 16 => 158 | 17 => 159 | 18 => 160 | 30 => 224 | 31 => 225 | 32 => 226 | 33 => 227 | 34 => 228 | 35 => 86 | 40 => 265 | n => n,fun | 23 => 31 | 25 => 3 | 3 => 3 | 32 => 201 | 22 => 31 | 0 => 0 | 44 => 273 | 46 => 224 | 4 => 4 | 36 => 266 | 35 => 265 | 41 => 121 | 5 => 5 | 9 => 9 | 53 => 334 | 57 => 338 | 63 => 379 | 64 => 317 | n => n,fun | n => n⟩
theorem TryzL.sort : Go.Proofs.SlLaysM.n5 Tryz.prog TryzL.sort_ren:={
 mixed:=by kernel_rfl
 f5:=⟨Tryz.f61.name,by decide,Tryz.func61.trans (congrArg some (by kernel_rfl))⟩
 f7:=⟨Tryz.f97.name,by decide,Tryz.func97.trans (congrArg some (by kernel_rfl))⟩
 f8:=Tryz.func98.trans (congrArg some (by kernel_rfl))
 f10:=⟨Tryz.f152.name,by decide,Tryz.func152.trans (congrArg some (by kernel_rfl))⟩
 f11:=⟨Tryz.f153.name,by decide,Tryz.func153.trans (congrArg some (by kernel_rfl))⟩
 f12:=⟨Tryz.f154.name,by decide,Tryz.func154.trans (congrArg some (by kernel_rfl))⟩
 f13:=⟨Tryz.f155.name,by decide,Tryz.func155.trans (congrArg some (by kernel_rfl))⟩
 f14:=⟨Tryz.f156.name,by decide,Tryz.func156.trans (congrArg some (by kernel_rfl))⟩
 f15:=⟨Tryz.f157.name,by decide,Tryz.func157.trans (congrArg some (by kernel_rfl))⟩
 f16:=⟨Tryz.f158.name,by decide,Tryz.func158.trans (congrArg some (by kernel_rfl))⟩
 f17:=⟨Tryz.f159.name,by decide,Tryz.func159.trans (congrArg some (by kernel_rfl))⟩
 f18:=⟨Tryz.f160.name,by decide,Tryz.func160.trans (congrArg some (by kernel_rfl))⟩
 f19:=Tryz.func161.trans (congrArg some (by kernel_rfl))
 f20:=Tryz.func162.trans (congrArg some (by kernel_rfl))
 f30:=⟨Tryz.f224.name,by decide,Tryz.func224.trans (congrArg some (by kernel_rfl))⟩
 f31:=Tryz.func225.trans (congrArg some (by kernel_rfl))
 f32:=Tryz.func226.trans (congrArg some (by kernel_rfl))
 f33:=⟨Tryz.f227.name,by decide,Tryz.func227.trans (congrArg some (by kernel_rfl))⟩
 f34:=⟨Tryz.f228.name,by decide,Tryz.func228.trans (congrArg some (by kernel_rfl))⟩
 f35:=⟨Tryz.f86.name,by decide,Tryz.func86.trans (congrArg some (by kernel_rfl))⟩
 f40:=⟨Tryz.f265.name,by decide,Tryz.func265.trans (congrArg some (by kernel_rfl))⟩
 t0:=Tryz.underlying0
 a0:=Tryz.isAgg0
 z0:=Tryz.sizeOf0
 v0:=Tryz.zeroValue0
 t3:=Tryz.underlying3
 a3:=Tryz.isAgg3
 z3:=Tryz.sizeOf3
 v3:=Tryz.zeroValue3
 t4:=Tryz.underlying4
 a4:=Tryz.isAgg4
 z4:=Tryz.sizeOf4
 v4:=Tryz.zeroValue4
 t5:=Tryz.underlying5
 a5:=Tryz.isAgg5
 z5:=Tryz.sizeOf5
 v5:=Tryz.zeroValue5
 t9:=Tryz.underlying9
 a9:=Tryz.isAgg9
 z9:=Tryz.sizeOf9
 v9:=Tryz.zeroValue9
 t22:=Tryz.underlying31
 a22:=Tryz.isAgg31
 z22:=Tryz.sizeOf31
 v22:=Tryz.zeroValue31
 t23:=Tryz.underlying31
 a23:=Tryz.isAgg31
 z23:=Tryz.sizeOf31
 v23:=Tryz.zeroValue31
 t25:=Tryz.underlying3
 a25:=Tryz.isAgg3
 z25:=Tryz.sizeOf3
 v25:=Tryz.zeroValue3
 t32:=Tryz.underlying201
 a32:=Tryz.isAgg201
 z32:=Tryz.sizeOf201
 v32:=Tryz.zeroValue201
 t35:=Tryz.underlying265
 a35:=Tryz.isAgg265
 z35:=Tryz.sizeOf265
 v35:=Tryz.zeroValue265
 t36:=Tryz.underlying266
 a36:=Tryz.isAgg266
 z36:=Tryz.sizeOf266
 v36:=Tryz.zeroValue266
 t41:=Tryz.underlying121
 a41:=Tryz.isAgg121
 z41:=Tryz.sizeOf121
 v41:=Tryz.zeroValue121
 t44:=Tryz.underlying273
 a44:=Tryz.isAgg273
 z44:=Tryz.sizeOf273
 v44:=Tryz.zeroValue273
 t46:=Tryz.underlying224
 a46:=Tryz.isAgg224
 z46:=Tryz.sizeOf224
 v46:=Tryz.zeroValue224
 t53:=Tryz.underlying334
 a53:=Tryz.isAgg334
 z53:=Tryz.sizeOf334
 v53:=Tryz.zeroValue334
 t57:=Tryz.underlying338
 a57:=Tryz.isAgg338
 z57:=Tryz.sizeOf338
 v57:=Tryz.zeroValue338
 t63:=Tryz.underlying379
 a63:=Tryz.isAgg379
 z63:=Tryz.sizeOf379
 v63:=Tryz.zeroValue379
 t64:=Tryz.underlying317
 a64:=Tryz.isAgg317
 z64:=Tryz.sizeOf317
 v64:=Tryz.zeroValue317 }
end Go.Proofs

namespace Go.Am
open Go.Proofs Go.Sort Go.Shelf
def putL : Nat → List Value → Array Value → Array Value
 | _,[],c => c
 | o,v :: r,c => putL (o + 1) r (c.setIfInBounds o v)
theorem putL_get : ∀ (vs : List Value) (o : Nat) (c : Array Value) (k : Nat),(putL o vs c)[k]? = if o ≤ k ∧ k < o + vs.length ∧ k < c.size then vs[k - o]? else c[k]?
 | [],o,c,k => by
  rw [if_neg (by simp; omega)]
  rfl
 | v :: r,o,c,k => by
  rw [putL,putL_get r (o + 1),Array.size_setIfInBounds,Array.getElem?_setIfInBounds]
  by_cases h : o = k
  ·subst h
   rw [if_neg (by omega),if_pos rfl]
   by_cases h2 : o < c.size
   ·rw [if_pos h2,if_pos ⟨Nat.le_refl _,by simp,h2⟩]
    simp
   ·rw [if_neg h2,if_neg fun e => h2 e.2.2]
    symm
    simp
    omega
  ·rw [if_neg h]
   by_cases h2 : o + 1 ≤ k ∧ k < o + 1 + r.length ∧ k < c.size
   ·rw [if_pos h2,if_pos (by simp; omega),show k - o = (k - (o + 1)) + 1 by omega,List.getElem?_cons_succ]
   ·rw [if_neg h2,if_neg (by simp; omega)]
theorem setCells_map (b : Nat) : ∀ (vs : List Value) (o : Nat) (w : World),w.setCells b o vs = mapBlock w b (putL o vs)
 | [],o,w => by
  unfold World.setCells mapBlock
  have : (onCells (putL o [])) = id:=by
   funext x
   cases x <;> rfl
  rw [this]
  have h : w.heap.modify b id = w.heap:=by
   apply Array.ext_getElem?
   intro k
   rw [Array.getElem?_modify]
   split
   ·cases w.heap[k]? <;> rfl
   ·rfl
  rw [h]
 | v :: r,o,w => by
  rw [World.setCells,setCell_eq,setCells_map b r (o + 1),mapBlock_mapBlock]
  rfl
theorem setCells_putRow' {α : Type} [Inhabited α] (enc : α → Value) (l : List α) (b o : Nat) (w : World) : w.setCells b o (l.map enc) = putRow enc w b o l.toArray:=by
 rw [setCells_map]
 unfold putRow
 congr 1
 funext c
 apply Array.ext_getElem?
 intro k
 rw [putL_get]
 unfold putCells
 rw [Array.getElem?_mapIdx]
 by_cases h2 : k < c.size
 ·have e : c[k]? = some c[k]:=by simp
  rw [e]
  simp only [Option.map_some,List.length_map,List.size_toArray,h2,and_true]
  by_cases h : o ≤ k ∧ k < o + l.length
  ·rw [if_pos h,if_pos h,List.getElem?_map]
   have h3 : k - o < l.length:=by omega
   rw [List.getElem?_eq_getElem h3]
   simp [h3]
  ·rw [if_neg h,if_neg h]
 ·rw [if_neg (by omega)]
  have e : c[k]? = none:=by simp; omega
  rw [e]
  rfl
theorem intsD_eq : ∀ {es : List Dat} {l : List Int},intsD es = some l → es = l.map fun n => .int .i64 n
 | [],l,h => by cases h; rfl
 | d :: r,l,h => by
  cases d with
  | int k n =>
   cases k with
   | i64 =>
    simp only [intsD] at h
    cases hr : intsD r with
    | none => rw [hr] at h; cases h
    | some m =>
     rw [hr] at h
     simp only [Option.map_some,Option.some.injEq] at h
     subst h
     rw [intsD_eq hr]
     rfl
   | _ => simp [intsD] at h
  | _ => simp [intsD] at h
theorem sort_ms (l : List Int) : l.mergeSort (fun x y => decide (x ≤ y)) = sortS l:=by
 refine pw_uniq ?_ (sortS_pw l) ((List.mergeSort_perm l _).trans (zxb7 l).symm)
 have:=List.pairwise_mergeSort (le:=fun x y : Int => decide (x ≤ y)) (fun a b c h1 h2 => by simp at *; omega) (fun a b => by simp; omega) l
 exact this.imp fun h => by simpa using h
theorem keptB (w w' : World) (h : RowKit.Below w.heap.size w w') (hf : ∀ a,a.block < w.heap.size → w'.frozen? a = w.frozen? a) (T : Cells) : Kept w w' T :=
 ⟨⟨h.os,h.output,fun i hi => by rw [h.block i hi]; exact (World.keptBut_refl w _).2.2 i hi⟩,hf,h.size⟩
theorem frozen_grow (w : World) (os : Array Go.Obj) {a : Addr} (h : a.block < w.heap.size) : (grow w os).frozen? a = w.frozen? a:=by
 unfold World.frozen? grow
 simp only
 rw [Array.getElem?_append_left h]
theorem flat_ints (F : Froz) : ∀ l : List Int,FlatD F 1 (l.map fun n => Dat.int .i64 n) (l.map (Value.int .i64))
 | [] => rfl
 | n :: r => ⟨[.int .i64 n],_,rfl,rfl,by simp [RepD],flat_ints F r⟩
theorem sortE_ok : zpd7 Tryz.prog (sortE 61):=by
 intro f args os v os' h
 unfold sortE at h
 split at h
 rotate_left
 ·cases h
 rename_i hf
 subst hf
 split at h
 ·rename_i ver len ver' es
  split at h
  rotate_left
  ·cases h
  rename_i l hl
  split at h
  rotate_left
  ·cases h
  rename_i hc
  obtain ⟨rfl,rfl,hbd⟩:=hc
  simp only [Option.some.injEq,Prod.mk.injEq] at h
  obtain ⟨rfl,rfl⟩:=h
  refine .inl ⟨by decide,by kernel_rfl,?_⟩
  intro C vals hρ hG hI hr
  have hes:=intsD_eq hl
  have hln : es.length = l.length:=by rw [hes,List.length_map]
  have hρ0 : C.ρ ((0,0),0,0) = some (.arr 1 ver false es):=by rw [hρ]; simp [flat,zhb7,flatR]
  simp only [RepL,RepA] at hr
  obtain ⟨c,cs',e1,⟨A,p,cap,a1,a2,e2,a4,a5,a6⟩,e3⟩:=hr
  subst e3
  have hA : A = ⟨ver,1,es.length,C.μ ((0,0),0,0)⟩:=by simpa [arrAt,hρ0] using a1.symm
  subst hA
  obtain ⟨-,-,g3,g4⟩:=a6 rfl
  obtain ⟨o1,-,o3,-⟩:=hI.objs _ _ hρ0
  obtain ⟨own,oel⟩:=o3 rfl
  have hvals : vals = #[.slice p es.length cap]:=by
   apply Array.ext'
   rw [e1,e2]
  rw [hvals]
  rcases Nat.eq_zero_or_pos es.length with hz | hz
  ·have h0 : es = []:=List.eq_nil_of_length_eq_zero hz
   have hl0 : l = []:=List.eq_nil_of_length_eq_zero (by omega)
   subst h0
   subst hl0
   refine (AnyM.slices_Sort_int_none TryzL.sort p cap C.w).mono ?_
   rintro e w' ⟨rfl,rfl⟩
   exact ⟨_,C,rfl,rfl,hρ,hI,by simp [RepA,RepL],fun b o v h => h,fun id L _ h => h,fun id A _ h => ⟨A,h,Nat.le_refl _,fun _ => ⟨rfl,rfl,Nat.le_refl _⟩⟩,fun id b _ h => h⟩
  ·have hp:=g4 (by omega)
   subst hp
   generalize hL : C.μ ((0,0),0,0) = L at *
   have hcell : ∀ j (hj : j < l.length),C.w.cell? ⟨L.b,L.o + j,none⟩ = some (.int .i64 l[j]):=by
    intro j hj
    have hd : es[j]? = some (.int .i64 l[j]):=by rw [hes]; simp [hj]
    obtain ⟨cs,q1,q2,q3⟩:=oel j _ hd
    simp only [RepD] at q2
    subst q2
    have:=q3 0 _ rfl
    simpa using this
   have hH : Holds (Value.int .i64) C.w (L.b) (L.o + 0 * 1) l.toArray:=by
    intro j hj
    have hj' : j < l.length:=by simpa using hj
    have h1:=hcell j hj'
    obtain ⟨-,h2,-⟩:=own j (by rw [g3]; omega)
    refine ⟨?_,by simpa using h2⟩
    rw [show L.o + 0 * 1 + j = L.o + j by omega,h1]
    simp [hj']
   have hblk : L.b < C.w.heap.size:=by
    have:=World.block_lt_of_cell? _ _ (hcell 0 (by omega))
    simpa using this
   rw [hln]
   refine (AnyM.slices_Sort_int TryzL.sort L.b (L.o + 0 * 1) cap l C.w hH hblk (by omega)).mono ?_
   rintro e w' ⟨rfl,n,gs,rfl⟩
   have hft:=flat_ints C.F (sortS l)
   obtain ⟨hfit,hI1,hG1⟩:=arr_write hI hρ0 hft (off:=0) (by simp [(zxb7 l).length_eq]; omega)
   rw [hL] at hI1 hG1
   have hw : C.w.setCells L.b (L.o + 0 * 1) ((sortS l).map (Value.int .i64)) = putRow (Value.int .i64) C.w L.b (L.o + 0 * 1) (sortS l).toArray:=setCells_putRow' _ _ _ _ _
   rw [hw] at hI1 hG1
   rw [sort_ms]
   generalize hw1 : putRow (Value.int .i64) C.w L.b (L.o + 0 * 1) (sortS l).toArray = w1 at *
   have hw2 : grow (putRow (Value.int .i64) (Go.Sort.ahead C.w n) L.b (L.o + 0 * 1) (sortS l).toArray) gs = grow (Go.Sort.ahead w1 n) gs:=by rw [← hw1]; rfl
   rw [hw2]
   have hk : Kept w1 (grow (Go.Sort.ahead w1 n) gs) (fun _ _ => False):=keptB w1 (grow (Go.Sort.ahead w1 n) gs) ⟨rfl,rfl,rfl,by simp [grow,Go.Sort.ahead],fun k hk => by
    show ((Go.Sort.ahead w1 n).heap ++ gs)[k]? = w1.heap[k]?
    rw [Array.getElem?_append_left (by simpa [Go.Sort.ahead] using hk)]
    rfl⟩ (fun a ha => by rw [frozen_grow (Go.Sort.ahead w1 n) gs (by simpa [Go.Sort.ahead] using ha)]; rfl) _
   obtain ⟨hI2,hG2⟩:=hI1.plain (C':={ w:=grow (Go.Sort.ahead w1 n) gs,F:=C.F,μ:=C.μ,ρ:=updL C.ρ [(((0,0),0,0),.arr 1 ver false (splice es 0 ((sortS l).map fun n => Dat.int .i64 n)))] }) hk (fun _ _ _ h => h) (fun b o v h => .inl h) (fun b o v h e => by simp only at h e; rw [e] at h; cases h) rfl rfl
   have hG:=hG1.trans hG2
   refine ⟨_,_,rfl,rfl,?_,hI2,by simp [RepA,RepL],hG.F,fun id L _ h => hG.box id L trivial h,fun id A _ h => hG.arr id A trivial h,fun id b _ h => hG.blk id b trivial h⟩
   have hsp : splice es 0 ((sortS l).map fun n => Dat.int .i64 n) = (sortS l).map fun n => Dat.int .i64 n:=by
    unfold splice
    rw [List.take_zero,List.nil_append,List.length_map,(zxb7 l).length_eq,List.drop_eq_nil_of_le (by omega),List.append_nil]
   rw [hsp,hρ]
   funext ⟨⟨a,b⟩,c,d⟩
   simp only [updL,flat,zhb7]
   by_cases ha : a = 0
   ·subst ha
    cases b with
    | zero =>
     simp only [if_true,List.getElem?_cons_zero,flatR]
     by_cases hc : c = 0 ∧ d = 0
     ·obtain ⟨rfl,rfl⟩:=hc
      simp
     ·rw [if_neg hc,if_neg hc,if_neg]
      simp only [Prod.mk.injEq,true_and]
      exact fun e => hc ⟨e.1.symm,e.2.symm⟩
    | succ b => simp
   ·rw [if_neg (by simp [ha,Ne.symm ha])]
    simp [ha]
 ·simp only [Option.some.injEq,Prod.mk.injEq] at h
  obtain ⟨rfl,rfl⟩:=h
  refine .inl ⟨by decide,by kernel_rfl,?_⟩
  intro C vals hρ hG hI hr
  simp only [RepL,RepA] at hr
  obtain ⟨c,cs',e1,⟨p,e2⟩,e3⟩:=hr
  subst e3
  have hvals : vals = #[.slice p 0 0]:=by
   apply Array.ext'
   rw [e1,e2]
  rw [hvals]
  refine (AnyM.slices_Sort_int_none TryzL.sort p 0 C.w).mono ?_
  rintro e w' ⟨rfl,rfl⟩
  exact ⟨_,C,rfl,rfl,hρ,hI,by simp [RepA,RepL],fun b o v h => h,fun id L _ h => h,fun id A _ h => ⟨A,h,Nat.le_refl _,fun _ => ⟨rfl,rfl,Nat.le_refl _⟩⟩,fun id b _ h => h⟩
 ·cases h
end Go.Am
