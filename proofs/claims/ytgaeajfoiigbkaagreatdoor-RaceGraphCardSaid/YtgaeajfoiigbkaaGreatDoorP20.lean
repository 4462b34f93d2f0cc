/- Parts of the proofs of the statement, joined and made short: WB G30 G31 G32 G33 G34. -/
import Derived.Test.YtgaeajfoiigbkaaGreatDoorP16
import Derived.Test.YtgaeajfoiigbkaaGreatDoorP17
import Derived.Test.YtgaeajfoiigbkaaGreatDoorP18
import Derived.Test.YtgaeajfoiigbkaaGreatDoorP19
import Derived.Test.YtgaeajfoiigbkaaGreatDoorP15
set_option linter.unusedVariables false
set_option linter.unusedSimpArgs false
set_option linter.unusedSectionVars false
set_option maxRecDepth 10000
set_option maxHeartbeats 2000000
namespace Go.Am.E
open Go.Proofs Go.Rc
theorem run72 (e : Evt) : K 72 [.dat e.dat] [] = some (.dat (.bool (vld e)),[]):=by
 obtain ⟨ag,idx,kind,obj,mux,ent,ord,rd,wr⟩:=e
 by_cases h : 1 ≤ kind ∧ kind ≤ 17
 ·have : kind = 1 ∨ kind = 2 ∨ kind = 3 ∨ kind = 4 ∨ kind = 5 ∨ kind = 6 ∨ kind = 7 ∨ kind = 8 ∨ kind = 9 ∨ kind = 10 ∨ kind = 11 ∨ kind = 12 ∨ kind = 13 ∨ kind = 14 ∨ kind = 15 ∨ kind = 16 ∨ kind = 17:=by omega
  rcases this with rfl | rfl | rfl | rfl | rfl | rfl | rfl | rfl | rfl | rfl | rfl | rfl | rfl | rfl | rfl | rfl | rfl
  ·exact v72_1 ..
  ·exact v72_2 ..
  ·exact v72_3 ..
  ·exact v72_4 ..
  ·exact v72_5 ..
  ·exact v72_6 ..
  ·exact v72_7 ..
  ·exact v72_8 ..
  ·exact v72_9 ..
  ·exact v72_10 ..
  ·exact v72_11 ..
  ·exact v72_12 ..
  ·exact v72_13 ..
  ·exact v72_14 ..
  ·exact v72_15 ..
  ·exact v72_16 ..
  ·exact v72_17 ..
 ·rw [vf (by unfold VP; simp only; omega)]
  refine zha7 (fn:=fn72) rfl rfl ?_
  by_cases h1 : kind < 1
  ·simp [zja7,Evt.cells,h1]
  ·have h2 : 17 < kind:=by omega
   simp [zja7,Evt.cells,h1,h2]
end Go.Am.E

set_option maxRecDepth 10000
set_option maxHeartbeats 4000000
namespace Go.Am.E
open Go.Proofs Go.Rc Go.Rg
attribute [local simp] Evt.cells
def MC (s : List (Int × Nat)) : List (Dat × AVal):=s.map fun p => (Nn p.1,.dat (Nn p.2))
def ixC (a : Int) : List (Int × Nat) → Option Nat
 | [] => none
 | q :: r => if q.1 = a then some 0 else (ixC a r).map (· + 1)
theorem find_C (a : Int) : ∀ s : List (Int × Nat),findE false [.int .i64] (.int .i64 a) (MC s) = some (ixC a s)
 | [] => rfl
 | (c,d) :: r => by
  have ih:=find_C a r
  simp only [MC,List.map_cons,findE,ixC] at ih ⊢
  by_cases h1 : c = a
  ·subst h1; simp [zea7,zxa7]
  ·have h1' : ¬ a = c:=fun e => h1 e.symm
   simp [zea7,zxa7,h1,h1']
   rw [ih]
   cases ixC a r <;> rfl
def getC (a : Int) : List (Int × Nat) → Nat
 | [] => 0
 | q :: r => if q.1 = a then q.2 else getC a r
def incC (a : Int) : List (Int × Nat) → List (Int × Nat)
 | [] => [(a,1)]
 | q :: r => if q.1 = a then (a,q.2 + 1) :: r else q :: incC a r
theorem ixC_none {a : Int} : ∀ {s : List (Int × Nat)},ixC a s = none → getC a s = 0 ∧ incC a s = s ++ [(a,1)]
 | [],_ => ⟨rfl,rfl⟩
 | q :: r,h => by
  simp only [ixC] at h
  split at h
  ·cases h
  ·rename_i e
   obtain ⟨h1,h2⟩:=ixC_none (s:=r) (by simpa using h)
   simp only [getC,incC,if_neg e,h1,h2]
   exact ⟨trivial,rfl⟩
theorem ixC_some {a : Int} : ∀ {s : List (Int × Nat)} {j : Nat},ixC a s = some j → s[j]? = some (a,getC a s) ∧ incC a s = s.set j (a,getC a s + 1)
 | [],j,h => by simp [ixC] at h
 | q :: r,j,h => by
  simp only [ixC] at h
  split at h
  ·rename_i e
   cases h
   subst e
   simp [getC,incC]
  ·rename_i e
   obtain ⟨i,hi,rfl⟩:=Option.map_eq_some_iff.1 h
   obtain ⟨h1,h2⟩:=ixC_some hi
   simp [getC,incC,e,h1,h2]
theorem getC_inc (a b : Int) : ∀ s : List (Int × Nat),getC b (incC a s) = if a = b then getC b s + 1 else getC b s
 | [] => by simp [incC,getC]
 | q :: r => by
  have ih:=getC_inc a b r
  simp only [incC]
  split
  ·rename_i e
   simp only [getC,e]
   split <;> simp_all
  ·rename_i e
   simp only [getC,ih]
   split
   ·rename_i e2
    rw [if_neg (fun e3 => e (by rw [e2,e3]))]
   ·rfl
theorem MC_get {a : Int} {s : List (Int × Nat)} {j : Nat} (h : ixC a s = some j) : (MC s)[j]? = some (Nn a,.dat (Nn (getC a s))):=by
 simp [MC,(ixC_some h).1]
theorem MC_new {a : Int} {s : List (Int × Nat)} (h : ixC a s = none) : MC s ++ [(.int .i64 a,.dat (.int .i64 1))] = MC (incC a s):=by
 rw [(ixC_none h).2]; simp [MC]
theorem MC_set {a : Int} {s : List (Int × Nat)} {j : Nat} (h : ixC a s = some j) : (MC s).set j (.int .i64 a,.dat (.int .i64 ((getC a s : Int) + 1))) = MC (incC a s):=by
 rw [(ixC_some h).2]; simp [MC,List.map_set]
@[simp] theorem MC_ids (s : List (Int × Nat)) : AVal.idsL ((MC s).map fun x => x.2) = []:=by
 induction s with
 | nil => rfl
 | cons p r ih => simp only [MC,List.map_cons,AVal.idsL,AVal.ids] at ih ⊢; rw [ih]; rfl
@[simp] theorem MC_ren (f : Id → Id) (s : List (Int × Nat)) : (MC s).map (fun p => (p.1,p.2.ren f)) = MC s:=by
 unfold MC; rw [List.map_map]; rfl
def cm (es : List Evt) (k : Nat) : List (Int × Nat):=(es.take k).foldl (fun s x => incC x.ag s) []
theorem cm_succ {es : List Evt} {k : Nat} {x : Evt} (h : es[k]? = some x) : cm es (k + 1) = incC x.ag (cm es k):=by
 simp [cm,List.take_add_one,h]
theorem numE_succ {es : List Evt} {k : Nat} {x : Evt} {t : Int} (h : es[k]? = some x) : numE es t (k + 1) = if x.ag = t then numE es t k + 1 else numE es t k:=by
 simp only [numE,List.take_add_one,h,Option.toList_some,List.filter_append,List.length_append]
 by_cases e : x.ag = t <;> simp [e]
theorem cm_get (es : List Evt) (t : Int) : ∀ k,k ≤ es.length → getC t (cm es k) = numE es t k
 | 0,_ => by simp [cm,getC,numE]
 | k + 1,h => by
  have hx:=List.getElem?_eq_getElem (l:=es) (i:=k) (by omega)
  rw [cm_succ hx,numE_succ hx,getC_inc,cm_get es t k (by omega)]
theorem run147 (es : List Evt) (m : Nat) (hn : es.length ≤ 64) (hm : m < 1000) :
  K 147 [.dat (.sl (es.map Evt.dat)),.dat (Nn m)] [] = some (.dat (.bool (allI (evB es m) es 0)),[]):=ce rfl (by
 simp
 simp only [zca7]
 refine (zwc7 (live:=[1,5,9,10,11]) (drop:=[5,9]) es (by omega) (fun k => ⟨[(1,.dat (Nn m)),(5,.bref false ((6,0),0,0)),(9,.dat (.sl (es.map Evt.dat))),(10,.dat (Nn es.length)),(11,.dat (Nn k))],[((6,0),.plain (.blk (.map (MC (cm es k)))))]⟩)
  (fun k => bQ (fun q => q.1 = .exit 0 ∧ ∃ os,hd [] [] q.2 = some ⟨[],os⟩) (RQ 4) (allI (evB es m) (es.drop k) k)) (fun i x s g1 g2 g3 ix hs => ?_) (fun s hs => ?_) _ (by simp [cm,MC])).mono ?_
 ·have hdr:=zcf7 (f:=evB es m) g1
  have hi:=(zkc7 g1).2.2
  have h1:=run72 x
  have h3:=run111 x
  have h4:=run148 x
  have hg:=cm_get es x.ag i (by omega)
  have hsu:=cm_succ g1
  have hle:=numE_le es x.ag i
  have ixc : Ix (numE es x.ag i):=by unfold Ix; omega
  have hev:=evB_eq es m i x
  generalize vld x = v at *
  generalize rdE x = r at *
  generalize wrE x = w at *
  generalize numE es x.ag i = c at *
  generalize cm es i = s0 at *
  obtain ⟨ag,idx,kind,obj,mux,ent,ord,rd,wr⟩:=x
  simp only [Evt.dat,Evt.cells] at h1 h3 h4
  dsimp only at hev hg hsu
  cases v with
  | false => simp at hev; simp [hs,hdr,hev,g1,g2,g3,ix,h1]
  | true =>
   by_cases e3 : kind = 3
   ·subst e3; simp at hev; simp [hs,hdr,hev,g1,g2,g3,ix,h1]
   by_cases e4 : kind = 4
   ·subst e4; simp at hev; simp [hs,hdr,hev,g1,g2,g3,ix,h1]
   by_cases e5 : ent = -1
   ·subst e5
    cases hx : ixC ag s0 with
    | none =>
     have hc0:=(ixC_none hx).1
     rw [hg] at hc0
     subst hc0
     have hnew:=MC_new hx
     rw [← hsu] at hnew
     by_cases e6 : idx = 0
     ·subst e6
      cases r with
      | true =>
       by_cases e7 : (m : Int) ≤ obj
       ·simp [e3,e4,e7] at hev; simp [hs,hdr,hev,g1,g2,g3,ix,h1,h3,h4,e3,e4,e7,lkpE,mupE,keyE,find_C,hx,zeroV,zea7,zxa7,hnew]
       ·simp [e3,e4,e7] at hev; simp [hs,hdr,hev,g1,g2,g3,ix,h1,h3,h4,e3,e4,e7,lkpE,mupE,keyE,find_C,hx,zeroV,zea7,zxa7,hnew]
      | false =>
       cases w with
       | true =>
        by_cases e7 : (m : Int) ≤ obj
        ·simp [e3,e4,e7] at hev; simp [hs,hdr,hev,g1,g2,g3,ix,h1,h3,h4,e3,e4,e7,lkpE,mupE,keyE,find_C,hx,zeroV,zea7,zxa7,hnew]
        ·simp [e3,e4,e7] at hev; simp [hs,hdr,hev,g1,g2,g3,ix,h1,h3,h4,e3,e4,e7,lkpE,mupE,keyE,find_C,hx,zeroV,zea7,zxa7,hnew]
       | false =>
        simp [e3,e4] at hev; simp [hs,hdr,hev,g1,g2,g3,ix,h1,h3,h4,e3,e4,lkpE,mupE,keyE,find_C,hx,zeroV,zea7,zxa7,hnew]
     ·simp [e3,e4,e6] at hev; simp [hs,hdr,hev,g1,g2,g3,ix,h1,h3,h4,e3,e4,e6,lkpE,mupE,keyE,find_C,hx,zeroV,zea7,zxa7,hnew]
    | some j =>
     have hget:=MC_get hx
     have hset:=MC_set hx
     rw [← hsu,hg] at hset
     rw [hg] at hget
     by_cases e6 : idx = c
     ·subst e6
      cases r with
      | true =>
       by_cases e7 : (m : Int) ≤ obj
       ·simp [e3,e4,e7] at hev; simp [hs,hdr,hev,g1,g2,g3,ix,ixc,h1,h3,h4,e3,e4,e7,lkpE,mupE,keyE,find_C,hx,zeroV,zea7,zxa7,hget,hset]
       ·simp [e3,e4,e7] at hev; simp [hs,hdr,hev,g1,g2,g3,ix,ixc,h1,h3,h4,e3,e4,e7,lkpE,mupE,keyE,find_C,hx,zeroV,zea7,zxa7,hget,hset]
      | false =>
       cases w with
       | true =>
        by_cases e7 : (m : Int) ≤ obj
        ·simp [e3,e4,e7] at hev; simp [hs,hdr,hev,g1,g2,g3,ix,ixc,h1,h3,h4,e3,e4,e7,lkpE,mupE,keyE,find_C,hx,zeroV,zea7,zxa7,hget,hset]
        ·simp [e3,e4,e7] at hev; simp [hs,hdr,hev,g1,g2,g3,ix,ixc,h1,h3,h4,e3,e4,e7,lkpE,mupE,keyE,find_C,hx,zeroV,zea7,zxa7,hget,hset]
       | false =>
        simp [e3,e4] at hev; simp [hs,hdr,hev,g1,g2,g3,ix,ixc,h1,h3,h4,e3,e4,lkpE,mupE,keyE,find_C,hx,zeroV,zea7,zxa7,hget,hset]
     ·simp [e3,e4,e6] at hev; simp [hs,hdr,hev,g1,g2,g3,ix,ixc,h1,h3,h4,e3,e4,e6,lkpE,mupE,keyE,find_C,hx,zeroV,zea7,zxa7,hget,hset]
   ·simp [e3,e4,e5] at hev; simp [hs,hdr,hev,g1,g2,g3,ix,h1,h3,h4,e3,e4,e5]
 ·simp [hs,allI]
 ·rw [List.drop_zero]
  generalize allI (evB es m) es 0 = B
  rintro ⟨y,s⟩ hq
  cases B with
  | false =>
   obtain ⟨rfl,hq⟩:=hq
   simp [hq]
  | true =>
   obtain ⟨rfl,os,hq⟩:=hq
   dsimp only at hq
   simp [hq])
end Go.Am.E

set_option maxRecDepth 10000
set_option maxHeartbeats 4000000
namespace Go.Am.E
open Go.Proofs Go.Rc Go.Rg
attribute [local simp] Evt.cells
def okN (es : List Evt) (X : Nat) (sn : List Nat) : List Int → Option (List Nat)
 | [] => some sn
 | i :: l => if i < 0 ∨ (es.length : Int) ≤ i ∨ i.toNat ∈ sn ∨ wAt es i.toNat = false ∨ oAt es i.toNat ≠ X then none else okN es X (sn ++ [i.toNat]) l
def okM (es : List Evt) : Nat → List Nat → List (List Int) → Option (List Nat)
 | _,sn,[] => some sn
 | X,sn,l :: r => match okN es X sn l with
  | none => none
  | some s => okM es (X + 1) s r
abbrev cI (l : List Nat) : List Int:=l.map fun n : Nat => (n : Int)
theorem okN_L (es : List Evt) (X : Nat) : ∀ (l : List Int) (sn : List Nat),okL (wAt es) (oAt es) es.length X (cI sn) l = (okN es X sn l).map cI
 | [],sn => rfl
 | i :: l,sn => by
  rw [okL,okN]
  by_cases h0 : i < 0
  ·rw [if_pos (.inl h0),if_pos (.inl h0)]; rfl
  ·have hm : i ∈ cI sn ↔ i.toNat ∈ sn:=by
    simp only [List.mem_map]
    constructor
    ·rintro ⟨n,h,rfl⟩; simpa using h
    ·intro h; exact ⟨_,h,by omega⟩
   simp only [hm]
   split
   ·rfl
   ·rw [← okN_L es X l (sn ++ [i.toNat])]
    congr 1
    simp
    omega
theorem okM_P (es : List Evt) : ∀ (r : List (List Int)) (X : Nat) (sn : List Nat),okP (wAt es) (oAt es) es.length X (cI sn) r = (okM es X sn r).map cI
 | [],X,sn => rfl
 | l :: r,X,sn => by
  rw [okP,okM,okN_L]
  cases okN es X sn l with
  | none => rfl
  | some s => exact okM_P es r (X + 1) s
abbrev mO (s : List Nat) : TObj:=.plain (.blk (.map (MI s)))
abbrev S103 (es : List Evt) (rf : List Int) (ms : List (List Int)) (s : List Nat) : zgb7:=[((2,0),GO es (nnI rf) (moD ms)),((101,0),mO s)]
abbrev E103 (es : List Evt) (ms : List (List Int)) (c X : Nat) (r1 r2 : Env) : Env:=(1,.ref ((2,0),0,0) 0) :: (3,.dat (Nn es.length)) :: (4,.dat (Nn c)) :: (8,.bref false ((101,0),0,0)) :: (r1 ++ ((102,.dat (.sl (moD ms))) :: (103,.dat (Nn ms.length)) :: (104,.dat (Nn X)) :: r2))
theorem in103 (es : List Evt) (rf : List Int) (ms : List (List Int)) (hn : es.length ≤ 64) (hm : ms.length ≤ 8) (c X : Nat) (l : List Int) (hl : l.length ≤ 9223372036854775807) : ∀ (f i : Nat) (sn : List Nat) (st : St),i + f = l.length →
  hd [1,3,4,8,9,102,103,104,109,110,111] [] st = some ⟨E103 es ms c X [(9,.dat (Nn X))] [(109,.dat (.sl (nnI l))),(110,.dat (Nn l.length)),(111,.dat (Nn i))],S103 es rf ms sn⟩ →
  Ev (zva7 (exec K l103_1) st) (oQ (RQ 2) (fun t q => q.1 = .exit 5 ∧ hd [1,3,4,8,102,103,104] [] q.2 = some ⟨E103 es ms c X [] [],S103 es rf ms t⟩) (okN es X sn (l.drop i))):=by
 intro f
 induction f with
 | zero =>
  intro i sn st hi hs
  have e : i = l.length:=by omega
  subst e
  apply zle7
  simp [hs,okN]
 | succ f ih =>
  intro i sn st hi hs
  obtain ⟨v,hx⟩ : ∃ y,l[i]? = some y:=⟨_,List.getElem?_eq_getElem (by omega)⟩
  obtain ⟨v2,v3,v4⟩ : (∀ h : i < l.length,l[i] = v) ∧ (i : Int) < l.length ∧ i < l.length:=by
   obtain ⟨h1,h2⟩:=List.getElem?_eq_some_iff.1 hx
   exact ⟨fun _ => h2,by omega,h1⟩
  have ix:=wrap_ix v4 hl
  rw [drop_get hx,okN]
  apply zle7
  by_cases h0 : v < 0
  ·rw [if_pos (.inl h0)]
   simp [hs,hx,v2,v3,v4,ix,h0]
  ·obtain ⟨w,rfl⟩:=Int.eq_ofNat_of_zero_le (show 0 ≤ v by omega)
   by_cases h1 : (es.length : Int) ≤ w
   ·rw [if_pos (.inr (.inl h1))]
    simp [hs,hx,v2,v3,v4,ix,h0,h1]
   ·have hw : w < es.length:=by omega
    have hz:=List.getElem?_eq_getElem hw
    generalize es[w] = z at hz
    obtain ⟨z2,z3,z4⟩:=zkc7 hz
    have h2:=run148 z
    simp only [Int.toNat_natCast]
    have hwA : wAt es w = wrE z:=by simp [wAt,hz]
    have hoA : oAt es w = z.obj:=by simp [oAt,hz]
    rw [hwA,hoA]
    have ih:=ih (i + 1) (sn ++ [w])
    generalize wrE z = b at *
    obtain ⟨ag,idx,kind,obj,mux,ent,ord,rd,wr⟩:=z
    simp only [Evt.dat,Evt.cells] at h2
    cases hq : ixI w sn with
    | some j =>
     have hmem:=ixI_mem hq
     have hg:=MI_get hq
     rw [if_pos (.inr (.inr (.inl hmem)))]
     simp [hs,hx,v2,v3,v4,ix,h0,h1,lkpE,keyE,find_I,hq,hg,zeroV]
    | none =>
     have hno:=ixI_none.1 hq
     cases b with
     | false =>
      rw [if_pos (.inr (.inr (.inr (.inl rfl))))]
      simp [hs,hx,v2,v3,v4,ix,h0,h1,lkpE,keyE,find_I,hq,zeroV,hz,z2,z3,z4,h2]
     | true =>
      by_cases e : obj = X
      ·subst e
       rw [if_neg (by simp [h0,hno]; omega)]
       simp [hs,hx,v2,v3,v4,ix,h0,h1,lkpE,mupE,keyE,find_I,hq,zeroV,hz,z2,z3,z4,h2,zea7,zxa7]
       exact ih _ (by omega) (by simp)
      ·rw [if_pos (.inr (.inr (.inr (.inr (by simpa using e)))))]
       simp [hs,hx,v2,v3,v4,ix,h0,h1,lkpE,keyE,find_I,hq,zeroV,hz,z2,z3,z4,h2,e]
theorem mos103 (es : List Evt) (rf : List Int) (ms : List (List Int)) (hn : es.length ≤ 64) (hm : ms.length ≤ 8) (hl : ∀ l ∈ ms,l.length ≤ 9223372036854775807) (c : Nat) : ∀ (f X : Nat) (sn : List Nat) (st : St),X + f = ms.length →
  hd [1,3,4,8,102,103,104] [] st = some ⟨E103 es ms c X [] [],S103 es rf ms sn⟩ →
  Ev (zva7 (exec K l103_2) st) (oQ (RQ 2) (fun t q => q.1 = .exit 3 ∧ hd [4,8] [] q.2 = some ⟨[(4,.dat (Nn c)),(8,.bref false ((101,0),0,0))],S103 es rf ms t⟩) (okM es X sn (ms.drop X))):=by
 intro f
 induction f with
 | zero =>
  intro X sn st hi hs
  have e : X = ms.length:=by omega
  subst e
  apply zle7
  simp [hs,okM]
 | succ f ih =>
  intro X sn st hi hs
  obtain ⟨l,hx⟩ : ∃ y,ms[X]? = some y:=⟨_,List.getElem?_eq_getElem (by omega)⟩
  obtain ⟨v2,v3,v4⟩ : (∀ h : X < ms.length,ms[X] = l) ∧ (X : Int) < ms.length ∧ X < ms.length:=by
   obtain ⟨h1,h2⟩:=List.getElem?_eq_some_iff.1 hx
   exact ⟨fun _ => h2,by omega,h1⟩
  have ix : Ix X:=by unfold Ix; omega
  have hlen:=hl l (List.mem_of_getElem? hx)
  have hin:=in103 es rf ms hn hm c X l hlen l.length 0 sn
  rw [drop_get hx,okM]
  rw [List.drop_zero] at hin
  apply zle7
  simp [hs,hx,v2,v3,v4,ix]
  simp only [zca7]
  refine (hin _ (by omega) (by simp)).mono ?_
  rintro ⟨y,s⟩ hq
  cases hk : okN es X sn l with
  | none =>
   rw [hk] at hq
   obtain ⟨rfl,hq⟩:=hq
   simp [hq]
  | some t =>
   rw [hk] at hq
   obtain ⟨rfl,hq⟩:=hq
   dsimp only at hq
   have ih:=ih (X + 1) t
   simp [hq,ix]
   exact ih _ (by omega) (by simp)
end Go.Am.E

set_option maxRecDepth 10000
set_option maxHeartbeats 4000000
namespace Go.Am.E
open Go.Proofs Go.Rc Go.Rg
attribute [local simp] Evt.cells
def cW (es : List Evt) (k : Nat) : Nat:=((List.range k).filter (wAt es)).length
theorem cW_succ {es : List Evt} {k : Nat} {x : Evt} (h : es[k]? = some x) : cW es (k + 1) = if wrE x = true then cW es k + 1 else cW es k:=by
 have e : wAt es k = wrE x:=by simp only [wAt,h]
 simp only [cW,List.range_succ,List.filter_append,List.length_append,List.filter_cons,List.filter_nil,e]
 split <;> simp
theorem cW_le (es : List Evt) (k : Nat) : cW es k ≤ k:=by
 have h:=List.length_filter_le (wAt es) (List.range k)
 simpa [cW] using h
abbrev E103a (es : List Evt) (c : Nat) (r : Env) : Env:=(1,.ref ((2,0),0,0) 0) :: (3,.dat (Nn es.length)) :: (4,.dat (Nn c)) :: r
theorem srcs103 (es : List Evt) (rf : List Int) (ms : List (List Int)) (hn : es.length ≤ 64) (hrl : rf.length = es.length) (st : St)
  (hs : hd [1,3,4,41,42,43] [1,41] st = some ⟨E103a es 0 [(41,.dat (.sl (es.map Evt.dat))),(42,.dat (Nn es.length)),(43,.dat (Nn 0))],S114 es rf ms⟩) :
  Ev (zva7 (exec K l103_0) st) (bQ (fun q => q.1 = .exit 0 ∧ hd [1,3,4] [] q.2 = some ⟨E103a es (cW es es.length) [],S114 es rf ms⟩) (RQ 2) (allI (fun i x => srcB es i x (nxt rf i)) es 0)):=by
 refine zwc7 (live:=[1,3,4,41,42,43]) (drop:=[1,41]) es (by omega) (fun k => ⟨E103a es (cW es k) [(41,.dat (.sl (es.map Evt.dat))),(42,.dat (Nn es.length)),(43,.dat (Nn k))],S114 es rf ms⟩)
  (fun k => bQ (fun q => q.1 = .exit 0 ∧ hd [1,3,4] [] q.2 = some ⟨E103a es (cW es es.length) [],S114 es rf ms⟩) (RQ 2) (allI (fun i x => srcB es i x (nxt rf i)) (es.drop k) k)) (fun i x s g1 g2 g3 ix hs => ?_) (fun s hs => ?_) _ (by simpa [cW] using hs)
 ·have hdr:=zcf7 (f:=fun i x => srcB es i x (nxt rf i)) g1
  have hi:=(zkc7 g1).2.2
  have hr1 : i < rf.length:=by omega
  have hr3 : (i : Int) < rf.length:=by omega
  have hr2 : rf[i]'hr1 = nxt rf i:=by simp [nxt,hr1]
  have hr4 : rf[i]? = some (nxt rf i):=by rw [List.getElem?_eq_getElem hr1,hr2]
  have h1:=run111 x
  have h5:=run148 x
  have hsu:=cW_succ g1
  have hle:=cW_le es i
  have ixc : Ix (cW es i):=by unfold Ix; omega
  generalize cW es es.length = ce at *
  generalize cW es i = c at *
  try dsimp only at hdr
  have hev : srcB es i x (nxt rf i) = if rdE x = true then (if 0 ≤ nxt rf i ∧ nxt rf i < es.length then (!decide (nxt rf i = i) && isW es x (nxt rf i).toNat) else decide (nxt rf i = -1)) else decide (nxt rf i = -2):=rfl
  generalize srcB es i x (nxt rf i) = sv at *
  generalize nxt rf i = w at *
  generalize rdE x = r at *
  cases r with
  | false =>
   generalize wrE x = b at *
   obtain ⟨ag,idx,kind,obj,mux,ent,ord,rd,wr⟩:=x
   simp only [Evt.dat,Evt.cells] at h1 h5
   by_cases e : w = -2
   ·subst e
    cases b <;> (simp at hev hsu; simp [hs,hdr,hev,hsu,g1,g2,g3,ix,ixc,hr1,hr2,hr3,hr4,h1,h5])
   ·simp [e] at hev; simp [hs,hdr,hev,g1,g2,g3,ix,ixc,hr1,hr2,hr3,hr4,h1,h5,e]
  | true =>
   by_cases e1 : w = -1
   ·subst e1
    generalize wrE x = b at *
    obtain ⟨ag,idx,kind,obj,mux,ent,ord,rd,wr⟩:=x
    simp only [Evt.dat,Evt.cells] at h1 h5
    cases b <;> (simp at hev hsu; simp [hs,hdr,hev,hsu,g1,g2,g3,ix,ixc,hr1,hr2,hr3,hr4,h1,h5])
   by_cases h0 : w < 0
   ·have h0' : ¬ 0 ≤ w:=by omega
    obtain ⟨ag,idx,kind,obj,mux,ent,ord,rd,wr⟩:=x
    simp only [Evt.dat,Evt.cells] at h1 h5
    simp [e1,h0'] at hev; simp [hs,hdr,hev,g1,g2,g3,ix,ixc,hr1,hr2,hr3,hr4,h1,h5,e1,h0]
   ·obtain ⟨wn,rfl⟩:=Int.eq_ofNat_of_zero_le (show 0 ≤ w by omega)
    by_cases hw : wn < es.length
    ·have hz:=List.getElem?_eq_getElem hw
     generalize es[wn] = z at hz
     obtain ⟨z2,z3,z4⟩:=zkc7 hz
     have h2:=run148 z
     have hw1 : ¬ (es.length : Int) ≤ wn:=by omega
     rw [if_pos (by simp),if_pos (by omega)] at hev
     simp only [isW,Int.toNat_natCast,hz] at hev
     generalize wrE z = v at *
     generalize wrE x = b at *
     obtain ⟨ag,idx,kind,obj,mux,ent,ord,rd,wr⟩:=x
     obtain ⟨ag',idx',kind',obj',mux',ent',ord',rd',wr'⟩:=z
     simp only [Evt.dat,Evt.cells] at h1 h2 h5
     dsimp only at hev hsu
     by_cases e : wn = i
     ·subst e
      simp at hev; simp [hs,hdr,hev,g1,g2,g3,ix,ixc,hr1,hr2,hr3,hr4,h1,h5,e1,h0,hw1]
     ·have e' : ¬ (wn : Int) = i:=by omega
      cases v
      ·simp at hev; simp [hs,hdr,hev,g1,g2,g3,ix,ixc,hr1,hr2,hr3,hr4,h1,h2,h5,e1,h0,hw1,e,e',hz,z2,z3,z4]
      ·by_cases eo : obj' = obj
       ·subst eo
        cases b <;> (simp [e,e'] at hev hsu; simp [hs,hdr,hev,hsu,g1,g2,g3,ix,ixc,hr1,hr2,hr3,hr4,h1,h2,h5,e1,h0,hw1,e,e',hz,z2,z3,z4])
       ·simp [e,e',eo] at hev; simp [hs,hdr,hev,g1,g2,g3,ix,ixc,hr1,hr2,hr3,hr4,h1,h2,h5,e1,h0,hw1,e,e',hz,z2,z3,z4,eo]
    ·have hw1 : (es.length : Int) ≤ wn:=by omega
     have hw2 : ¬ (wn : Int) < es.length:=by omega
     obtain ⟨ag,idx,kind,obj,mux,ent,ord,rd,wr⟩:=x
     simp only [Evt.dat,Evt.cells] at h1 h5
     rw [if_pos (by simp),if_neg (by omega)] at hev
     simp [e1] at hev; simp [hs,hdr,hev,g1,g2,g3,ix,ixc,hr1,hr2,hr3,hr4,h1,h5,e1,h0,hw,hw1,hw2]
 ·simp [hs,allI]
def vaP (es : List Evt) (rf : List Int) (ms : List (List Int)) : Bool:=allI (evB es ms.length) es 0 && (allI (fun i x => srcB es i x (nxt rf i)) es 0 && moP (wAt es) (oAt es) es.length ms)
theorem run103 (es : List Evt) (rf : List Int) (ms : List (List Int)) (hn : es.length ≤ 64) (hrl : rf.length = es.length) (hm : ms.length ≤ 8) (hl : ∀ l ∈ ms,l.length ≤ 9223372036854775807) :
  K 103 [.dat (GD es (nnI rf) (moD ms))] [] = some (.dat (.bool (vaP es rf ms)),[]):=ce rfl (by
 have h1:=run147 es ms.length hn (by omega)
 have h2:=srcs103 es rf ms hn hrl
 have h3:=mos103 es rf ms hn hm hl (cW es es.length) ms.length 0 []
 have e1 : ¬ (64 : Int) < es.length:=by omega
 have e2 : ¬ (8 : Int) < ms.length:=by omega
 have h4:=okM_P es ms 0 []
 rw [List.drop_zero] at h3
 unfold vaP moP
 rw [show okP (wAt es) (oAt es) es.length 0 [] ms = _ from h4]
 generalize allI (evB es ms.length) es 0 = v1 at *
 generalize allI (fun i x => srcB es i x (nxt rf i)) es 0 = v2 at *
 have hcw : ((List.range es.length).filter (wAt es)).length = cW es es.length:=rfl
 rw [hcw]
 generalize cW es es.length = c at *
 cases v1 with
 | false => simp [h1,e1,e2,hrl]
 | true =>
  simp [h1,e1,e2,hrl]
  simp only [zca7]
  refine (h2 _ (by simp)).mono ?_
  rintro ⟨y,s⟩ hq
  cases v2 with
  | false =>
   obtain ⟨rfl,hq⟩:=hq
   simp [hq]
  | true =>
   obtain ⟨rfl,hq⟩:=hq
   dsimp only at hq
   simp [hq]
   simp only [zca7]
   refine (h3 _ (by omega) (by simp [MI])).mono ?_
   rintro ⟨y,s⟩ hq
   cases hk : okM es 0 [] ms with
   | none =>
    rw [hk] at hq
    obtain ⟨rfl,hq⟩:=hq
    simp [hq]
   | some t =>
    rw [hk] at hq
    obtain ⟨rfl,hq⟩:=hq
    dsimp only at hq
    simp [hq,lenME,MI])
end Go.Am.E

set_option maxRecDepth 10000
set_option maxHeartbeats 4000000
namespace Go.Am.E
open Go.Proofs Go.Rc Go.Rg
theorem va_eq (es : List Evt) (rf : List Int) (ms : List (List Int)) : vaP es rf ms = vaR es rf ms:=by
 unfold vaP vaR
 cases h1 : allI (evB es ms.length) es 0 with
 | false => rfl
 | true =>
  have hev:=allI_iff.1 h1
  have hob : ∀ i,i < es.length → wAt es i = true → 0 ≤ oAt es i ∧ oAt es i < ms.length:=by
   intro i hi hw
   have hx:=List.getElem?_eq_getElem hi
   generalize es[i] = x at hx
   have h:=hev i x hx
   rw [Nat.zero_add] at h
   simp only [wAt,hx] at hw
   simp only [oAt,hx]
   simp only [evB,Bool.and_eq_true,Bool.not_eq_true',Bool.and_eq_false_iff,Bool.or_eq_false_iff,decide_eq_true_eq,decide_eq_false_iff_not] at h
   obtain ⟨hv,_,_,_,_,h⟩:=h
   refine ⟨(vld_facts hv).2.2.1,?_⟩
   rcases h with h | h
   ·rw [h.2] at hw; cases hw
   ·omega
  rw [mo_same hob]
  have e : moR (wAt es) (oAt es) es.length ms = allI (fO es) ms 0:=by
   rw [Bool.eq_iff_iff,moR_iff,allI_iff]
   constructor
   ·intro h X l hl
    obtain ⟨h1,h2⟩:=h X l hl
    rw [Nat.zero_add,fO,Bool.and_eq_true,allI_iff,decide_eq_true_eq]
    refine ⟨fun i x hx => ?_,by rw [h2]; simp [wrsX,cX]⟩
    rw [Nat.zero_add,fX]
    cases hc : (wrE x && decide (x.obj = X)) with
    | false => rfl
    | true =>
     simp only [Bool.and_eq_true,decide_eq_true_eq] at hc
     have hi:=(zkc7 hx).2.2
     have:=h1 i (mem_wrsX.2 ⟨by omega,by omega,by simp [wAt,hx,hc.1],by simp [oAt,hx,hc.2]⟩)
     simp [this]
   ·intro h X l hl
    have h:=h X l hl
    rw [Nat.zero_add,fO,Bool.and_eq_true,allI_iff,decide_eq_true_eq] at h
    obtain ⟨h1,h2⟩:=h
    refine ⟨fun i hi => ?_,by rw [h2]; simp [wrsX,cX]⟩
    obtain ⟨g0,g1,g2,g3⟩:=mem_wrsX.1 hi
    have hlt : i.toNat < es.length:=by omega
    have hx:=List.getElem?_eq_getElem hlt
    generalize es[i.toNat] = x at hx
    have h:=h1 i.toNat x hx
    simp only [wAt,hx] at g2
    simp only [oAt,hx] at g3
    rw [Nat.zero_add,fX,g2,g3] at h
    simp at h
    rwa [show max i 0 = i from by omega] at h
  rw [e]
structure Vg (es : List Evt) (rf : List Int) (ms : List (List Int)) : Prop where
 ev : ∀ i x,es[i]? = some x → evB es ms.length i x = true
 src : ∀ i x,es[i]? = some x → srcB es i x (nxt rf i) = true
 len : rf.length = es.length
theorem vg_of {es : List Evt} {rf : List Int} {ms : List (List Int)} (hrl : rf.length = es.length) (h : vaR es rf ms = true) : Vg es rf ms:=by
 simp only [vaR,Bool.and_eq_true] at h
 exact ⟨fun i x hx => by have:=allI_iff.1 h.1 i x hx; rwa [Nat.zero_add] at this,fun i x hx => by have:=allI_iff.1 h.2.1 i x hx; rwa [Nat.zero_add] at this,hrl⟩
section
variable {es : List Evt} {rf : List Int} {ms : List (List Int)}
theorem Vg.vld (h : Vg es rf ms) {i : Nat} {x : Evt} (hx : es[i]? = some x) : vld x = true ∧ x.kind ≠ 3 ∧ x.kind ≠ 4:=by
 have h:=h.ev i x hx
 simp only [evB,Bool.and_eq_true,Bool.not_eq_true',decide_eq_false_iff_not] at h
 exact ⟨h.1,h.2.1,h.2.2.1⟩
theorem Vg.nxt (h : Vg es rf ms) {i : Nat} {x : Evt} (hx : es[i]? = some x) : nxt rf i < es.length ∧ (0 ≤ nxt rf i → rdE x = true ∧ wAt es (nxt rf i).toNat = true):=by
 have h:=h.src i x hx
 unfold srcB at h
 have hp : (0 : Int) ≤ es.length:=by omega
 split at h
 ·rename_i hr
  split at h
  ·rename_i hw
   refine ⟨hw.2,fun _ => ⟨hr,?_⟩⟩
   simp only [Bool.and_eq_true,isW] at h
   have h:=h.2
   simp only [wAt]
   split at h
   ·rename_i y hy
    simp only [Bool.and_eq_true] at h
    simp only [hy]
    exact h.1
   ·cases h
  ·simp at h; omega
 ·simp at h; omega
theorem Vg.lt (h : Vg es rf ms) (w : Nat) : Go.Am.E.nxt rf w < es.length:=by
 by_cases hw : w < es.length
 ·exact (h.nxt (List.getElem?_eq_getElem hw)).1
 ·have : Go.Am.E.nxt rf w = -2:=by
   unfold Go.Am.E.nxt
   rw [List.getD_eq_getElem?_getD,List.getElem?_eq_none (by rw [h.len]; omega)]
   rfl
  omega
theorem wAt_of {i : Nat} (h : wAt es i = true) : ∃ x,es[i]? = some x ∧ wrE x = true:=by
 unfold wAt at h
 split at h
 ·rename_i x hx; exact ⟨x,hx,h⟩
 ·cases h
theorem chn_congr {nx nx' : Nat → Int} {good : Nat → Prop} (hg : ∀ x,good x → nx x = nx' x ∧ (0 ≤ nx x → good (nx x).toNat)) : ∀ (f : Nat) (w : Int) (seen : List Nat),(0 ≤ w → good w.toNat) → chn nx f w seen = chn nx' f w seen ∧ ∀ a ∈ chn nx f w seen,good a
 | 0,w,seen,_ => by simp [chn]
 | f + 1,w,seen,hw => by
  rw [chn,chn]
  split
  ·rename_i hc
   obtain ⟨h1,h2⟩:=hg _ (hw hc.1)
   obtain ⟨h3,h4⟩:=chn_congr hg f (nx w.toNat) (seen ++ [w.toNat]) h2
   rw [h3,h1]
   refine ⟨rfl,fun a ha => ?_⟩
   rcases List.mem_cons.1 ha with rfl | ha
   ·exact hw hc.1
   ·rw [← h1,← h3] at ha
    exact h4 a ha
  ·simp
theorem back_congr {nx nx' : Nat → Int} {good : Nat → Prop} {rmw : Nat → Bool} {a : Nat} (hg : ∀ x,good x → nx x = nx' x ∧ (0 ≤ nx x → good (nx x).toNat)) : ∀ (f : Nat) (w : Int),(0 ≤ w → good w.toNat) → back rmw nx a f w = back rmw nx' a f w
 | 0,w,_ => rfl
 | f + 1,w,hw => by
  rw [back,back]
  split
  ·rename_i hc
   obtain ⟨h1,h2⟩:=hg _ (hw hc)
   rw [back_congr hg f _ h2,h1]
  ·rfl
def nxW (es : List Evt) (rf : List Int) (w : Nat) : Int:=if wAt es w = true then Go.Am.E.nxt rf w else -2
theorem Vg.chain (h : Vg es rf ms) {b : Nat} {y : Evt} (hb : es[b]? = some y) (a : Nat) :
  (a ∈ chn (Go.Am.E.nxt rf) (es.length + 1) (Go.Am.E.nxt rf b) [] ↔ back (rmwE es) (Go.Am.E.nxt rf) a (es.length + 1) (Go.Am.E.nxt rf b) = true) ∧ (a ∈ chn (Go.Am.E.nxt rf) (es.length + 1) (Go.Am.E.nxt rf b) [] → wAt es a = true):=by
 have hg : ∀ x,wAt es x = true → Go.Am.E.nxt rf x = nxW es rf x ∧ (0 ≤ Go.Am.E.nxt rf x → wAt es (Go.Am.E.nxt rf x).toNat = true):=by
  intro x hx
  refine ⟨by rw [nxW,if_pos hx],fun h0 => ?_⟩
  obtain ⟨z,hz,_⟩:=wAt_of hx
  exact ((h.nxt hz).2 h0).2
 have hw : 0 ≤ Go.Am.E.nxt rf b → wAt es (Go.Am.E.nxt rf b).toNat = true:=fun h0 => ((h.nxt hb).2 h0).2
 obtain ⟨h1,h2⟩:=chn_congr hg (es.length + 1) (Go.Am.E.nxt rf b) [] hw
 refine ⟨?_,h2 a⟩
 rw [h1,back_congr hg (es.length + 1) (Go.Am.E.nxt rf b) hw]
 apply chn_back
 ·intro x hx
  unfold nxW
  split
  ·rename_i hwx
   obtain ⟨z,hz,hwz⟩:=wAt_of hwx
   simp only [rmwE,hz,decide_eq_false_iff_not] at hx
   have hk : z.kind = 2:=by simpa [wrE,hx] using hwz
   refine Classical.byContradiction fun h0 => ?_
   have:=((h.nxt hz).2 (by omega)).1
   simp [rdE,hk] at this
  ·omega
 ·intro x
  unfold nxW
  split
  ·exact h.lt x
  ·omega
 ·exact h.lt b
theorem mu_same {x : Evt} (h : Go.Rc.vld x = true) : muE x = muR x:=by
 have hf:=vld_facts h
 unfold muE muR
 split
 ·rfl
 ·split
  ·rfl
  ·rename_i h2
   exact (hf.2.2.2.2 h2).symm
theorem cf_same {x y : Evt} (hx : Go.Rc.vld x = true ∧ x.kind ≠ 3 ∧ x.kind ≠ 4) (hy : Go.Rc.vld y = true ∧ y.kind ≠ 3 ∧ y.kind ≠ 4) : cfP x y = cfR x y:=by
 have key : ∀ {e : Evt},Go.Rc.vld e = true ∧ e.kind ≠ 3 ∧ e.kind ≠ 4 → acE e = ((Go.Rc.vld e && rdE e) || wr3 e):=by
  intro e h
  have hf:=vld_facts h.1
  have h0 : 0 ≤ e.ag:=by
   refine Classical.byContradiction fun hn => h.2.2 (hf.2.1.1 (by omega))
  simp only [acE,rdE,wr3,h.1,h0,Bool.true_and,decide_true,Bool.and_true]
  by_cases h1 : e.kind = 1 <;> by_cases h2 : e.kind = 2 <;> by_cases h5 : e.kind = 5 <;> by_cases h6 : e.kind = 6 <;> by_cases h8 : e.kind = 8 <;> by_cases h3 : e.kind = 3 <;> simp [h1,h2,h3,h5,h6,h8]
 unfold cfP cfR
 rw [key hx,key hy]
 generalize (Go.Rc.vld x && rdE x || wr3 x) = p
 generalize (Go.Rc.vld y && rdE y || wr3 y) = q
 generalize decide (x.ag = y.ag) = r
 cases p <;> cases q <;> cases r <;> rfl
theorem Vg.hb (h : Vg es rf ms) : hbP es rf = hbR es rf:=by
 unfold hbP hbR clo
 have e : memP [poL es,soL es,swR es rf].flatten = memP (prs es.length (uB es rf)):=by
  funext a b
  unfold memP
  rw [decide_eq_decide]
  simp only [List.flatten_cons,List.flatten_nil,List.append_nil,List.mem_append,poL,soL,swR,prs_mem,decide_eq_true_eq]
  by_cases hab : a < es.length ∧ b < es.length
  ·obtain ⟨ha,hb⟩:=hab
   have hxa:=List.getElem?_eq_getElem ha
   have hyb:=List.getElem?_eq_getElem hb
   generalize es[a] = x at hxa
   generalize es[b] = y at hyb
   have h1 : poP es a b = poB a b x y:=poP_some hxa hyb
   have h2 : soP es a b = syncR a b x y:=by
    simp only [soP,hxa,hyb,syncR,sameE',mu_same (h.vld hxa).1,mu_same (h.vld hyb).1]
   have h3 : (a,b) ∈ swL es rf es.length ↔ swB es rf a b x y = true:=by
    rw [swL_mem es rf a b es.length (Nat.le_refl _),swB]
    obtain ⟨c1,c2⟩:=h.chain hyb a
    simp only [Bool.and_eq_true,decide_eq_true_eq]
    constructor
    ·rintro ⟨_,y',hy',hr,hm,x',hx',ho⟩
     rw [hyb] at hy'; cases hy'
     rw [hxa] at hx'; cases hx'
     have hw:=c2 hm
     simp only [wAt,hxa] at hw
     exact ⟨⟨⟨hw,ho⟩,hr⟩,c1.1 hm⟩
    ·rintro ⟨⟨⟨hw,ho⟩,hr⟩,hk⟩
     exact ⟨hb,y,hyb,hr,c1.2 hk,x,hxa,ho⟩
   have h4 : uB es rf a b = (poB a b x y || syncR a b x y || swB es rf a b x y):=by simp [uB,hxa,hyb,nmB]
   simp only [h1,h2,h3,h4,ha,hb,true_and,Bool.or_eq_true]
   rw [or_assoc]
  ·constructor
   ·rintro (h | h | h) <;> exact absurd ⟨h.1,h.2.1⟩ hab
   ·rintro h; exact absurd ⟨h.1,h.2.1⟩ hab
 rw [e]
theorem Vg.races (h : Vg es rf ms) : prs es.length (reP cfP es (hbP es rf)) = prs es.length (reP cfR es (hbR es rf)):=by
 rw [h.hb]
 apply prs_congr
 intro a b ha hb
 have hxa:=List.getElem?_eq_getElem ha
 have hyb:=List.getElem?_eq_getElem hb
 generalize es[a] = x at hxa
 generalize es[b] = y at hyb
 simp only [reP,hxa,hyb,cf_same (h.vld hxa) (h.vld hyb)]
end
end Go.Am.E

set_option maxRecDepth 10000
set_option maxHeartbeats 4000000
namespace Go.Am.E
open Go.Proofs Go.Rc Go.Rg
attribute [local simp] Evt.cells
theorem bad103 (es : List Evt) (rf : List Int) (ms : List (List Int)) (h : 64 < es.length ∨ rf.length ≠ es.length ∨ 8 < ms.length) :
  K 103 [.dat (GD es (nnI rf) (moD ms))] [] = some (.dat (.bool false),[]):=ce rfl (by
 by_cases h1 : 64 < es.length
 ·have h1' : (64 : Int) < es.length:=by omega
  simp [h1,h1']
 ·have h1' : ¬ (64 : Int) < es.length:=by omega
  by_cases h2 : 8 < ms.length
  ·have h2' : (8 : Int) < ms.length:=by omega
   simp [h1,h1',h2,h2']
  ·have h2' : ¬ (8 : Int) < ms.length:=by omega
   have h3 : rf.length ≠ es.length:=by omega
   have h3' : ¬ (rf.length : Int) = es.length:=by omega
   simp [h1,h1',h2,h2',h3,h3'])
theorem bad114 (es : List Evt) (rf : List Int) (ms : List (List Int)) (h : 64 < es.length ∨ rf.length ≠ es.length ∨ 8 < ms.length) :
  K 114 [.dat (GD es (nnI rf) (moD ms))] [] = some (.dat (.bool false),[]):=ce rfl (by
 by_cases h1 : 64 < es.length
 ·have h1' : (64 : Int) < es.length:=by omega
  simp [h1,h1']
 ·have h1' : ¬ (64 : Int) < es.length:=by omega
  by_cases h3 : rf.length = es.length
  ·have h2 : 8 < ms.length:=by omega
   have h2' : (8 : Int) < ms.length:=by omega
   simp [h1,h1',h2,h2',h3]
  ·have h3' : ¬ (rf.length : Int) = es.length:=by omega
   simp [h1,h1',h3,h3'])
def fewN (es : List Evt) (rf : List Int) (ms : List (List Int)) : Nat → Int
 | 0 => IntKind.wrap .i64 (IntKind.wrap .i64 ((es.length : Int) + rf.length) + ms.length)
 | k + 1 => IntKind.wrap .i64 (fewN es rf ms k + (ms.getD k []).length)
theorem run14 (es : List Evt) (rf : List Int) (ms : List (List Int)) : ∃ b,K 14 [.dat (GD es (nnI rf) (moD ms)),.dat (Nn 200)] [] = some (.dat (.bool b),[]):=⟨decide (fewN es rf ms (min ms.length 100) ≤ 200),ce rfl (by
 have e0 : fewN es rf ms 0 = IntKind.wrap .i64 (IntKind.wrap .i64 ((es.length : Int) + rf.length) + ms.length):=rfl
 simp
 simp only [zca7]
 refine (znd7 (live:=[1,2,5,6]) (drop:=[]) (min ms.length 100) (fun k => ⟨[(1,.dat (Nn 200)),(2,.ref ((3,0),0,0) 0),(5,.dat (Nn (fewN es rf ms k))),(6,.dat (Nn k))],[((3,0),GO es (nnI rf) (moD ms))]⟩)
  (fun _ q => q.1 = .exit 0 ∧ hd [1,5] [] q.2 = some ⟨[(1,.dat (Nn 200)),(5,.dat (Nn (fewN es rf ms (min ms.length 100))))],[((3,0),GO es (nnI rf) (moD ms))]⟩) (fun k s hk hs => ?_) (fun s hs => ?_) (min ms.length 100) 0 _ (by omega) (by simp [e0])).mono ?_
 ·have hlt : (k : Int) < ms.length:=by omega
  have hlt2 : k < ms.length:=by omega
  have h100 : (k : Int) < 100:=by omega
  have h100' : k < 100:=by omega
  have ix : Ix k:=by unfold Ix; omega
  have hx:=List.getElem?_eq_getElem hlt2
  generalize ms[k] = l at hx
  obtain ⟨v2,v3,v4⟩ : (∀ h : k < ms.length,ms[k] = l) ∧ (k : Int) < ms.length ∧ k < ms.length:=by
   obtain ⟨h1,h2⟩:=List.getElem?_eq_some_iff.1 hx
   exact ⟨fun _ => h2,by omega,h1⟩
  have hsu : fewN es rf ms (k + 1) = IntKind.wrap .i64 (fewN es rf ms k + l.length):=by rw [fewN,List.getD_eq_getElem?_getD,hx]; rfl
  generalize fewN es rf ms k = c at *
  simp [hs,hlt,hlt2,h100,h100',ix,hx,v2,v3,v4,hsu]
 ·by_cases hc : ms.length ≤ 100
  ·rw [Nat.min_eq_left hc] at hs ⊢
   simp [hs]
  ·rw [Nat.min_eq_right (by omega)] at hs ⊢
   have h5 : (100 : Int) < ms.length:=by omega
   have h6 : 100 < ms.length:=by omega
   simp [hs,h5,h6]
 ·rintro ⟨_,s⟩ ⟨rfl,hs⟩
  dsimp only at hs
  generalize fewN es rf ms (min ms.length 100) = c at *
  by_cases hc : c ≤ 200 <;> simp [hs,hc])⟩
theorem run15 : K 15 [] [] = some (.dat (.bool true),[]):=callT_iff.2 ⟨1,rfl⟩
theorem run4n (es : List Evt) (rf mo : List Dat) (h14 : K 14 [.dat (GD es rf mo),.dat (Nn 200)] [] = some (.dat (.bool false),[])) : K 4 [.dat (GD es rf mo)] [] = some (.dat (.bool true),[]):=ce rfl (by
 have r15:=run15
 simp [h14,r15])
theorem run4y (es : List Evt) (rf mo : List Dat) (h14 : K 14 [.dat (GD es rf mo),.dat (Nn 200)] [] = some (.dat (.bool true),[])) (L : List (Nat × Nat)) (hL : L.length < 1000000) (e : Int)
  (h16 : K 16 [.dat (GD es rf mo)] [] = some (.tup [.dat (.sl (L.map PD)),.dat (Nn e)],[])) (h17 : K 17 [.dat (GD es rf mo)] [] = some (.tup [.dat (.sl (L.map PD)),.dat (Nn e)],[])) : K 4 [.dat (GD es rf mo)] [] = some (.dat (.bool true),[]):=ce rfl (by
 have r15:=run15
 have h18:=run18 L hL
 generalize L.map PD = D at *
 simp [h14,r15,h16,h17,h18])
theorem run4 (es : List Evt) (rf : List Int) (ms : List (List Int)) (hl : ∀ l ∈ ms,l.length ≤ 9223372036854775807) : K 4 [.dat (GD es (nnI rf) (moD ms))] [] = some (.dat (.bool true),[]):=by
 obtain ⟨b,h14⟩:=run14 es rf ms
 cases b with
 | false => exact run4n _ _ _ h14
 | true =>
  have bad : K 103 [.dat (GD es (nnI rf) (moD ms))] [] = some (.dat (.bool false),[]) → K 114 [.dat (GD es (nnI rf) (moD ms))] [] = some (.dat (.bool false),[]) → K 4 [.dat (GD es (nnI rf) (moD ms))] [] = some (.dat (.bool true),[]):=by
   intro g1 g2
   exact run4y es (nnI rf) (moD ms) h14 [] (by simp) 1 (run16n _ _ _ (run34n _ _ _ g1)) (run17n _ _ _ (run37n _ _ _ g2))
  by_cases hb : 64 < es.length ∨ rf.length ≠ es.length ∨ 8 < ms.length
  ·exact bad (bad103 es rf ms hb) (bad114 es rf ms hb)
  ·have hn : es.length ≤ 64:=by omega
   have hrl : rf.length = es.length:=by omega
   have hm : ms.length ≤ 8:=by omega
   have r103:=run103 es rf ms hn hrl hm hl
   have r114:=run114 es rf ms hn hrl hm hl
   rw [va_eq] at r103
   cases hv : vaR es rf ms with
   | false =>
    rw [hv] at r103 r114
    exact bad r103 r114
   | true =>
    rw [hv] at r103 r114
    have hg:=vg_of hrl hv
    have hin : inN es.length (hbP es rf):=prs_in hn
    have hin2 : inN es.length (hbR es rf):=prs_in hn
    have r16:=run16 es (nnI rf) (moD ms) _ hin (run34 es rf (moD ms) hn hrl hg.lt r103)
    have r17:=run17 es (nnI rf) (moD ms) _ hin2 (run37 es rf (moD ms) hn hrl hg.lt r114)
    rw [hg.races] at r16
    have hlen:=prs_len es.length (reP cfR es (hbR es rf))
    have hnn : es.length * es.length ≤ 64 * 64:=Nat.mul_le_mul hn hn
    exact run4y es (nnI rf) (moD ms) h14 _ (by omega) 0 r16 r17
end Go.Am.E
