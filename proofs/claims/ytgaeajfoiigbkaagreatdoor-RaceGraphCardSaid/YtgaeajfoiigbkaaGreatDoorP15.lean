/- Parts of the proofs of the statement, joined and made short: G29. -/
import Derived.Test.YtgaeajfoiigbkaaGreatDoorP14
set_option linter.unusedVariables false
set_option linter.unusedSimpArgs false
set_option linter.unusedSectionVars false
set_option maxRecDepth 10000
set_option maxHeartbeats 4000000
namespace Go.Am.E
open Go.Proofs Go.Rc Go.Rg
attribute [local simp] Evt.cells
abbrev moD (ms : List (List Int)) : List Dat:=ms.map fun l => .sl (nnI l)
def wAt (es : List Evt) (i : Nat) : Bool:=match es[i]? with
 | some y => wrE y
 | none => false
def oAt (es : List Evt) (i : Nat) : Int:=match es[i]? with
 | some y => y.obj
 | none => 0
def cX (es : List Evt) (X k : Nat) : Nat:=((List.range k).filter fun i => wAt es i && decide (oAt es i = X)).length
theorem cX_succ {es : List Evt} {X k : Nat} {x : Evt} (h : es[k]? = some x) : cX es X (k + 1) = if (wrE x && decide (x.obj = X)) = true then cX es X k + 1 else cX es X k:=by
 have e : (wAt es k && decide (oAt es k = X)) = (wrE x && decide (x.obj = X)):=by simp only [wAt,oAt,h]
 simp only [cX,List.range_succ,List.filter_append,List.length_append,List.filter_cons,List.filter_nil,e]
 split <;> simp
theorem cX_le (es : List Evt) (X k : Nat) : cX es X k ≤ k:=by
 have h:=List.length_filter_le (fun i => wAt es i && decide (oAt es i = X)) (List.range k)
 simpa [cX] using h
def fX (l : List Int) (X : Nat) (i : Nat) (x : Evt) : Bool:=!(wrE x && decide (x.obj = X)) || decide ((i : Int) ∈ l)
def fO (es : List Evt) (X : Nat) (l : List Int) : Bool:=allI (fX l X) es 0 && decide (l.length = cX es X es.length)
abbrev S114 (es : List Evt) (rf : List Int) (ms : List (List Int)) : zgb7:=[((2,0),GO es (nnI rf) (moD ms))]
theorem in114 (es : List Evt) (rf : List Int) (ms : List (List Int)) (hn : es.length ≤ 64) (X : Nat) (l : List Int) (hX : ms[X]? = some l) (hl : l.length ≤ 9223372036854775807) (st : St)
  (hs : hd [1,4,5,6] [] st = some ⟨[(1,.ref ((2,0),0,0) 0),(4,.dat (Nn X)),(5,.dat (Nn 0)),(6,.dat (Nn 0))],S114 es rf ms⟩) :
  Ev (zva7 (exec K l114_1) st) (bQ (fun q => q.1 = .exit 4 ∧ hd [1,4,5] [] q.2 = some ⟨[(1,.ref ((2,0),0,0) 0),(4,.dat (Nn X)),(5,.dat (Nn (cX es X es.length)))],S114 es rf ms⟩) (RQ 2) (allI (fX l X) es 0)):=by
 refine zwc7 (live:=[1,4,5,6]) (drop:=[]) es (by omega) (fun k => ⟨[(1,.ref ((2,0),0,0) 0),(4,.dat (Nn X)),(5,.dat (Nn (cX es X k))),(6,.dat (Nn k))],S114 es rf ms⟩)
  (fun k => bQ (fun q => q.1 = .exit 4 ∧ hd [1,4,5] [] q.2 = some ⟨[(1,.ref ((2,0),0,0) 0),(4,.dat (Nn X)),(5,.dat (Nn (cX es X es.length)))],S114 es rf ms⟩) (RQ 2) (allI (fX l X) (es.drop k) k)) (fun i x s g1 g2 g3 ix hs => ?_) (fun s hs => ?_) _ (by simpa [cX] using hs)
 ·have hdr:=zcf7 (f:=fX l X) g1
  have hi:=(zkc7 g1).2.2
  obtain ⟨m2,m3,m4⟩ : (∀ h : X < ms.length,ms[X] = l) ∧ (X : Int) < ms.length ∧ X < ms.length:=by
   obtain ⟨h1,h2⟩:=List.getElem?_eq_some_iff.1 hX
   exact ⟨fun _ => h2,by omega,h1⟩
  have hsu:=cX_succ (X:=X) g1
  have hle:=cX_le es X i
  have ixc : Ix (cX es X i):=by unfold Ix; omega
  have h1:=run156 x
  obtain ⟨p,hp1,hp2⟩:=run157 l hl i
  generalize cX es X es.length = ce at *
  generalize cX es X i = c at *
  have hev : fX l X i x = (!(wrE x && decide (x.obj = X)) || decide ((i : Int) ∈ l)):=rfl
  generalize wrE x = v at *
  obtain ⟨ag,idx,kind,obj,mux,ent,ord,rd,wr⟩:=x
  simp only [Evt.dat,Evt.cells] at h1
  dsimp only at hev hsu
  cases v with
  | false => simp at hev hsu; simp [hs,hdr,hev,hsu,g1,g2,g3,ix,h1]
  | true =>
   by_cases e : obj = X
   ·subst e
    by_cases hm : (i : Int) ∈ l
    ·have hp:=hp1.2 hm
     have hp' : ¬ p < 0:=by omega
     simp [hm] at hev hsu; simp [hs,hdr,hev,hsu,g1,g2,g3,ix,ixc,h1,hX,m2,m3,m4,hp2,hp']
    ·have hp : p < 0:=by
      have : ¬ 0 ≤ p:=fun h => hm (hp1.1 h)
      omega
     simp [hm] at hev hsu; simp [hs,hdr,hev,hsu,g1,g2,g3,ix,ixc,h1,hX,m2,m3,m4,hp2,hp]
   ·simp [e] at hev hsu; simp [hs,hdr,hev,hsu,g1,g2,g3,ix,h1,e]
 ·simp [hs,allI]
theorem srcs114 (es : List Evt) (rf : List Int) (ms : List (List Int)) (hn : es.length ≤ 64) (hrl : rf.length = es.length) (st : St)
  (hs : hd [1,3] [] st = some ⟨[(1,.ref ((2,0),0,0) 0),(3,.dat (Nn 0))],S114 es rf ms⟩) :
  Ev (zva7 (exec K l114_0) st) (bQ (fun q => q.1 = .exit 0 ∧ hd [1] [] q.2 = some ⟨[(1,.ref ((2,0),0,0) 0)],S114 es rf ms⟩) (RQ 2) (allI (fun i x => srcB es i x (nxt rf i)) es 0)):=by
 refine zwc7 (live:=[1,3]) (drop:=[]) es (by omega) (fun k => ⟨[(1,.ref ((2,0),0,0) 0),(3,.dat (Nn k))],S114 es rf ms⟩)
  (fun k => bQ (fun q => q.1 = .exit 0 ∧ hd [1] [] q.2 = some ⟨[(1,.ref ((2,0),0,0) 0)],S114 es rf ms⟩) (RQ 2) (allI (fun i x => srcB es i x (nxt rf i)) (es.drop k) k)) (fun i x s g1 g2 g3 ix hs => ?_) (fun s hs => ?_) _ hs
 ·have hdr:=zcf7 (f:=fun i x => srcB es i x (nxt rf i)) g1
  have h1:=run155 es rf (moD ms) hn hrl i x g1
  generalize srcB es i x (nxt rf i) = v at *
  cases v with
  | false => simp at hdr; simp [hs,hdr,g1,g2,g3,ix,h1]
  | true => simp at hdr; simp [hs,hdr,g1,g2,g3,ix,h1]
 ·simp [hs,allI]
theorem outs114 (es : List Evt) (rf : List Int) (ms : List (List Int)) (hn : es.length ≤ 64) (hm : ms.length < 1000) (hl : ∀ l ∈ ms,l.length ≤ 9223372036854775807) (st : St)
  (hs : hd [1,4] [] st = some ⟨[(1,.ref ((2,0),0,0) 0),(4,.dat (Nn 0))],S114 es rf ms⟩) :
  Ev (zva7 (exec K l114_2) st) (bQ (fun q => q.1 = .exit 2 ∧ hd [] [] q.2 = some ⟨[],S114 es rf ms⟩) (RQ 2) (allI (fO es) ms 0)):=by
 refine zwc7 (live:=[1,4]) (drop:=[]) ms (by omega) (fun k => ⟨[(1,.ref ((2,0),0,0) 0),(4,.dat (Nn k))],S114 es rf ms⟩)
  (fun k => bQ (fun q => q.1 = .exit 2 ∧ hd [] [] q.2 = some ⟨[],S114 es rf ms⟩) (RQ 2) (allI (fO es) (ms.drop k) k)) (fun i l s g1 g2 g3 ix hs => ?_) (fun s hs => ?_) _ hs
 ·have hdr:=zcf7 (f:=fO es) g1
  have hlen:=hl l (List.mem_of_getElem? g1)
  have hin:=in114 es rf ms hn i l g1 hlen
  have hev : fO es i l = (allI (fX l i) es 0 && decide (l.length = cX es i es.length)):=rfl
  have hle:=cX_le es i es.length
  generalize cX es i es.length = c at *
  generalize allI (fX l i) es 0 = v at *
  simp [hs,g3]
  simp only [zca7]
  refine (hin _ (by simp)).mono ?_
  rintro ⟨y,s⟩ hq
  cases v with
  | false =>
   obtain ⟨rfl,hq⟩:=hq
   simp at hev
   simp [hdr,hev,hq]
  | true =>
   obtain ⟨rfl,hq⟩:=hq
   dsimp only at hq
   by_cases e : l.length = c
   ·simp [e] at hev
    simp [hdr,hev,hq,g1,g2,g3,ix,e]
   ·have e' : ¬ (l.length : Int) = c:=by omega
    simp [e] at hev
    simp [hdr,hev,hq,g1,g2,g3,ix,e,e']
 ·simp [hs,allI]
def vaR (es : List Evt) (rf : List Int) (ms : List (List Int)) : Bool:=allI (evB es ms.length) es 0 && (allI (fun i x => srcB es i x (nxt rf i)) es 0 && allI (fO es) ms 0)
theorem run114 (es : List Evt) (rf : List Int) (ms : List (List Int)) (hn : es.length ≤ 64) (hrl : rf.length = es.length) (hm : ms.length ≤ 8) (hl : ∀ l ∈ ms,l.length ≤ 9223372036854775807) :
  K 114 [.dat (GD es (nnI rf) (moD ms))] [] = some (.dat (.bool (vaR es rf ms)),[]):=ce rfl (by
 have h1:=run154 es (nnI rf) (moD ms) hn (by simp; omega)
 have h2:=srcs114 es rf ms hn hrl
 have h3:=outs114 es rf ms hn (by omega) hl
 have e1 : ¬ (64 : Int) < es.length:=by omega
 have e2 : ¬ (8 : Int) < ms.length:=by omega
 simp only [moD,List.length_map] at h1
 unfold vaR
 generalize allI (evB es ms.length) es 0 = v1 at *
 generalize allI (fun i x => srcB es i x (nxt rf i)) es 0 = v2 at *
 generalize allI (fO es) ms 0 = v3 at *
 cases v1 with
 | false => simp [h1,e1,e2,hrl]
 | true =>
  simp [h1,e1,e2,hrl]
  simp only [zca7]
  refine (h2 _ (by simp)).mono ?_
  rintro ⟨y,s⟩ hq
  cases v2 with
  | false =>
   obtain ⟨rfl,hq⟩:=hq
   simp [hq]
  | true =>
   obtain ⟨rfl,hq⟩:=hq
   dsimp only at hq
   simp [hq]
   simp only [zca7]
   refine (h3 _ (by simp)).mono ?_
   rintro ⟨y,s⟩ hq
   cases v3 with
   | false =>
    obtain ⟨rfl,hq⟩:=hq
    simp [hq]
   | true =>
    obtain ⟨rfl,hq⟩:=hq
    dsimp only at hq
    simp [hq])
end Go.Am.E
